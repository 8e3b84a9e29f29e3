/- M13: patterns two by two; which values go with a pattern; a value for each pattern; a value that goes with more patterns. No program in sight. -/
import Derived.Test.YtjflembhgjcgkaaTP10XM8C21
set_option linter.unusedSimpArgs false
set_option linter.unusedVariables false
namespace Go.Proofs.Ytjflembhgjcgkaa
open Go.RowKit

theorem ind_pat {motive : Pat → Prop} (step : ∀ k n i s a b c l, (∀ p ∈ l, motive p) → motive (.mk k n i s a b c l)) : ∀ p, motive p := by
  intro p
  refine Pat.rec (motive_1 := motive) (motive_2 := fun l => ∀ p ∈ l, motive p) ?_ ?_ ?_ p
  · exact fun k n i s a b c l ih => step k n i s a b c l ih
  · intro p hp; cases hp
  · intro a l ha hl p hp
    rcases List.mem_cons.1 hp with rfl | h
    · exact ha
    · exact hl p h

mutual
/-- May two patterns stand in one list, through and through? -/
def twoP (g : Sg) : Pat → Pat → Prop
  | .mk k n i s a b c l, q => pairB g (.mk k n i s a b c l) q = true ∧ (k = 5 → q.kind = 5 → n = q.n → twoPL g l q.l)
def twoPL (g : Sg) : List Pat → List Pat → Prop
  | p :: l, q :: m => twoP g p q ∧ twoPL g l m
  | _, _ => True
end
theorem twoP_def {g : Sg} : ∀ {p q : Pat}, twoP g p q ↔ pairB g p q = true ∧ (p.kind = 5 → q.kind = 5 → p.n = q.n → twoPL g p.l q.l)
  | .mk .., q => Iff.rfl
theorem twoPL_iff {g : Sg} : ∀ {l m : List Pat}, twoPL g l m ↔ ∀ (j : Nat) (p q : Pat), l[j]? = some p → m[j]? = some q → twoP g p q
  | [], m => ⟨fun _ j p q h => by simp at h, fun _ => by cases m <;> exact trivial⟩
  | p :: l, [] => ⟨fun _ j p q h h' => by simp at h', fun _ => trivial⟩
  | p :: l, q :: m => by
    simp only [twoPL]
    constructor
    · rintro ⟨h1, h2⟩ j p' q' e1 e2
      cases j with
      | zero => simp at e1 e2; subst e1 e2; exact h1
      | succ j => exact twoPL_iff.1 h2 j p' q' (by simpa using e1) (by simpa using e2)
    · intro h
      exact ⟨h 0 p q rfl rfl, twoPL_iff.2 fun j p' q' e1 e2 => h (j + 1) p' q' (by simpa using e1) (by simpa using e2)⟩
theorem twoP_symm {g : Sg} : ∀ {p q : Pat}, twoP g p q → twoP g q p := by
  refine fun {p} => ind_pat (motive := fun p => ∀ {q : Pat}, twoP g p q → twoP g q p) ?_ p
  intro k n i s a b c l ih q h
  have h := twoP_def.1 h
  refine twoP_def.2 ⟨?_, fun e1 e2 e3 => ?_⟩
  · have h1 := h.1
    simp only [pairB, Bool.or_eq_true, Bool.and_eq_true, decide_eq_true_eq, Bool.not_eq_true'] at h1 ⊢
    rcases h1 with (h1 | h1) | ⟨h1, h2⟩
    · exact .inl (.inr h1)
    · exact .inl (.inl h1)
    · refine .inr ⟨h1.symm, ?_⟩
      rcases h2 with h2 | h2
      · left; rw [← h1]; exact h2
      · right; exact h2.symm
  · have h2 := twoPL_iff.1 (h.2 e2 e1 e3.symm)
    exact twoPL_iff.2 fun j x y hx hy => ih y (List.mem_of_getElem? hy) (h2 j y x hy hx)
theorem twoPL_symm {g : Sg} {l m : List Pat} (h : twoPL g l m) : twoPL g m l := twoPL_iff.2 fun j x y hx hy => twoP_symm (twoPL_iff.1 h j y x hy hx)
theorem twoPL_append {g : Sg} : ∀ {a b c d : List Pat}, a.length = b.length → (twoPL g (a ++ c) (b ++ d) ↔ twoPL g a b ∧ twoPL g c d)
  | [], [], c, d, _ => by simp [twoPL]
  | a :: l, b :: m, c, d, h => by
    have := twoPL_append (g := g) (a := l) (b := m) (c := c) (d := d) (by simpa using h)
    simp only [List.cons_append, twoPL, this, and_assoc]
  | [], b :: m, c, d, h => by simp at h
  | a :: l, [], c, d, h => by simp at h
theorem twoP_any {g : Sg} (q : Pat) : twoP g anyP q := twoP_def.2 ⟨by simp [pairB, openB, anyP, Pat.kind], fun e => by simp [anyP, Pat.kind] at e⟩
theorem anys_mem {n : Nat} {p : Pat} (h : p ∈ anysL n) : p = anyP := List.eq_of_mem_replicate h
theorem twoPL_anys {g : Sg} (n : Nat) (m : List Pat) : twoPL g (anysL n) m := twoPL_iff.2 fun j p q hp _ => by rw [anys_mem (List.mem_of_getElem? hp)]; exact twoP_any q
theorem twoPL_anys' {g : Sg} (n : Nat) (m : List Pat) : twoPL g m (anysL n) := twoPL_symm (twoPL_anys n m)

theorem kids_mem {l : List Pat} {c : Int} {k : Nat} {x : Pat} : x ∈ kidsL l c k ↔ ∃ p ∈ l, p.kind = 5 ∧ p.n = c ∧ p.l[k]? = some x := by
  unfold kidsL
  rw [List.mem_filterMap]
  constructor
  · rintro ⟨p, hp, e⟩
    split at e
    · rename_i h; exact ⟨p, hp, h.1, h.2, e⟩
    · cases e
  · rintro ⟨p, hp, h1, h2, e⟩
    exact ⟨p, hp, by rw [if_pos ⟨h1, h2⟩]; exact e⟩
theorem kids_five {g : Sg} {p : Pat} {k : Nat} (h : aloneB g p = true) (hk : k < p.l.length) : p.kind = 5 := by
  by_cases e : p.kind = 5
  · exact e
  · rw [alone_leaf h e] at hk; cases hk

/-- Patterns go together if each two of them do. -/
structure All2 (g : Sg) (l : List Pat) : Prop where
  wf : ∀ p ∈ l, Wf g p
  two : ∀ p ∈ l, ∀ q ∈ l, twoP g p q
theorem All2.sub {g : Sg} {l m : List Pat} (h : All2 g l) (k : ∀ p ∈ m, p ∈ l) : All2 g m := ⟨fun p hp => h.wf p (k p hp), fun p hp q hq => h.two p (k p hp) q (k q hq)⟩
theorem All2.kids {g : Sg} {l : List Pat} (h : All2 g l) (c : Int) (k : Nat) : All2 g (kidsL l c k) := by
  refine ⟨fun x hx => ?_, fun x hx y hy => ?_⟩
  · obtain ⟨p, hp, _, _, e⟩ := kids_mem.1 hx
    exact (h.wf p hp).kids x (List.mem_of_getElem? e)
  · obtain ⟨p, hp, h1, h2, e⟩ := kids_mem.1 hx
    obtain ⟨q, hq, h3, h4, e'⟩ := kids_mem.1 hy
    exact twoPL_iff.1 ((twoP_def.1 (h.two p hp q hq)).2 h1 h3 (by omega)) k x y e e'
theorem tog_all2 {g : Sg} : ∀ (N : Nat) (l : List Pat), szL l ≤ N → (Tog g l ↔ All2 g l) := by
  intro N
  induction N with
  | zero =>
    intro l h
    have : l = [] := by
      cases l with
      | nil => rfl
      | cons p l => have := szP_pos p; simp [szL] at h; omega
    subst this
    exact ⟨fun _ => ⟨fun p hp => (by cases hp), fun p hp => (by cases hp)⟩, fun _ => .mk (fun p h => by cases h) (fun p h => by cases h) (fun p h => by cases h)⟩
  | succ N ih =>
    intro l h
    constructor
    · intro ht
      refine ⟨tog_wf ht, fun p hp q hq => ?_⟩
      obtain ⟨h1, h2, h3⟩ := ht
      refine twoP_def.2 ⟨h2 p hp q hq, fun e1 e2 e3 => twoPL_iff.2 fun j x y hx hy => ?_⟩
      have hj := (List.getElem?_eq_some_iff.1 hx).1
      have hlt := kidsL_lt hp e1 hj
      exact ((ih _ (by omega)).1 (h3 p hp j hj)).two x (kids_mem.2 ⟨p, hp, e1, rfl, hx⟩) y (kids_mem.2 ⟨q, hq, e2, e3.symm, hy⟩)
    · intro ha
      refine .mk (fun p hp => (ha.wf p hp).alone) (fun p hp q hq => (twoP_def.1 (ha.two p hp q hq)).1) fun p hp m hm => ?_
      have h5 := kids_five (ha.wf p hp).alone hm
      have hlt := kidsL_lt hp h5 hm
      exact (ih _ (by omega)).2 (ha.kids p.n m)
theorem tog_iff2 {g : Sg} {l : List Pat} : Tog g l ↔ All2 g l := tog_all2 _ l (Nat.le_refl _)
theorem togB_iff2 {g : Sg} {l : List Pat} : togB g l = true ↔ All2 g l := togB_iff.trans tog_iff2

/-! Values that go with a pattern. -/
/-- A value of a constructor, as its signature has it. -/
structure ConV (g : Sg) (v : Val) : Prop where
  kind : v.kind = 4 ∨ v.kind = 11
  lo : 0 ≤ v.n
  hi : v.n < g.cons.length
  len : v.l.length = g.arity v.n
  word : v.kind = 4 ↔ g.arity v.n = 0
mutual
def goesP (g : Sg) : Pat → Val → Prop
  | .mk k n _ _ _ _ _ l, v => (k = 3 → v.kind = 1) ∧ (k = 4 → v.kind = 2) ∧ (k = 5 → ConV g v ∧ g.dataOf v.n = g.dataOf n ∧ (v.n = n → goesL g l v.l))
def goesL (g : Sg) : List Pat → List Val → Prop
  | p :: l, v :: vl => goesP g p v ∧ goesL g l vl
  | _, _ => True
end
theorem goesP_def {g : Sg} : ∀ {p : Pat} {v : Val}, goesP g p v ↔ (p.kind = 3 → v.kind = 1) ∧ (p.kind = 4 → v.kind = 2) ∧ (p.kind = 5 → ConV g v ∧ g.dataOf v.n = g.dataOf p.n ∧ (v.n = p.n → goesL g p.l v.l))
  | .mk .., v => Iff.rfl
theorem goesL_iff {g : Sg} : ∀ {l : List Pat} {vl : List Val}, goesL g l vl ↔ ∀ (j : Nat) (p : Pat) (v : Val), l[j]? = some p → vl[j]? = some v → goesP g p v
  | [], m => ⟨fun _ j p q h => by simp at h, fun _ => by cases m <;> exact trivial⟩
  | p :: l, [] => ⟨fun _ j p q h h' => by simp at h', fun _ => trivial⟩
  | p :: l, q :: m => by
    simp only [goesL]
    constructor
    · rintro ⟨h1, h2⟩ j p' q' e1 e2
      cases j with
      | zero => simp at e1 e2; subst e1 e2; exact h1
      | succ j => exact goesL_iff.1 h2 j p' q' (by simpa using e1) (by simpa using e2)
    · intro h
      exact ⟨h 0 p q rfl rfl, goesL_iff.2 fun j p' q' e1 e2 => h (j + 1) p' q' (by simpa using e1) (by simpa using e2)⟩
theorem fits_open {p : Pat} {v : Val} (h : openB p = true) : fitsB p v = true := by
  obtain ⟨k, n, i, s, a, b, c, l⟩ := p
  obtain ⟨vk, vn, vs, vl⟩ := v
  have h : k = 1 ∨ k = 2 := of_decide_eq_true h
  simp only [fitsB]
  rw [if_pos h]
theorem goes_open {g : Sg} {p : Pat} {v : Val} (h : openB p = true) : goesP g p v := by
  have h := of_decide_eq_true h
  refine goesP_def.2 ⟨fun e => by omega, fun e => by omega, fun e => by omega⟩
theorem fits_three {p : Pat} {v : Val} (h : p.kind = 3) : fitsB p v = true ↔ v.kind = 1 ∧ v.n = p.i := by
  obtain ⟨k, n, i, s, a, b, c, l⟩ := p
  obtain ⟨vk, vn, vs, vl⟩ := v
  simp only [Pat.kind] at h
  subst h
  simp [fitsB, Val.kind, Val.n, Pat.i]
theorem fits_four {p : Pat} {v : Val} (h : p.kind = 4) : fitsB p v = true ↔ v.kind = 2 ∧ v.s = p.s := by
  obtain ⟨k, n, i, s, a, b, c, l⟩ := p
  obtain ⟨vk, vn, vs, vl⟩ := v
  simp only [Pat.kind] at h
  subst h
  simp [fitsB, Val.kind, Val.s, Pat.s]
theorem fits_five {p : Pat} {v : Val} (h : p.kind = 5) : fitsB p v = true ↔ (v.kind = 11 ∨ (v.kind = 4 ∧ v.l = [])) ∧ v.n = p.n ∧ v.l.length = p.l.length ∧ fitsL p.l v.l = true := by
  obtain ⟨k, n, i, s, a, b, c, l⟩ := p
  obtain ⟨vk, vn, vs, vl⟩ := v
  simp only [Pat.kind] at h
  subst h
  simp only [fitsB, Val.kind, Val.n, Val.l, Pat.l, Pat.n]
  rw [if_neg (by omega), if_neg (by omega), if_neg (by omega)]
  have hv : vl = [] ↔ ¬ 0 < vl.length := by rw [List.length_pos_iff]; simp
  split
  · rename_i h
    constructor
    · intro h'; cases h'
    · rintro ⟨h1, h2, h3, _⟩
      exfalso
      rw [hv] at h1
      omega
  · rename_i h
    refine ⟨fun h' => ⟨?_, by omega, by omega, h'⟩, fun h' => h'.2.2.2⟩
    rw [hv]
    omega
/-- For a value that is of its constructor, as its signature has it. -/
theorem fits_con {g : Sg} {p : Pat} {v : Val} (hc : ConV g v) (h : p.kind = 5) (ha : aloneB g p = true) : fitsB p v = true ↔ v.n = p.n ∧ fitsL p.l v.l = true := by
  rw [fits_five h]
  constructor
  · exact fun h => ⟨h.2.1, h.2.2.2⟩
  · rintro ⟨h1, h2⟩
    refine ⟨?_, h1, ?_, h2⟩
    · rcases hc.kind with h3 | h3
      · right
        refine ⟨h3, ?_⟩
        have := hc.len
        rw [hc.word.1 h3] at this
        exact List.length_eq_zero_iff.1 this
      · exact .inl h3
    · rw [hc.len, h1, (alone_con ha h).2.2]
theorem alone_kind {g : Sg} : ∀ {p : Pat}, aloneB g p = true → openB p = true ∨ p.kind = 3 ∨ p.kind = 4 ∨ p.kind = 5
  | .mk k n i s a b c l, h => by
    have e : openB (.mk k n i s a b c l) = true ↔ k = 1 ∨ k = 2 := decide_eq_true_iff
    rw [e]
    simp only [aloneB] at h
    simp only [Pat.kind]
    repeat' split at h
    all_goals first | omega | cases h
theorem open_kind {p : Pat} (h : openB p = true) : p.kind = 1 ∨ p.kind = 2 := of_decide_eq_true h
theorem pair_cases {g : Sg} {p q : Pat} (h : pairB g p q = true) : openB p = true ∨ openB q = true ∨ (p.kind = q.kind ∧ (p.kind = 5 → g.dataOf p.n = g.dataOf q.n)) := by
  simp only [pairB, Bool.or_eq_true, Bool.and_eq_true, decide_eq_true_eq, Bool.not_eq_true'] at h
  rcases h with (h1 | h1) | ⟨h1, h2⟩
  · exact .inl h1
  · exact .inr (.inl h1)
  · refine .inr (.inr ⟨h1, fun e => ?_⟩)
    rcases h2 with h2 | h2
    · simp [e] at h2
    · exact h2

/-! Literals. -/
section
variable {I : Int → Prop} {S : ByteArray → Prop}
end

end Go.Proofs.Ytjflembhgjcgkaa
