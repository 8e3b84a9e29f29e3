/- M13: patterns two by two; which values go with a pattern; a value for each pattern; a value that goes with more patterns. No program in sight. -/
import Derived.Test.YtjflembhgjcgkaaTP11XM8C21
set_option linter.unusedSimpArgs false
set_option linter.unusedVariables false
namespace Go.Proofs.Ytjflembhgjcgkaa
open Go.RowKit

theorem ind_pat {motive : Pat → Prop} (step : ∀ k n i s a b c l, (∀ p ∈ l, motive p) → motive (.mk k n i s a b c l)) : ∀ p, motive p := by
  intro p
  refine Pat.rec (motive_1 := motive) (motive_2 := fun l => ∀ p ∈ l, motive p) ?_ ?_ ?_ p
  · exact fun k n i s a b c l ih => step k n i s a b c l ih
  · intro p hp; cases hp
  · intro a l ha hl p hp
    rcases List.mem_cons.1 hp with rfl | h
    · exact ha
    · exact hl p h

mutual
/-- May two patterns stand in one list, through and through? -/
def twoP (g : Sg) : Pat → Pat → Prop
  | .mk k n i s a b c l, q => pairB g (.mk k n i s a b c l) q = true ∧ (k = 5 → q.kind = 5 → n = q.n → twoPL g l q.l)
def twoPL (g : Sg) : List Pat → List Pat → Prop
  | p :: l, q :: m => twoP g p q ∧ twoPL g l m
  | _, _ => True
end
theorem twoP_def {g : Sg} : ∀ {p q : Pat}, twoP g p q ↔ pairB g p q = true ∧ (p.kind = 5 → q.kind = 5 → p.n = q.n → twoPL g p.l q.l)
  | .mk .., q => Iff.rfl
theorem twoPL_iff {g : Sg} : ∀ {l m : List Pat}, twoPL g l m ↔ ∀ (j : Nat) (p q : Pat), l[j]? = some p → m[j]? = some q → twoP g p q
  | [], m => ⟨fun _ j p q h => by simp at h, fun _ => by cases m <;> exact trivial⟩
  | p :: l, [] => ⟨fun _ j p q h h' => by simp at h', fun _ => trivial⟩
  | p :: l, q :: m => by
    simp only [twoPL]
    constructor
    · rintro ⟨h1, h2⟩ j p' q' e1 e2
      cases j with
      | zero => simp at e1 e2; subst e1 e2; exact h1
      | succ j => exact twoPL_iff.1 h2 j p' q' (by simpa using e1) (by simpa using e2)
    · intro h
      exact ⟨h 0 p q rfl rfl, twoPL_iff.2 fun j p' q' e1 e2 => h (j + 1) p' q' (by simpa using e1) (by simpa using e2)⟩
theorem twoP_symm {g : Sg} : ∀ {p q : Pat}, twoP g p q → twoP g q p := by
  refine fun {p} => ind_pat (motive := fun p => ∀ {q : Pat}, twoP g p q → twoP g q p) ?_ p
  intro k n i s a b c l ih q h
  have h := twoP_def.1 h
  refine twoP_def.2 ⟨?_, fun e1 e2 e3 => ?_⟩
  · have h1 := h.1
    simp only [pairB, Bool.or_eq_true, Bool.and_eq_true, decide_eq_true_eq, Bool.not_eq_true'] at h1 ⊢
    rcases h1 with (h1 | h1) | ⟨h1, h2⟩
    · exact .inl (.inr h1)
    · exact .inl (.inl h1)
    · refine .inr ⟨h1.symm, ?_⟩
      rcases h2 with h2 | h2
      · left; rw [← h1]; exact h2
      · right; exact h2.symm
  · have h2 := twoPL_iff.1 (h.2 e2 e1 e3.symm)
    exact twoPL_iff.2 fun j x y hx hy => ih y (List.mem_of_getElem? hy) (h2 j y x hy hx)
theorem twoPL_symm {g : Sg} {l m : List Pat} (h : twoPL g l m) : twoPL g m l := twoPL_iff.2 fun j x y hx hy => twoP_symm (twoPL_iff.1 h j y x hy hx)
theorem twoPL_append {g : Sg} : ∀ {a b c d : List Pat}, a.length = b.length → (twoPL g (a ++ c) (b ++ d) ↔ twoPL g a b ∧ twoPL g c d)
  | [], [], c, d, _ => by simp [twoPL]
  | a :: l, b :: m, c, d, h => by
    have := twoPL_append (g := g) (a := l) (b := m) (c := c) (d := d) (by simpa using h)
    simp only [List.cons_append, twoPL, this, and_assoc]
  | [], b :: m, c, d, h => by simp at h
  | a :: l, [], c, d, h => by simp at h
theorem twoP_any {g : Sg} (q : Pat) : twoP g anyP q := twoP_def.2 ⟨by simp [pairB, openB, anyP, Pat.kind], fun e => by simp [anyP, Pat.kind] at e⟩
theorem anys_mem {n : Nat} {p : Pat} (h : p ∈ anysL n) : p = anyP := List.eq_of_mem_replicate h
theorem twoPL_anys {g : Sg} (n : Nat) (m : List Pat) : twoPL g (anysL n) m := twoPL_iff.2 fun j p q hp _ => by rw [anys_mem (List.mem_of_getElem? hp)]; exact twoP_any q
theorem twoPL_anys' {g : Sg} (n : Nat) (m : List Pat) : twoPL g m (anysL n) := twoPL_symm (twoPL_anys n m)

theorem kids_mem {l : List Pat} {c : Int} {k : Nat} {x : Pat} : x ∈ kidsL l c k ↔ ∃ p ∈ l, p.kind = 5 ∧ p.n = c ∧ p.l[k]? = some x := by
  unfold kidsL
  rw [List.mem_filterMap]
  constructor
  · rintro ⟨p, hp, e⟩
    split at e
    · rename_i h; exact ⟨p, hp, h.1, h.2, e⟩
    · cases e
  · rintro ⟨p, hp, h1, h2, e⟩
    exact ⟨p, hp, by rw [if_pos ⟨h1, h2⟩]; exact e⟩
theorem kids_five {g : Sg} {p : Pat} {k : Nat} (h : aloneB g p = true) (hk : k < p.l.length) : p.kind = 5 := by
  by_cases e : p.kind = 5
  · exact e
  · rw [alone_leaf h e] at hk; cases hk

/-- Patterns go together if each two of them do. -/
structure All2 (g : Sg) (l : List Pat) : Prop where
  wf : ∀ p ∈ l, Wf g p
  two : ∀ p ∈ l, ∀ q ∈ l, twoP g p q
theorem All2.sub {g : Sg} {l m : List Pat} (h : All2 g l) (k : ∀ p ∈ m, p ∈ l) : All2 g m := ⟨fun p hp => h.wf p (k p hp), fun p hp q hq => h.two p (k p hp) q (k q hq)⟩
theorem All2.kids {g : Sg} {l : List Pat} (h : All2 g l) (c : Int) (k : Nat) : All2 g (kidsL l c k) := by
  refine ⟨fun x hx => ?_, fun x hx y hy => ?_⟩
  · obtain ⟨p, hp, _, _, e⟩ := kids_mem.1 hx
    exact (h.wf p hp).kids x (List.mem_of_getElem? e)
  · obtain ⟨p, hp, h1, h2, e⟩ := kids_mem.1 hx
    obtain ⟨q, hq, h3, h4, e'⟩ := kids_mem.1 hy
    exact twoPL_iff.1 ((twoP_def.1 (h.two p hp q hq)).2 h1 h3 (by omega)) k x y e e'
theorem tog_all2 {g : Sg} : ∀ (N : Nat) (l : List Pat), szL l ≤ N → (Tog g l ↔ All2 g l) := by
  intro N
  induction N with
  | zero =>
    intro l h
    have : l = [] := by
      cases l with
      | nil => rfl
      | cons p l => have := szP_pos p; simp [szL] at h; omega
    subst this
    exact ⟨fun _ => ⟨fun p hp => (by cases hp), fun p hp => (by cases hp)⟩, fun _ => .mk (fun p h => by cases h) (fun p h => by cases h) (fun p h => by cases h)⟩
  | succ N ih =>
    intro l h
    constructor
    · intro ht
      refine ⟨tog_wf ht, fun p hp q hq => ?_⟩
      obtain ⟨h1, h2, h3⟩ := ht
      refine twoP_def.2 ⟨h2 p hp q hq, fun e1 e2 e3 => twoPL_iff.2 fun j x y hx hy => ?_⟩
      have hj := (List.getElem?_eq_some_iff.1 hx).1
      have hlt := kidsL_lt hp e1 hj
      exact ((ih _ (by omega)).1 (h3 p hp j hj)).two x (kids_mem.2 ⟨p, hp, e1, rfl, hx⟩) y (kids_mem.2 ⟨q, hq, e2, e3.symm, hy⟩)
    · intro ha
      refine .mk (fun p hp => (ha.wf p hp).alone) (fun p hp q hq => (twoP_def.1 (ha.two p hp q hq)).1) fun p hp m hm => ?_
      have h5 := kids_five (ha.wf p hp).alone hm
      have hlt := kidsL_lt hp h5 hm
      exact (ih _ (by omega)).2 (ha.kids p.n m)
theorem tog_iff2 {g : Sg} {l : List Pat} : Tog g l ↔ All2 g l := tog_all2 _ l (Nat.le_refl _)
theorem togB_iff2 {g : Sg} {l : List Pat} : togB g l = true ↔ All2 g l := togB_iff.trans tog_iff2

/-! Values that go with a pattern. -/
/-- A value of a constructor, as its signature has it. -/
structure ConV (g : Sg) (v : Val) : Prop where
  kind : v.kind = 4 ∨ v.kind = 11
  lo : 0 ≤ v.n
  hi : v.n < g.cons.length
  len : v.l.length = g.arity v.n
  word : v.kind = 4 ↔ g.arity v.n = 0
mutual
def goesP (g : Sg) : Pat → Val → Prop
  | .mk k n _ _ _ _ _ l, v => (k = 3 → v.kind = 1) ∧ (k = 4 → v.kind = 2) ∧ (k = 5 → ConV g v ∧ g.dataOf v.n = g.dataOf n ∧ (v.n = n → goesL g l v.l))
def goesL (g : Sg) : List Pat → List Val → Prop
  | p :: l, v :: vl => goesP g p v ∧ goesL g l vl
  | _, _ => True
end
theorem goesP_def {g : Sg} : ∀ {p : Pat} {v : Val}, goesP g p v ↔ (p.kind = 3 → v.kind = 1) ∧ (p.kind = 4 → v.kind = 2) ∧ (p.kind = 5 → ConV g v ∧ g.dataOf v.n = g.dataOf p.n ∧ (v.n = p.n → goesL g p.l v.l))
  | .mk .., v => Iff.rfl
theorem goesL_iff {g : Sg} : ∀ {l : List Pat} {vl : List Val}, goesL g l vl ↔ ∀ (j : Nat) (p : Pat) (v : Val), l[j]? = some p → vl[j]? = some v → goesP g p v
  | [], m => ⟨fun _ j p q h => by simp at h, fun _ => by cases m <;> exact trivial⟩
  | p :: l, [] => ⟨fun _ j p q h h' => by simp at h', fun _ => trivial⟩
  | p :: l, q :: m => by
    simp only [goesL]
    constructor
    · rintro ⟨h1, h2⟩ j p' q' e1 e2
      cases j with
      | zero => simp at e1 e2; subst e1 e2; exact h1
      | succ j => exact goesL_iff.1 h2 j p' q' (by simpa using e1) (by simpa using e2)
    · intro h
      exact ⟨h 0 p q rfl rfl, goesL_iff.2 fun j p' q' e1 e2 => h (j + 1) p' q' (by simpa using e1) (by simpa using e2)⟩
theorem goesL_append {g : Sg} : ∀ {a c : List Pat} {b d : List Val}, a.length = b.length → (goesL g (a ++ c) (b ++ d) ↔ goesL g a b ∧ goesL g c d)
  | [], c, [], d, _ => by simp [goesL]
  | a :: l, c, b :: m, d, h => by
    have := goesL_append (g := g) (a := l) (b := m) (c := c) (d := d) (by simpa using h)
    simp only [List.cons_append, goesL, this, and_assoc]
  | [], c, b :: m, d, h => by simp at h
  | a :: l, c, [], d, h => by simp at h
theorem fitsL_append : ∀ {a c : List Pat} {b d : List Val}, a.length = b.length → fitsL (a ++ c) (b ++ d) = (fitsL a b && fitsL c d)
  | [], c, [], d, _ => by simp [fitsL]
  | a :: l, c, b :: m, d, h => by
    have := fitsL_append (a := l) (b := m) (c := c) (d := d) (by simpa using h)
    simp only [List.cons_append, fitsL, this, Bool.and_assoc]
  | [], c, b :: m, d, h => by simp at h
  | a :: l, c, [], d, h => by simp at h
theorem fitsL_iff : ∀ {l : List Pat} {vl : List Val}, fitsL l vl = true ↔ ∀ (j : Nat) (p : Pat) (v : Val), l[j]? = some p → vl[j]? = some v → fitsB p v = true
  | [], m => ⟨fun _ j p q h => by simp at h, fun _ => by cases m <;> simp [fitsL]⟩
  | p :: l, [] => ⟨fun _ j p q h h' => by simp at h', fun _ => by simp [fitsL]⟩
  | p :: l, q :: m => by
    simp only [fitsL, Bool.and_eq_true]
    constructor
    · rintro ⟨h1, h2⟩ j p' q' e1 e2
      cases j with
      | zero => simp at e1 e2; subst e1 e2; exact h1
      | succ j => exact fitsL_iff.1 h2 j p' q' (by simpa using e1) (by simpa using e2)
    · intro h
      exact ⟨h 0 p q rfl rfl, fitsL_iff.2 fun j p' q' e1 e2 => h (j + 1) p' q' (by simpa using e1) (by simpa using e2)⟩
theorem fits_open {p : Pat} {v : Val} (h : openB p = true) : fitsB p v = true := by
  obtain ⟨k, n, i, s, a, b, c, l⟩ := p
  obtain ⟨vk, vn, vs, vl⟩ := v
  have h : k = 1 ∨ k = 2 := of_decide_eq_true h
  simp only [fitsB]
  rw [if_pos h]
theorem goes_open {g : Sg} {p : Pat} {v : Val} (h : openB p = true) : goesP g p v := by
  have h := of_decide_eq_true h
  refine goesP_def.2 ⟨fun e => by omega, fun e => by omega, fun e => by omega⟩
theorem fits_three {p : Pat} {v : Val} (h : p.kind = 3) : fitsB p v = true ↔ v.kind = 1 ∧ v.n = p.i := by
  obtain ⟨k, n, i, s, a, b, c, l⟩ := p
  obtain ⟨vk, vn, vs, vl⟩ := v
  simp only [Pat.kind] at h
  subst h
  simp [fitsB, Val.kind, Val.n, Pat.i]
theorem fits_four {p : Pat} {v : Val} (h : p.kind = 4) : fitsB p v = true ↔ v.kind = 2 ∧ v.s = p.s := by
  obtain ⟨k, n, i, s, a, b, c, l⟩ := p
  obtain ⟨vk, vn, vs, vl⟩ := v
  simp only [Pat.kind] at h
  subst h
  simp [fitsB, Val.kind, Val.s, Pat.s]
theorem fits_five {p : Pat} {v : Val} (h : p.kind = 5) : fitsB p v = true ↔ (v.kind = 11 ∨ (v.kind = 4 ∧ v.l = [])) ∧ v.n = p.n ∧ v.l.length = p.l.length ∧ fitsL p.l v.l = true := by
  obtain ⟨k, n, i, s, a, b, c, l⟩ := p
  obtain ⟨vk, vn, vs, vl⟩ := v
  simp only [Pat.kind] at h
  subst h
  simp only [fitsB, Val.kind, Val.n, Val.l, Pat.l, Pat.n]
  rw [if_neg (by omega), if_neg (by omega), if_neg (by omega)]
  have hv : vl = [] ↔ ¬ 0 < vl.length := by rw [List.length_pos_iff]; simp
  split
  · rename_i h
    constructor
    · intro h'; cases h'
    · rintro ⟨h1, h2, h3, _⟩
      exfalso
      rw [hv] at h1
      omega
  · rename_i h
    refine ⟨fun h' => ⟨?_, by omega, by omega, h'⟩, fun h' => h'.2.2.2⟩
    rw [hv]
    omega
/-- For a value that is of its constructor, as its signature has it. -/
theorem fits_con {g : Sg} {p : Pat} {v : Val} (hc : ConV g v) (h : p.kind = 5) (ha : aloneB g p = true) : fitsB p v = true ↔ v.n = p.n ∧ fitsL p.l v.l = true := by
  rw [fits_five h]
  constructor
  · exact fun h => ⟨h.2.1, h.2.2.2⟩
  · rintro ⟨h1, h2⟩
    refine ⟨?_, h1, ?_, h2⟩
    · rcases hc.kind with h3 | h3
      · right
        refine ⟨h3, ?_⟩
        have := hc.len
        rw [hc.word.1 h3] at this
        exact List.length_eq_zero_iff.1 this
      · exact .inl h3
    · rw [hc.len, h1, (alone_con ha h).2.2]
theorem alone_kind {g : Sg} : ∀ {p : Pat}, aloneB g p = true → openB p = true ∨ p.kind = 3 ∨ p.kind = 4 ∨ p.kind = 5
  | .mk k n i s a b c l, h => by
    have e : openB (.mk k n i s a b c l) = true ↔ k = 1 ∨ k = 2 := decide_eq_true_iff
    rw [e]
    simp only [aloneB] at h
    simp only [Pat.kind]
    repeat' split at h
    all_goals first | omega | cases h
theorem open_kind {p : Pat} (h : openB p = true) : p.kind = 1 ∨ p.kind = 2 := of_decide_eq_true h
theorem pair_cases {g : Sg} {p q : Pat} (h : pairB g p q = true) : openB p = true ∨ openB q = true ∨ (p.kind = q.kind ∧ (p.kind = 5 → g.dataOf p.n = g.dataOf q.n)) := by
  simp only [pairB, Bool.or_eq_true, Bool.and_eq_true, decide_eq_true_eq, Bool.not_eq_true'] at h
  rcases h with (h1 | h1) | ⟨h1, h2⟩
  · exact .inl h1
  · exact .inr (.inl h1)
  · refine .inr (.inr ⟨h1, fun e => ?_⟩)
    rcases h2 with h2 | h2
    · simp [e] at h2
    · exact h2

/-! Literals. -/
mutual
def litP (I : Int → Prop) (S : ByteArray → Prop) : Pat → Prop
  | .mk k _ i s _ _ _ l => (k = 3 → I i) ∧ (k = 4 → S s) ∧ litPL I S l
def litPL (I : Int → Prop) (S : ByteArray → Prop) : List Pat → Prop
  | [] => True
  | p :: l => litP I S p ∧ litPL I S l
end
mutual
def litV (I : Int → Prop) (S : ByteArray → Prop) : Val → Prop
  | .mk k n s l => (k = 1 → I n) ∧ (k = 2 → S s) ∧ litVL I S l
def litVL (I : Int → Prop) (S : ByteArray → Prop) : List Val → Prop
  | [] => True
  | p :: l => litV I S p ∧ litVL I S l
end
section
variable {I : Int → Prop} {S : ByteArray → Prop}
theorem litPL_iff : ∀ {l : List Pat}, litPL I S l ↔ ∀ p ∈ l, litP I S p
  | [] => by simp [litPL]
  | p :: l => by simp [litPL, litPL_iff (l := l)]
theorem litVL_iff : ∀ {l : List Val}, litVL I S l ↔ ∀ p ∈ l, litV I S p
  | [] => by simp [litVL]
  | p :: l => by simp [litVL, litVL_iff (l := l)]
theorem litP_kid : ∀ {p : Pat}, litP I S p → ∀ q ∈ p.l, litP I S q
  | .mk .., h => litPL_iff.1 h.2.2
theorem litV_kid : ∀ {p : Val}, litV I S p → ∀ q ∈ p.l, litV I S q
  | .mk .., h => litVL_iff.1 h.2.2
mutual
theorem litP_true : ∀ p : Pat, litP (fun _ => True) (fun _ => True) p
  | .mk _ _ _ _ _ _ _ l => ⟨fun _ => trivial, fun _ => trivial, litPL_true l⟩
theorem litPL_true : ∀ l : List Pat, litPL (fun _ => True) (fun _ => True) l
  | [] => trivial
  | p :: l => ⟨litP_true p, litPL_true l⟩
end
end

theorem choose_list {α : Type} {P : Nat → α → Prop} : ∀ (n : Nat), (∀ k, k < n → ∃ x, P k x) → ∃ l : List α, l.length = n ∧ ∀ (k : Nat) (x : α), l[k]? = some x → P k x
  | 0, _ => ⟨[], rfl, fun k x h => by simp at h⟩
  | n + 1, h => by
    obtain ⟨l, h1, h2⟩ := choose_list n fun k hk => h k (by omega)
    obtain ⟨x, hx⟩ := h n (by omega)
    refine ⟨l ++ [x], by simp [h1], fun k y e => ?_⟩
    by_cases hk : k < n
    · rw [List.getElem?_append_left (by omega)] at e; exact h2 k y e
    · have hl := (List.getElem?_eq_some_iff.1 e).1
      simp [h1] at hl
      have : k = n := by omega
      subst this
      rw [List.getElem?_append_right (by omega), h1] at e
      simp at e
      subst e
      exact hx

def zeroV : Val := .mk 0 0 ⟨#[]⟩ []
/-- A constructor's value. -/
def mkV (g : Sg) (n : Int) (vl : List Val) : Val := .mk (if g.arity n = 0 then 4 else 11) n ⟨#[]⟩ vl
theorem mkV_con {g : Sg} {n : Int} {vl : List Val} (h0 : 0 ≤ n) (h1 : n < g.cons.length) (hl : vl.length = g.arity n) : ConV g (mkV g n vl) := by
  refine ⟨?_, h0, h1, hl, ?_⟩
  · show (if g.arity n = 0 then (4 : Int) else 11) = 4 ∨ (if g.arity n = 0 then (4 : Int) else 11) = 11
    split
    · exact .inl rfl
    · exact .inr rfl
  · show (if g.arity n = 0 then (4 : Int) else 11) = 4 ↔ g.arity n = 0
    split <;> simp_all

/-- One of patterns that go together has a value that goes with all. -/
theorem canon {g : Sg} {I : Int → Prop} {S : ByteArray → Prop} : ∀ (N : Nat) (B : List Pat), szL B ≤ N → All2 g B → (∀ p ∈ B, litP I S p) → ∀ s ∈ B, ∃ v, fitsB s v = true ∧ (∀ p ∈ B, goesP g p v) ∧ litV I S v := by
  intro N
  induction N with
  | zero =>
    intro B h _ _ s hs
    have := szL_mem hs
    have := szP_pos s
    omega
  | succ N ih =>
    intro B h ha hI
    have key : ∀ s ∈ B, openB s = false → ∃ v, fitsB s v = true ∧ (∀ p ∈ B, goesP g p v) ∧ litV I S v := by
      intro s hs ho
      have hal := (ha.wf s hs).alone
      have hI' := hI s hs
      rcases alone_kind hal with h1 | h3 | h4 | h5
      · rw [h1] at ho; cases ho
      · refine ⟨.mk 1 s.i ⟨#[]⟩ [], (fits_three h3).2 ⟨rfl, rfl⟩, fun p hp => ?_, ?_⟩
        · rcases pair_cases (twoP_def.1 (ha.two s hs p hp)).1 with e | e | ⟨e, _⟩
          · rw [e] at ho; cases ho
          · exact goes_open e
          · refine goesP_def.2 ⟨fun _ => rfl, fun e' => by omega, fun e' => by omega⟩
        · obtain ⟨k, n, i, s', a, b, c, l⟩ := s
          exact ⟨fun _ => hI'.1 h3, fun e => by omega, trivial⟩
      · refine ⟨.mk 2 0 s.s [], (fits_four h4).2 ⟨rfl, rfl⟩, fun p hp => ?_, ?_⟩
        · rcases pair_cases (twoP_def.1 (ha.two s hs p hp)).1 with e | e | ⟨e, _⟩
          · rw [e] at ho; cases ho
          · exact goes_open e
          · refine goesP_def.2 ⟨fun e' => by omega, fun _ => rfl, fun e' => by omega⟩
        · obtain ⟨k, n, i, s', a, b, c, l⟩ := s
          exact ⟨fun e => by omega, fun _ => hI'.2.1 h4, trivial⟩
      · obtain ⟨h0, h1, h2⟩ := alone_con hal h5
        obtain ⟨vl, hl, hv⟩ := choose_list (P := fun k v => fitsB ((s.l[k]?).getD anyP) v = true ∧ (∀ p ∈ kidsL B s.n k, goesP g p v) ∧ litV I S v) (g.arity s.n) fun k hk => by
          obtain ⟨x, hx⟩ := getS (l := s.l) (k := k) (by omega)
          have hlt := kidsL_lt hs h5 (k := k) (by omega)
          obtain ⟨v, h1, h2⟩ := ih (kidsL B s.n k) (by omega) (ha.kids s.n k) (fun p hp => by
            obtain ⟨q, hq, _, _, e⟩ := kids_mem.1 hp
            exact litP_kid (hI q hq) p (List.mem_of_getElem? e)) x (kids_mem.2 ⟨s, hs, h5, rfl, hx⟩)
          exact ⟨v, by rw [hx]; exact h1, h2⟩
        have hc := mkV_con h0 h1 hl
        refine ⟨mkV g s.n vl, (fits_con hc h5 hal).2 ⟨rfl, fitsL_iff.2 fun j p v e1 e2 => ?_⟩, fun p hp => ?_, ?_⟩
        · have := (hv j v e2).1
          rw [e1] at this
          exact this
        · rcases pair_cases (twoP_def.1 (ha.two s hs p hp)).1 with e | e | ⟨e, e'⟩
          · rw [e] at ho; cases ho
          · exact goes_open e
          · refine goesP_def.2 ⟨fun e' => by omega, fun e' => by omega, fun h => ⟨hc, e' h5, fun hn => goesL_iff.2 fun j q v e1 e2 => ?_⟩⟩
            exact (hv j v e2).2.1 q (kids_mem.2 ⟨p, hp, h, hn.symm, e1⟩)
        · refine ⟨fun e => ?_, fun e => ?_, litVL_iff.2 fun v hv' => ?_⟩
          · split at e <;> omega
          · split at e <;> omega
          · obtain ⟨j, hj⟩ := List.getElem?_of_mem hv'
            exact (hv j v hj).2.2
    intro s hs
    cases ho : openB s with
    | false => exact key s hs ho
    | true =>
      by_cases hx : ∃ q ∈ B, openB q = false
      · obtain ⟨q, hq, hqo⟩ := hx
        obtain ⟨v, _, h2⟩ := key q hq hqo
        exact ⟨v, fits_open ho, h2⟩
      · refine ⟨zeroV, fits_open ho, fun p hp => ?_, ?_⟩
        · cases hpo : openB p with
          | true => exact goes_open hpo
          | false => exact absurd ⟨p, hp, hpo⟩ hx
        · exact ⟨fun e => by omega, fun e => by omega, trivial⟩

/-- A value that goes with some patterns is made one that goes with more, and is the same to the some. -/
theorem retype {g : Sg} : ∀ (N : Nat) (B A : List Pat), szL B ≤ N → All2 g B → (∀ p ∈ A, p ∈ B) → ∀ v, (∀ p ∈ A, goesP g p v) → ∃ v', (∀ p ∈ B, goesP g p v') ∧ ∀ p ∈ A, fitsB p v' = fitsB p v := by
  intro N
  induction N with
  | zero =>
    intro B A h ha hA v hv
    refine ⟨v, fun p hp => ?_, fun p hp => rfl⟩
    have := szL_mem hp
    have := szP_pos p
    omega
  | succ N ih =>
    intro B A h ha hA v hv
    by_cases hx : ∃ q ∈ A, openB q = false
    · obtain ⟨s, hs, ho⟩ := hx
      have hal := (ha.wf s (hA s hs)).alone
      have hgs := goesP_def.1 (hv s hs)
      rcases alone_kind hal with h1 | h3 | h4 | h5
      · rw [h1] at ho; cases ho
      · refine ⟨v, fun p hp => ?_, fun p hp => rfl⟩
        rcases pair_cases (twoP_def.1 (ha.two s (hA s hs) p hp)).1 with e | e | ⟨e, _⟩
        · rw [e] at ho; cases ho
        · exact goes_open e
        · exact goesP_def.2 ⟨fun _ => hgs.1 h3, fun e' => by omega, fun e' => by omega⟩
      · refine ⟨v, fun p hp => ?_, fun p hp => rfl⟩
        rcases pair_cases (twoP_def.1 (ha.two s (hA s hs) p hp)).1 with e | e | ⟨e, _⟩
        · rw [e] at ho; cases ho
        · exact goes_open e
        · exact goesP_def.2 ⟨fun e' => by omega, fun _ => hgs.2.1 h4, fun e' => by omega⟩
      · obtain ⟨hc, hd, _⟩ := hgs.2.2 h5
        by_cases hq : ∃ q ∈ B, q.kind = 5 ∧ q.n = v.n
        · obtain ⟨q, hq, hq5, hqn⟩ := hq
          have hql := (alone_con (ha.wf q hq).alone hq5).2.2
          obtain ⟨vl, hl, hvl⟩ := choose_list (P := fun k w => ∃ u, v.l[k]? = some u ∧ (∀ p ∈ kidsL B v.n k, goesP g p w) ∧ ∀ p ∈ kidsL A v.n k, fitsB p w = fitsB p u) (g.arity v.n) fun k hk => by
            obtain ⟨u, hu⟩ := getS (l := v.l) (k := k) (by rw [hc.len]; omega)
            have hlt := kidsL_lt hq hq5 (k := k) (by rw [hql, hqn]; omega)
            rw [hqn] at hlt
            obtain ⟨w, h1, h2⟩ := ih (kidsL B v.n k) (kidsL A v.n k) (by omega) (ha.kids v.n k) (fun p hp => by
              obtain ⟨q, hq, e1, e2, e⟩ := kids_mem.1 hp
              exact kids_mem.2 ⟨q, hA q hq, e1, e2, e⟩) u fun p hp => by
                obtain ⟨q, hq, e1, e2, e⟩ := kids_mem.1 hp
                exact goesL_iff.1 (((goesP_def.1 (hv q hq)).2.2 e1).2.2 e2.symm) k p u e hu
            exact ⟨w, u, hu, h1, h2⟩
          have hc' : ConV g (.mk v.kind v.n v.s vl) := ⟨hc.kind, hc.lo, hc.hi, hl, hc.word⟩
          refine ⟨.mk v.kind v.n v.s vl, fun p hp => ?_, fun p hp => ?_⟩
          · rcases pair_cases (twoP_def.1 (ha.two s (hA s hs) p hp)).1 with e | e | ⟨e, e'⟩
            · rw [e] at ho; cases ho
            · exact goes_open e
            · refine goesP_def.2 ⟨fun e' => by omega, fun e' => by omega, fun h => ⟨hc', hd.trans (e' h5), fun hn => goesL_iff.2 fun j x w e1 e2 => ?_⟩⟩
              obtain ⟨u, _, h1, _⟩ := hvl j w e2
              exact h1 x (kids_mem.2 ⟨p, hp, h, hn.symm, e1⟩)
          · rcases pair_cases (twoP_def.1 (ha.two s (hA s hs) p (hA p hp))).1 with e | e | ⟨e, e'⟩
            · rw [e] at ho; cases ho
            · rw [fits_open e, fits_open e]
            · have hp5 : p.kind = 5 := by omega
              have hpa := (ha.wf p (hA p hp)).alone
              rw [Bool.eq_iff_iff, fits_con hc' hp5 hpa, fits_con hc hp5 hpa]
              refine and_congr_right fun hn => ?_
              have hn : v.n = p.n := hn
              rw [fitsL_iff, fitsL_iff]
              constructor
              · intro hf j x u e1 e2
                obtain ⟨w, hw⟩ := getS (l := vl) (k := j) (by rw [hl, ← hc.len]; exact (List.getElem?_eq_some_iff.1 e2).1)
                obtain ⟨u', hu', _, h2⟩ := hvl j w hw
                rw [e2] at hu'
                injection hu' with hu'
                subst hu'
                rw [← h2 x (kids_mem.2 ⟨p, hp, hp5, hn.symm, e1⟩)]
                exact hf j x w e1 hw
              · intro hf j x w e1 e2
                obtain ⟨u', hu', _, h2⟩ := hvl j w e2
                rw [h2 x (kids_mem.2 ⟨p, hp, hp5, hn.symm, e1⟩)]
                exact hf j x u' e1 hu'
        · refine ⟨v, fun p hp => ?_, fun p hp => rfl⟩
          rcases pair_cases (twoP_def.1 (ha.two s (hA s hs) p hp)).1 with e | e | ⟨e, e'⟩
          · rw [e] at ho; cases ho
          · exact goes_open e
          · exact goesP_def.2 ⟨fun e' => by omega, fun e' => by omega, fun h => ⟨hc, hd.trans (e' h5), fun hn => absurd ⟨p, hp, h, hn.symm⟩ hq⟩⟩
    · have hop : ∀ p ∈ A, openB p = true := fun p hp => by
        cases hpo : openB p with
        | true => rfl
        | false => exact absurd ⟨p, hp, hpo⟩ hx
      match B, ha with
      | [], _ => exact ⟨v, fun p hp => (by cases hp), fun p hp => rfl⟩
      | b :: B, ha =>
        obtain ⟨v', _, h2, _⟩ := canon (I := fun _ => True) (S := fun _ => True) _ (b :: B) (Nat.le_refl _) ha (fun p _ => litP_true p) b (List.mem_cons_self ..)
        exact ⟨v', h2, fun p hp => by rw [fits_open (hop p hp), fits_open (hop p hp)]⟩
end Go.Proofs.Ytjflembhgjcgkaa
