/- M17: what the document's Look says, by values. No program in sight. -/
import Derived.Test.YtjflembhgjcgkaaTP11M16x3
set_option linter.unusedSimpArgs false
set_option linter.unusedVariables false
namespace Go.Proofs.Ytjflembhgjcgkaa
open Go.RowKit

/-! How much of patterns is not settled in a shape. -/
mutual
def unrP : Pat → Pat → Nat
  | .mk k n _ _ _ _ _ l, q => if k = 1 ∨ k = 2 then acP q else if k = 5 ∧ q.kind = 5 ∧ n = q.n then unrL l q.l else 0
def unrL : List Pat → List Pat → Nat
  | x :: l, y :: m => unrP x y + unrL l m
  | _, _ => 0
end
theorem unrP_def : ∀ {p q : Pat}, unrP p q = if openB p = true then acP q else if p.kind = 5 ∧ q.kind = 5 ∧ p.n = q.n then unrL p.l q.l else 0
  | .mk k n i s a b c l, q => by
    by_cases h : k = 1 ∨ k = 2
    · rw [if_pos (show openB (.mk k n i s a b c l) = true from decide_eq_true h)]
      simp only [unrP]
      rw [if_pos h]
    · rw [if_neg (show ¬ openB (.mk k n i s a b c l) = true from fun e => h (of_decide_eq_true e))]
      simp only [unrP]
      rw [if_neg h]
      rfl
theorem unrP_con {k n i a b c : Int} {s : ByteArray} {l : List Pat} {q : Pat} (h : ¬ openB (.mk k n i s a b c l) = true) : unrP (.mk k n i s a b c l) q = if k = 5 ∧ q.kind = 5 ∧ n = q.n then unrL l q.l else 0 := by
  simp only [unrP]
  have h' : ¬ (k = 1 ∨ k = 2) := fun e => h (decide_eq_true e)
  rw [if_neg h']
theorem acP_def : ∀ p : Pat, acP p = if p.kind = 3 ∨ p.kind = 4 ∨ p.kind = 5 then 1 + acL p.l else 0
  | .mk .. => rfl
theorem unrL_anys : ∀ (n : Nat) (m : List Pat), unrL (anysL n) m ≤ acL m
  | 0, m => by cases m <;> simp [unrL, anysL]
  | n + 1, [] => by simp [unrL, anysL, List.replicate_succ]
  | n + 1, q :: m => by
    have := unrL_anys n m
    show unrP anyP q + unrL (anysL n) m ≤ acP q + acL m
    have e : unrP anyP q = acP q := by rw [unrP_def, if_pos (show openB anyP = true from rfl)]
    omega
theorem unrL_set : ∀ {l m : List Pat} {j : Nat} {x y z : Pat}, l[j]? = some x → m[j]? = some y → unrL (l.set j z) m + unrP x y = unrL l m + unrP z y
  | [], m, j, x, y, z, h, _ => by simp at h
  | a :: l, [], j, x, y, z, _, h => by simp at h
  | a :: l, b :: m, 0, x, y, z, h1, h2 => by
    simp at h1 h2; subst h1 h2
    simp only [List.set_cons_zero, unrL]; omega
  | a :: l, b :: m, j + 1, x, y, z, h1, h2 => by
    have := unrL_set (z := z) (j := j) (l := l) (m := m) (by simpa using h1) (by simpa using h2)
    simp only [List.set_cons_succ, unrL]; omega
theorem unrL_set' : ∀ {l m : List Pat} {j : Nat} {z : Pat}, m[j]? = none → unrL (l.set j z) m = unrL l m
  | [], m, j, z, _ => by cases m <;> rfl
  | a :: l, [], j, z, _ => by cases j <;> simp [unrL]
  | a :: l, b :: m, 0, z, h => by simp at h
  | a :: l, b :: m, j + 1, z, h => by
    have := unrL_set' (l := l) (m := m) (j := j) (z := z) (by simpa using h)
    simp only [List.set_cons_succ, unrL, this]

/-! within, apart, by values. -/
theorem within_open {p q : Pat} (h : openB q = true) : withinB p q = true := by
  obtain ⟨k, n, i, s, a, b, c, l⟩ := p
  obtain ⟨k', n', i', s', a', b', c', l'⟩ := q
  have h : k' = 1 ∨ k' = 2 := open_kind h
  simp only [withinB]
  rw [if_pos h]
theorem within_def {p q : Pat} (h : openB q = false) : withinB p q = true ↔ openB p = false ∧ p.kind = q.kind ∧ p.n = q.n ∧ p.i = q.i ∧ p.s = q.s ∧ p.l.length = q.l.length ∧ withinL p.l q.l = true := by
  obtain ⟨k, n, i, s, a, b, c, l⟩ := p
  obtain ⟨k', n', i', s', a', b', c', l'⟩ := q
  have h : ¬ (k' = 1 ∨ k' = 2) := fun e => by
    have : openB (.mk k' n' i' s' a' b' c' l') = true := decide_eq_true e
    rw [h] at this; cases this
  have ho : openB (.mk k n i s a b c l) = false ↔ ¬ (k = 1 ∨ k = 2) := decide_eq_false_iff_not
  simp only [withinB, Pat.kind, Pat.n, Pat.i, Pat.s, Pat.l, ho]
  rw [if_neg h]
  split
  · rename_i h1
    refine ⟨fun e => (by cases e), fun e => ?_⟩
    rcases h1 with h1 | h1 | h1 | h1 | h1 | h1
    · exact absurd h1 e.1
    · exact absurd e.2.1 h1
    · exact absurd e.2.2.1 h1
    · exact absurd e.2.2.2.1 h1
    · exact absurd e.2.2.2.2.1 h1
    · exact absurd e.2.2.2.2.2.1 h1
  · rename_i h1
    simp only [not_or, Decidable.not_not] at h1
    exact ⟨fun e => ⟨by simpa using h1.1, h1.2.1, h1.2.2.1, h1.2.2.2.1, h1.2.2.2.2.1, h1.2.2.2.2.2, e⟩, fun e => e.2.2.2.2.2.2⟩
theorem withinL_iff : ∀ {l m : List Pat}, withinL l m = true ↔ ∀ (j : Nat) (p q : Pat), l[j]? = some p → m[j]? = some q → withinB p q = true
  | [], m => ⟨fun _ j p q h => by simp at h, fun _ => by cases m <;> simp [withinL]⟩
  | p :: l, [] => ⟨fun _ j p q h h' => by simp at h', fun _ => by simp [withinL]⟩
  | p :: l, q :: m => by
    simp only [withinL, Bool.and_eq_true]
    constructor
    · rintro ⟨h1, h2⟩ j p' q' e1 e2
      cases j with
      | zero => simp at e1 e2; subst e1 e2; exact h1
      | succ j => exact withinL_iff.1 h2 j p' q' (by simpa using e1) (by simpa using e2)
    · intro h
      exact ⟨h 0 p q rfl rfl, withinL_iff.2 fun j p' q' e1 e2 => h (j + 1) p' q' (by simpa using e1) (by simpa using e2)⟩
theorem apartL_iff : ∀ {l m : List Pat}, apartL l m = true ↔ ∃ (j : Nat) (p q : Pat), l[j]? = some p ∧ m[j]? = some q ∧ apartB p q = true
  | [], m => ⟨fun h => by simp [apartL] at h, fun ⟨j, p, q, h, _⟩ => by simp at h⟩
  | p :: l, [] => ⟨fun h => by simp [apartL] at h, fun ⟨j, p, q, _, h, _⟩ => by simp at h⟩
  | p :: l, q :: m => by
    simp only [apartL, Bool.or_eq_true, apartL_iff (l := l) (m := m)]
    constructor
    · rintro (h | ⟨j, p', q', h1, h2, h3⟩)
      · exact ⟨0, p, q, rfl, rfl, h⟩
      · exact ⟨j + 1, p', q', by simpa using h1, by simpa using h2, h3⟩
    · rintro ⟨j, p', q', h1, h2, h3⟩
      cases j with
      | zero => simp at h1 h2; subst h1 h2; exact .inl h3
      | succ j => exact .inr ⟨j, p', q', by simpa using h1, by simpa using h2, h3⟩
/-- What is within fits. -/
theorem within_fits : ∀ (p q : Pat) (v : Val), withinB p q = true → fitsB p v = true → fitsB q v = true := by
  refine ind_pat fun k n i s a b c l ih q v hw hf => ?_
  cases ho : openB q with
  | true => exact fits_open ho
  | false =>
    obtain ⟨h1, h2, h3, h4, h5, h6, h7⟩ := (within_def ho).1 hw
    have hk : (Pat.mk k n i s a b c l).kind = 3 ∨ (Pat.mk k n i s a b c l).kind = 4 ∨ (Pat.mk k n i s a b c l).kind = 5 := by
      obtain ⟨vk, vn, vs, vl⟩ := v
      have h1 : ¬ (k = 1 ∨ k = 2) := of_decide_eq_false h1
      simp only [fitsB] at hf
      rw [if_neg h1] at hf
      simp only [Pat.kind]
      by_cases e3 : k = 3
      · exact .inl e3
      · by_cases e4 : k = 4
        · exact .inr (.inl e4)
        · rw [if_neg e3, if_neg e4] at hf
          by_cases e5 : k = 5
          · exact .inr (.inr e5)
          · rw [if_pos (.inl e5)] at hf; cases hf
    rcases hk with e | e | e
    · obtain ⟨f1, f2⟩ := (fits_three e).1 hf
      exact (fits_three (h2.symm.trans e)).2 ⟨f1, f2.trans h4⟩
    · obtain ⟨f1, f2⟩ := (fits_four e).1 hf
      exact (fits_four (h2.symm.trans e)).2 ⟨f1, f2.trans h5⟩
    · obtain ⟨f1, f2, f3, f4⟩ := (fits_five e).1 hf
      refine (fits_five (h2.symm.trans e)).2 ⟨f1, f2.trans h3, f3.trans h6, fitsL_iff.2 fun j y w e1 e2 => ?_⟩
      obtain ⟨x, hx⟩ : ∃ x, (Pat.mk k n i s a b c l).l[j]? = some x := getS (by have := (List.getElem?_eq_some_iff.1 e1).1; omega)
      exact ih x (List.mem_of_getElem? hx) y w (withinL_iff.1 h7 j x y hx e1) (fitsL_iff.1 f4 j x w hx e2)
/-- What is apart has no value of both. -/
theorem apart_fits {g : Sg} : ∀ (p q : Pat) (v : Val), Wf g p → Wf g q → apartB p q = true → fitsB p v = true → fitsB q v = false := by
  refine ind_pat fun k n i s a b c l ih q v hpw hqw ha hf => ?_
  have s1 := some_wf _ hpw
  have s2 := some_wf _ hqw
  have hpa := alone_kind hpw.alone
  rw [Bool.eq_false_iff]
  intro hf'
  cases ho : openB q with
  | true => rw [apart_open' ho hpw hqw] at ha; cases ha
  | false =>
    rcases hpa with e | e | e | e
    · rw [apart_open e hpw hqw] at ha; cases ha
    all_goals
      obtain ⟨k', n', i', s', a', b', c', l'⟩ := q
      have ho : ¬ (k' = 1 ∨ k' = 2) := of_decide_eq_false ho
      simp only [Pat.kind] at e
      subst e
      simp only [apartB] at ha
      rw [s1, s2, if_neg (by simp), if_neg (by simp [ho])] at ha
    · obtain ⟨f1, f2⟩ := (fits_three (p := .mk 3 n i s a b c l) rfl).1 hf
      by_cases hk : (3 : Int) = k'
      · subst hk
        rw [if_neg (by simp), if_pos trivial] at ha
        obtain ⟨g1, g2⟩ := (fits_three (p := .mk 3 n' i' s' a' b' c' l') rfl).1 hf'
        exact of_decide_eq_true ha (f2.symm.trans g2)
      · have hqa := alone_kind hqw.alone
        simp only [Pat.kind] at hqa
        rcases hqa with y | y | y | y
        · exact ho (open_kind y)
        · exact hk y.symm
        · have := (fits_four (p := .mk k' n' i' s' a' b' c' l') y).1 hf'; omega
        · have := ((fits_five (p := .mk k' n' i' s' a' b' c' l') y).1 hf').1; omega
    · obtain ⟨f1, f2⟩ := (fits_four (p := .mk 4 n i s a b c l) rfl).1 hf
      by_cases hk : (4 : Int) = k'
      · subst hk
        rw [if_neg (by simp), if_neg (by simp), if_pos trivial] at ha
        obtain ⟨g1, g2⟩ := (fits_four (p := .mk 4 n' i' s' a' b' c' l') rfl).1 hf'
        exact of_decide_eq_true ha (f2.symm.trans g2)
      · have hqa := alone_kind hqw.alone
        simp only [Pat.kind] at hqa
        rcases hqa with y | y | y | y
        · exact ho (open_kind y)
        · have := (fits_three (p := .mk k' n' i' s' a' b' c' l') y).1 hf'; omega
        · exact hk y.symm
        · have := ((fits_five (p := .mk k' n' i' s' a' b' c' l') y).1 hf').1; omega
    · obtain ⟨f1, f2, f3, f4⟩ := (fits_five (p := .mk 5 n i s a b c l) rfl).1 hf
      by_cases hk : (5 : Int) = k'
      · subst hk
        rw [if_neg (by simp), if_neg (by simp), if_neg (by simp)] at ha
        obtain ⟨g1, g2, g3, g4⟩ := (fits_five (p := .mk 5 n' i' s' a' b' c' l') rfl).1 hf'
        rw [if_neg (by
          have e1 : n = n' := f2.symm.trans g2
          have e2 : l.length = l'.length := f3.symm.trans g3
          omega)] at ha
        obtain ⟨j, x, y, e1, e2, e3⟩ := apartL_iff.1 ha
        obtain ⟨w, hw⟩ : ∃ w, v.l[j]? = some w := getS (by have := (List.getElem?_eq_some_iff.1 e1).1; simp only [Pat.l] at f3; omega)
        have h1 := fitsL_iff.1 f4 j x w e1 hw
        have h2 := fitsL_iff.1 g4 j y w e2 hw
        rw [ih x (List.mem_of_getElem? e1) y w (hpw.kids x (List.mem_of_getElem? e1)) (hqw.kids y (List.mem_of_getElem? e2)) e3 h1] at h2
        cases h2
      · have hqa := alone_kind hqw.alone
        simp only [Pat.kind] at hqa
        rcases hqa with y | y | y | y
        · exact ho (open_kind y)
        · have := (fits_three (p := .mk k' n' i' s' a' b' c' l') y).1 hf'; omega
        · have := (fits_four (p := .mk k' n' i' s' a' b' c' l') y).1 hf'; omega
        · exact hk y.symm

/-! Splitting. -/
theorem splitL_at {r : RoomT} : ∀ {l m : List Pat}, withinL l m = false → ∃ (j : Nat) (x y : Pat), l[j]? = some x ∧ m[j]? = some y ∧ withinB x y = false ∧ splitL r l m = (splitP r x y).map fun z => l.set j z
  | [], m, h => by cases m <;> simp [withinL] at h
  | a :: l, [], h => by simp [withinL] at h
  | a :: l, b :: m, h => by
    simp only [splitL]
    cases hw : withinB a b with
    | false => exact ⟨0, a, b, rfl, rfl, hw, by simp⟩
    | true =>
      simp only [withinL, hw, Bool.true_and] at h
      obtain ⟨j, x, y, h1, h2, h3, h4⟩ := splitL_at (r := r) h
      refine ⟨j + 1, x, y, by simpa using h1, by simpa using h2, h3, ?_⟩
      rw [if_pos rfl, h4]
      simp [List.map_map, Function.comp_def]
def setK : Pat → List Pat → Pat
  | .mk k n i s a b c _, m => .mk k n i s a b c m
theorem splitP_def {r : RoomT} : ∀ {p q : Pat}, splitP r p q = if openB p = true then casesR r q else (splitL r p.l q.l).map (setK p)
  | .mk k n i s a b c l, .mk k' n' i' s' a' b' c' l' => by
    by_cases h : k = 1 ∨ k = 2
    · rw [if_pos (show openB (.mk k n i s a b c l) = true from decide_eq_true h)]
      simp only [splitP]
      rw [if_pos h]
    · rw [if_neg (show ¬ openB (.mk k n i s a b c l) = true from fun e => h (of_decide_eq_true e))]
      simp only [splitP]
      rw [if_neg h]
      rfl

/-- What stands in a room. -/
structure RoomOk (g : Sg) (r : RoomT) : Prop where
  sig : r.g = g
  serves : Serves g
def inI (r : RoomT) : Int → Prop := fun i => i ∈ r.nums
def inT (r : RoomT) : ByteArray → Prop := fun s => s ∈ r.texts

structure Part (g : Sg) (r : RoomT) (B : List Pat) (S p x : Pat) : Prop where
  all : All2 g (x :: B)
  lit : litP (inI r) (inT r) x
  sub : ∀ v, fitsB x v = true → goesP g x v → fitsB S v = true ∧ goesP g S v
  le : ∀ q ∈ B, unrP x q ≤ unrP S q
  lt : unrP x p < unrP S p
theorem pair_kind {g : Sg} {x q p : Pat} (hx : openB p = false) (h : pairB g p q = true) (h1 : x.kind = p.kind) (h2 : p.kind = 5 → g.dataOf x.n = g.dataOf p.n) : pairB g x q = true := by
  rcases pair_cases h with e | e | ⟨e, e'⟩
  · rw [hx] at e; cases e
  · simp [pairB, e]
  · simp only [pairB, Bool.or_eq_true, Bool.and_eq_true, decide_eq_true_eq, Bool.not_eq_true']
    refine .inr ⟨h1.trans e, ?_⟩
    by_cases h5 : p.kind = 5
    · right; rw [h2 h5]; exact e' h5
    · left; rw [h1]; simp [h5]
theorem all2_cons {g : Sg} {x : Pat} {B : List Pat} (hB : All2 g B) (hx : Wf g x) (h : ∀ q ∈ B, twoP g x q) : All2 g (x :: B) := by
  refine ⟨fun p hp => ?_, fun p hp q hq => ?_⟩
  · rcases List.mem_cons.1 hp with rfl | hp
    · exact hx
    · exact hB.wf p hp
  · rcases List.mem_cons.1 hp with e1 | hp1 <;> rcases List.mem_cons.1 hq with e2 | hq1
    · rw [e1, e2]; exact twoP_refl _
    · rw [e1]; exact h q hq1
    · rw [e2]; exact twoP_symm (h p hp1)
    · exact hB.two p hp1 q hq1
theorem All2.tail {g : Sg} {x : Pat} {B : List Pat} (h : All2 g (x :: B)) : All2 g B := h.sub fun p hp => List.mem_cons_of_mem _ hp

theorem split_open {g : Sg} {r : RoomT} (hr : RoomOk g r) {S p : Pat} {B : List Pat} (ha : All2 g (S :: B)) (hp : p ∈ B) (hS : openB S = true) (ho : openB p = false) :
    (∀ x ∈ casesR r p, Part g r B S p x) ∧ ∀ v, (∀ q ∈ B, goesP g q v) → litV (inI r) (inT r) v → ∃ x ∈ casesR r p, fitsB x v = true ∧ goesP g x v := by
  have hpw := ha.wf p (List.mem_cons_of_mem _ hp)
  have hB := ha.tail
  have pr : ∀ x q : Pat, q ∈ B → x.kind = p.kind → (p.kind = 5 → g.dataOf x.n = g.dataOf p.n) → pairB g x q = true := fun x q hq h1 h2 => pair_kind ho (twoP_def.1 (hB.two p hp q hq)).1 h1 h2
  have uS : ∀ q, unrP S q = acP q := fun q => by rw [unrP_def, if_pos hS]
  have sub : ∀ (x : Pat) v, fitsB x v = true → goesP g x v → fitsB S v = true ∧ goesP g S v := fun x v _ _ => ⟨fits_open hS, goes_open hS⟩
  unfold casesR
  rcases alone_kind hpw.alone with h | h | h | h
  · rw [ho] at h; cases h
  · rw [if_pos h]
    refine ⟨fun x hx => ?_, fun v hv hl => ?_⟩
    · obtain ⟨i, hi, rfl⟩ := List.mem_map.1 hx
      have hu : ∀ q, unrP (.mk 3 0 i ⟨#[]⟩ 0 0 0 []) q = 0 := fun q => by rw [unrP_def, if_neg (show ¬ openB (.mk 3 0 i ⟨#[]⟩ 0 0 0 []) = true from fun e => by have := open_kind e; simp [Pat.kind] at this), if_neg (by simp [Pat.kind])]
      refine ⟨all2_cons hB (.mk (by simp [aloneB]) fun q hq => (by cases hq)) fun q hq => twoP_def.2 ⟨pr _ q hq h.symm fun e => by omega, fun e => by simp [Pat.kind] at e⟩, ⟨fun _ => hi, fun e => by omega, trivial⟩, sub _, fun q _ => by rw [hu]; omega, ?_⟩
      rw [hu, uS, acP_def, if_pos (.inl h)]; omega
    · have hk := (goesP_def.1 (hv p hp)).1 h
      have hn : v.n ∈ r.nums := by cases v; exact hl.1 hk
      exact ⟨_, List.mem_map.2 ⟨v.n, hn, rfl⟩, (fits_three rfl).2 ⟨hk, rfl⟩, goesP_def.2 ⟨fun _ => hk, fun e => by simp [Pat.kind] at e, fun e => by simp [Pat.kind] at e⟩⟩
  · rw [if_neg (by omega), if_pos h]
    refine ⟨fun x hx => ?_, fun v hv hl => ?_⟩
    · obtain ⟨i, hi, rfl⟩ := List.mem_map.1 hx
      have hu : ∀ q, unrP (.mk 4 0 0 i 0 0 0 []) q = 0 := fun q => by rw [unrP_def, if_neg (show ¬ openB (.mk 4 0 0 i 0 0 0 []) = true from fun e => by have := open_kind e; simp [Pat.kind] at this), if_neg (by simp [Pat.kind])]
      refine ⟨all2_cons hB (.mk (by simp [aloneB]) fun q hq => (by cases hq)) fun q hq => twoP_def.2 ⟨pr _ q hq h.symm fun e => by omega, fun e => by simp [Pat.kind] at e⟩, ⟨fun e => by omega, fun _ => hi, trivial⟩, sub _, fun q _ => by rw [hu]; omega, ?_⟩
      rw [hu, uS, acP_def, if_pos (.inr (.inl h))]; omega
    · have hk := (goesP_def.1 (hv p hp)).2.1 h
      have hn : v.s ∈ r.texts := by cases v; exact hl.2.1 hk
      exact ⟨_, List.mem_map.2 ⟨v.s, hn, rfl⟩, (fits_four rfl).2 ⟨hk, rfl⟩, goesP_def.2 ⟨fun e => by simp [Pat.kind] at e, fun _ => hk, fun e => by simp [Pat.kind] at e⟩⟩
  · rw [if_neg (by omega), if_neg (by omega), if_pos h, hr.sig]
    obtain ⟨k0, k1, _⟩ := alone_con hpw.alone h
    refine ⟨fun x hx => ?_, fun v hv hl => ?_⟩
    · obtain ⟨c, hc, rfl⟩ := List.mem_map.1 hx
      obtain ⟨c0, c1, c2⟩ := (consOf_mem hr.serves k0 k1).1 hc
      have hu : ∀ q, unrP (.mk 5 c 0 ⟨#[]⟩ 0 0 0 (anysL (g.arity c))) q = if q.kind = 5 ∧ c = q.n then unrL (anysL (g.arity c)) q.l else 0 := fun q => by
        rw [unrP_con (fun e => by have := open_kind e; simp [Pat.kind] at this)]
        by_cases h5 : q.kind = 5 ∧ c = q.n
        · rw [if_pos ⟨rfl, h5.1, h5.2⟩, if_pos h5]
        · rw [if_neg fun e => h5 e.2, if_neg h5]
      have hle : ∀ q, unrP (.mk 5 c 0 ⟨#[]⟩ 0 0 0 (anysL (g.arity c))) q ≤ acP q ∧ (q.kind = 5 → unrP (.mk 5 c 0 ⟨#[]⟩ 0 0 0 (anysL (g.arity c))) q < acP q) := fun q => by
        have h0 := unrL_anys (g.arity c) q.l
        have h1 : q.kind = 5 → acP q = 1 + acL q.l := fun e => by rw [acP_def]; exact if_pos (.inr (.inr e))
        rw [hu]
        constructor
        · split
          · rename_i e; rw [h1 e.1]; omega
          · exact Nat.zero_le _
        · intro e
          rw [h1 e]
          split <;> omega
      refine ⟨all2_cons hB (.mk (by simp [aloneB, c0, c1, anysL]) fun q hq => (by rw [anys_mem hq]; exact wf_any g)) fun q hq => twoP_def.2 ⟨pr _ q hq h.symm fun _ => c2, fun _ _ _ => twoPL_anys _ _⟩, ⟨fun e => by omega, fun e => by omega, litPL_iff.2 fun q hq => ?_⟩, sub _, fun q _ => by rw [uS]; exact (hle q).1, by rw [uS]; exact (hle p).2 h⟩
      rw [anys_mem hq]
      exact ⟨fun e => by omega, fun e => by omega, trivial⟩
    · obtain ⟨hc, hd, _⟩ := (goesP_def.1 (hv p hp)).2.2 h
      have hmem := (consOf_mem hr.serves k0 k1).2 ⟨hc.lo, hc.hi, hd⟩
      have hal : aloneB g (.mk 5 v.n 0 ⟨#[]⟩ 0 0 0 (anysL (g.arity v.n))) = true := by simp [aloneB, hc.lo, hc.hi, anysL]
      exact ⟨_, List.mem_map.2 ⟨v.n, hmem, rfl⟩, (fits_con hc rfl hal).2 ⟨rfl, fitsL_anys _ _⟩, goesP_def.2 ⟨fun e => by simp [Pat.kind] at e, fun e => by simp [Pat.kind] at e, fun _ => ⟨hc, rfl, fun _ => goesL_anys _ _⟩⟩⟩

theorem split_ok {g : Sg} {r : RoomT} (hr : RoomOk g r) : ∀ (S : Pat) (B : List Pat) (p : Pat), All2 g (S :: B) → litP (inI r) (inT r) S → p ∈ B → apartB S p = false → withinB S p = false →
    (∀ x ∈ splitP r S p, Part g r B S p x) ∧ ∀ v, fitsB S v = true → goesP g S v → (∀ q ∈ B, goesP g q v) → litV (inI r) (inT r) v → ∃ x ∈ splitP r S p, fitsB x v = true ∧ goesP g x v := by
  refine ind_pat fun k n i s a b c l ih B p ha hlit hp hap hwi => ?_
  have hSw := ha.wf _ (List.mem_cons_self ..)
  have hpw := ha.wf p (List.mem_cons_of_mem _ hp)
  have ho : openB p = false := by
    cases h : openB p with
    | false => rfl
    | true => rw [within_open h] at hwi; cases hwi
  rw [splitP_def]
  by_cases hS : openB (.mk k n i s a b c l) = true
  · rw [if_pos hS]
    obtain ⟨h1, h2⟩ := split_open hr ha hp hS ho
    exact ⟨h1, fun v _ _ hv hl => h2 v hv hl⟩
  · rw [if_neg hS]
    have hS' : openB (.mk k n i s a b c l) = false := by simpa using hS
    -- both ask; they are not apart, so they ask for the same
    have hsame : ∃ h, asksH (.mk k n i s a b c l) = some h ∧ asksH p = some h := by
      cases h1 : asksH (.mk k n i s a b c l) with
      | none => exact absurd (none_open h1 hSw.alone) hS
      | some h =>
        cases h2 : asksH p with
        | none => rw [none_open h2 hpw.alone] at ho; cases ho
        | some h' =>
          by_cases e : h = h'
          · exact ⟨h, rfl, by rw [e]⟩
          · rw [apart_heads h1 h2 e] at hap; cases hap
    obtain ⟨h, hh1, hh2⟩ := hsame
    have hlen : l.length = p.l.length := (wf_len hh1 hSw).trans (wf_len hh2 hpw).symm
    have hwl : withinL l p.l = false := by
      cases hw : withinL l p.l with
      | false => rfl
      | true =>
        exfalso
        rw [(within_def ho).2 ⟨hS', ?_, ?_, ?_, ?_, hlen, hw⟩] at hwi
        · cases hwi
        all_goals
          have a1 := hSw.alone
          have a2 := hpw.alone
          obtain ⟨k', n', i', s', a', b', c', l'⟩ := p
          rcases asks_iff.1 hh1 with ⟨x, rfl⟩ | ⟨x, rfl⟩ | ⟨x, rfl⟩ <;> rcases asks_iff.1 hh2 with ⟨y, e⟩ | ⟨y, e⟩ | ⟨y, e⟩ <;> simp only [Pat.kind, Pat.n, Pat.i, Pat.s] at x y e ⊢ <;> subst x y <;> simp [aloneB] at a1 a2 <;> simp_all
    have h5 : (Pat.mk k n i s a b c l).kind = 5 ∧ p.kind = 5 ∧ n = p.n := by
      have hne : l ≠ [] := fun e => by subst e; cases hpl : p.l <;> rw [hpl] at hwl <;> simp [withinL] at hwl
      have e5 : (Pat.mk k n i s a b c l).kind = 5 := by
        by_cases e : (Pat.mk k n i s a b c l).kind = 5
        · exact e
        · exact absurd (alone_leaf hSw.alone e) hne
      rcases asks_iff.1 hh1 with ⟨x, e⟩ | ⟨x, e⟩ | ⟨x, rfl⟩
      · omega
      · omega
      · rcases asks_iff.1 hh2 with ⟨y, e⟩ | ⟨y, e⟩ | ⟨y, e⟩
        · injection e with e; omega
        · injection e with e; omega
        · injection e with _ e; exact ⟨x, y, e⟩
    obtain ⟨hk5, hpk5, hpn⟩ := h5
    obtain ⟨j, x, y, hx, hy, hxy, hsp⟩ := splitL_at (r := r) hwl
    have e0 : (Pat.mk k n i s a b c l).l = l := rfl
    rw [e0, hsp, List.map_map]
    have hj := (List.getElem?_eq_some_iff.1 hx).1
    have hcol : ∀ q ∈ kidsL B n j, ∃ u ∈ B, u.kind = 5 ∧ u.n = n ∧ u.l[j]? = some q := fun q hq => kids_mem.1 hq
    have hall : All2 g (x :: kidsL B n j) := by
      have := ha.kids n j
      rw [kidsL_cons, if_pos ⟨hk5, rfl⟩] at this
      simp only [Pat.l, hx] at this
      exact this
    have hyB : y ∈ kidsL B n j := kids_mem.2 ⟨p, hp, hpk5, hpn.symm, hy⟩
    have hxap : apartB x y = false := by
      cases e : apartB x y with
      | false => rfl
      | true => rw [apart_kids hk5 hpk5 hpn (apartL_iff.2 ⟨j, x, y, hx, hy, e⟩)] at hap; cases hap
    obtain ⟨ih1, ih2⟩ := ih x (List.mem_of_getElem? hx) (kidsL B n j) y hall (litPL_iff.1 hlit.2.2 x (List.mem_of_getElem? hx)) hyB hxap hxy
    have hB := ha.tail
    have hset : ∀ (z w : Pat) (m : Nat), (l.set j z)[m]? = some w → (m = j ∧ w = z) ∨ (m ≠ j ∧ l[m]? = some w) := fun z w m e => by
      by_cases hm : m = j
      · subst hm
        rw [List.getElem?_set_self hj] at e
        injection e with e
        exact .inl ⟨rfl, e.symm⟩
      · rw [List.getElem?_set_ne (Ne.symm hm)] at e
        exact .inr ⟨hm, e⟩
    have hSn : ¬ openB (.mk k n i s a b c l) = true := hS
    refine ⟨fun w hw => ?_, fun v hf hg hv hl => ?_⟩
    · obtain ⟨z, hz, rfl⟩ := List.mem_map.1 hw
      have P := ih1 z hz
      show Part g r B (.mk k n i s a b c l) p (.mk k n i s a b c (l.set j z))
      have hno : ¬ openB (.mk k n i s a b c (l.set j z)) = true := fun e => hS e
      have hzw : Wf g z := P.all.wf z (List.mem_cons_self ..)
      have hal : aloneB g (.mk k n i s a b c (l.set j z)) = true := by
        have := hSw.alone
        simp only [aloneB] at this ⊢
        rw [List.length_set]
        exact this
      have hwf : Wf g (.mk k n i s a b c (l.set j z)) := .mk hal fun q hq => by
        rcases List.mem_or_eq_of_mem_set hq with hq | rfl
        · exact hSw.kids q hq
        · exact hzw
      have hut : ∀ q ∈ B, q.kind = 5 → n = q.n → ∀ yq, q.l[j]? = some yq → unrL (l.set j z) q.l + unrP x yq = unrL l q.l + unrP z yq := fun q _ _ _ yq e => unrL_set hx e
      refine ⟨all2_cons hB hwf fun q hq => ?_, ?_, fun v hf hg => ?_, fun q hq => ?_, ?_⟩
      · have h2 := twoP_def.1 (ha.two _ (List.mem_cons_self ..) q (List.mem_cons_of_mem _ hq))
        refine twoP_def.2 ⟨h2.1, fun e1 e2 e3 => twoPL_iff.2 fun m u u' hu hu' => ?_⟩
        rcases hset z u m hu with ⟨rfl, rfl⟩ | ⟨hm, hu⟩
        · exact P.all.two u (List.mem_cons_self ..) u' (List.mem_cons_of_mem _ (kids_mem.2 ⟨q, hq, e2, e3.symm, hu'⟩))
        · exact twoPL_iff.1 (h2.2 e1 e2 e3) m u u' hu hu'
      · refine ⟨hlit.1, hlit.2.1, litPL_iff.2 fun q hq => ?_⟩
        rcases List.mem_or_eq_of_mem_set hq with hq | rfl
        · exact litPL_iff.1 hlit.2.2 q hq
        · exact P.lit
      · obtain ⟨f1, f2, f3, f4⟩ := (fits_five (p := .mk k n i s a b c (l.set j z)) hk5).1 hf
        obtain ⟨hc, hd, hgl⟩ := (goesP_def.1 hg).2.2 hk5
        have hgl := hgl f2
        have key : ∀ (m : Nat) (u : Pat) (t : Val), l[m]? = some u → v.l[m]? = some t → fitsB u t = true ∧ goesP g u t := fun m u t e1 e2 => by
          by_cases hm : m = j
          · subst hm
            rw [hx] at e1
            injection e1 with e1
            subst e1
            have e3 : (l.set m z)[m]? = some z := List.getElem?_set_self hj
            exact P.sub t (fitsL_iff.1 f4 m z t e3 e2) (goesL_iff.1 hgl m z t e3 e2)
          · have e3 : (l.set j z)[m]? = some u := by rw [List.getElem?_set_ne (Ne.symm hm)]; exact e1
            exact ⟨fitsL_iff.1 f4 m u t e3 e2, goesL_iff.1 hgl m u t e3 e2⟩
        refine ⟨(fits_five (p := .mk k n i s a b c l) hk5).2 ⟨f1, f2, ?_, fitsL_iff.2 fun m u t e1 e2 => (key m u t e1 e2).1⟩, goesP_def.2 ⟨fun e => by omega, fun e => by omega, fun _ => ⟨hc, hd, fun _ => goesL_iff.2 fun m u t e1 e2 => (key m u t e1 e2).2⟩⟩⟩
        simpa [Pat.l] using f3
      · rw [unrP_con hno, unrP_con hSn]
        split
        · rename_i e
          cases ey : q.l[j]? with
          | none => rw [unrL_set' ey]; omega
          | some yq =>
            have h1 := unrL_set (z := z) hx ey
            have h2 := P.le yq (kids_mem.2 ⟨q, hq, e.2.1, e.2.2.symm, ey⟩)
            omega
        · omega
      · rw [unrP_con hno, unrP_con hSn]
        rw [if_pos ⟨hk5, hpk5, hpn⟩, if_pos ⟨hk5, hpk5, hpn⟩]
        have h1 := unrL_set (z := z) hx hy
        have h2 := P.lt
        omega
    · obtain ⟨f1, f2, f3, f4⟩ := (fits_five (p := .mk k n i s a b c l) hk5).1 hf
      obtain ⟨hc, hd, hgl⟩ := (goesP_def.1 hg).2.2 hk5
      have hgl := hgl f2
      obtain ⟨t, ht⟩ : ∃ t, v.l[j]? = some t := getS (by simp only [Pat.l] at f3; omega)
      obtain ⟨z, hz, hz1, hz2⟩ := ih2 t (fitsL_iff.1 f4 j x t hx ht) (goesL_iff.1 hgl j x t hx ht) (fun q hq => by
        obtain ⟨u, hu, u5, un, uj⟩ := kids_mem.1 hq
        have hvn : v.n = n := f2
        exact goesL_iff.1 (((goesP_def.1 (hv u hu)).2.2 u5).2.2 (by omega)) j q t uj ht) (litV_kid hl t (List.mem_of_getElem? ht))
      refine ⟨_, List.mem_map.2 ⟨z, hz, rfl⟩, (fits_five (p := .mk k n i s a b c (l.set j z)) hk5).2 ⟨f1, f2, by simpa [Pat.l] using f3, fitsL_iff.2 fun m u t' e1 e2 => ?_⟩, goesP_def.2 ⟨fun e => ?_, fun e => ?_, fun _ => ⟨hc, hd, fun _ => goesL_iff.2 fun m u t' e1 e2 => ?_⟩⟩⟩
      · rcases hset z u m e1 with ⟨rfl, rfl⟩ | ⟨hm, e1⟩
        · rw [ht] at e2; injection e2 with e2; subst e2; exact hz1
        · exact fitsL_iff.1 f4 m u t' e1 e2
      · have : k = 3 := e
        have : k = 5 := hk5
        omega
      · have : k = 4 := e
        have : k = 5 := hk5
        omega
      · rcases hset z u m e1 with ⟨rfl, rfl⟩ | ⟨hm, e1⟩
        · rw [ht] at e2; injection e2 with e2; subst e2; exact hz2
        · exact goesL_iff.1 hgl m u t' e1 e2
end Go.Proofs.Ytjflembhgjcgkaa
