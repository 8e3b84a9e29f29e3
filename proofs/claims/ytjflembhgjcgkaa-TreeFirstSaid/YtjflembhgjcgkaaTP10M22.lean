/- M22: does a value go with patterns, as a function. No program in sight. -/
import Derived.Test.YtjflembhgjcgkaaTP10M13
import Derived.Test.YtjflembhgjcgkaaTP10XM10CZM12
set_option linter.unusedSimpArgs false
set_option linter.unusedVariables false
namespace Go.Proofs.Ytjflembhgjcgkaa
open Go.RowKit

def conOk (g : Sg) (pn k n : Int) (len : Nat) : Bool := decide ((k = 4 ∨ k = 11) ∧ 0 ≤ n ∧ n < g.cons.length ∧ g.dataOf n = g.dataOf pn ∧ len = g.arity n ∧ (k = 4 ↔ g.arity n = 0))
mutual
def goesF (g : Sg) : List Pat → Val → Bool
  | l, .mk k n _ vl => match l.find? testsB with
    | none => true
    | some p => if p.kind = 3 then decide (k = 1) else if p.kind = 4 then decide (k = 2) else conOk g p.n k n vl.length && goesFL g l n 0 vl
def goesFL (g : Sg) : List Pat → Int → Nat → List Val → Bool
  | _, _, _, [] => true
  | l, n, i, x :: xs => goesF g (kidsL l n i) x && goesFL g l n (i + 1) xs
end
theorem goesFL_iff {g : Sg} {l : List Pat} {n : Int} : ∀ {vl : List Val} {i : Nat}, goesFL g l n i vl = true ↔ ∀ (j : Nat) (w : Val), vl[j]? = some w → goesF g (kidsL l n (i + j)) w = true
  | [], i => ⟨fun _ j w h => by simp at h, fun _ => by simp [goesFL]⟩
  | x :: xs, i => by
    simp only [goesFL, Bool.and_eq_true]
    rw [goesFL_iff]
    constructor
    · rintro ⟨h1, h2⟩ j w e
      match j, e with
      | 0, e => simp at e; subst e; exact h1
      | j + 1, e => have := h2 j w (by simpa using e); rwa [show i + 1 + j = i + (j + 1) from by omega] at this
    · intro h
      refine ⟨h 0 x rfl, fun j w e => ?_⟩
      have := h (j + 1) w (by simpa using e)
      rwa [show i + (j + 1) = i + 1 + j from by omega] at this
mutual
theorem goes_all {g : Sg} : ∀ (v : Val) (l : List Pat), goesF g l v = true → All2 g l → ∀ p ∈ l, goesP g p v
  | .mk k n s vl, l, h, ha, p, hp => by
    simp only [goesF] at h
    by_cases ho : openB p = true
    · exact goes_open ho
    · have htp : testsB p = true := by
        rcases alone_kind (ha.wf p hp).alone with e | e | e | e
        · exact absurd e ho
        all_goals exact decide_eq_true (by omega)
      cases hf : l.find? testsB with
      | none => exact absurd htp (by simpa using List.find?_eq_none.1 hf p hp)
      | some q =>
        rw [hf] at h
        simp only at h
        have hq := List.mem_of_find?_eq_some hf
        have htq : testsB q = true := by simpa using List.find?_some hf
        have hqk := of_decide_eq_true htq
        have hpk := of_decide_eq_true htp
        have hoq : openB q ≠ true := fun e => by rcases open_kind e with e | e <;> omega
        have hpr := (twoP_def.1 (ha.two q hq p hp)).1
        rcases pair_cases hpr with e | e | ⟨e, e5⟩
        · exact absurd e hoq
        · exact absurd e ho
        · rw [goesP_def]
          simp only [Val.kind, Val.n, Val.l]
          split at h
          · rename_i h3
            have h := of_decide_eq_true h
            exact ⟨fun _ => h, fun e => by omega, fun e => by omega⟩
          · split at h
            · rename_i h4
              have h := of_decide_eq_true h
              exact ⟨fun e => by omega, fun _ => h, fun e => by omega⟩
            · rw [Bool.and_eq_true] at h
              obtain ⟨h1, h2⟩ := h
              obtain ⟨c1, c2, c3, c4, c5, c6⟩ := of_decide_eq_true h1
              refine ⟨fun e => by omega, fun e => by omega, fun e => ⟨⟨c1, c2, c3, c5, c6⟩, by rw [c4]; exact e5 (by omega), fun en => goesL_iff.2 fun j x w e1 e2 => ?_⟩⟩
              have h3 := goesFL_iff.1 h2 j w e2
              rw [Nat.zero_add] at h3
              refine goesL_all vl j w e2 _ h3 (ha.kids n j) x (kids_mem.2 ⟨p, hp, e, en.symm, e1⟩)
theorem goesL_all {g : Sg} : ∀ (vl : List Val) (j : Nat) (w : Val), vl[j]? = some w → ∀ (l : List Pat), goesF g l w = true → All2 g l → ∀ p ∈ l, goesP g p w
  | [], j, w, e => by simp at e
  | x :: xs, 0, w, e => fun l h ha p hp => by
    have e : x = w := by simpa using e
    rw [← e] at h ⊢
    exact goes_all x l h ha p hp
  | x :: xs, j + 1, w, e => fun l h ha p hp => goesL_all xs j w (by simpa using e) l h ha p hp
end
end Go.Proofs.Ytjflembhgjcgkaa
