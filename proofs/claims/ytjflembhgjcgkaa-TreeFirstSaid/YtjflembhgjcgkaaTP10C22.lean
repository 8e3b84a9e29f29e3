/- C22: fresh, useful, of the program. -/
import Derived.Test.YtjflembhgjcgkaaTP10XM8C21
import Derived.Test.YtjflembhgjcgkaaTP10C9
set_option linter.unusedSimpArgs false
set_option linter.unusedVariables false
namespace Go.Proofs.Ytjflembhgjcgkaa
open Go.RowKit

/-- What a head says of a pattern that may be. -/
theorem head_of {g : Sg} : ∀ {p : Pat} {h : Head}, asksH p = some h → aloneB g p = true → h.kind = p.kind ∧ p.l.length = arityH g h ∧ (h.kind = 3 ∨ h.kind = 4 ∨ (h.kind = 5 ∧ 0 ≤ h.n ∧ h.n < g.cons.length))
  | .mk k n i s a b c l, h, e, ha => by
    unfold arityH
    rcases asks_cases k n i s a b c l with ⟨q, e'⟩ | ⟨q, e'⟩ | ⟨q, e'⟩ | ⟨_, _, _, e'⟩ <;> rw [e'] at e
    · injection e with e; subst e
      exact ⟨q.symm, by rw [if_neg (show ¬ (3 : Int) = 5 by decide), alone_leaf ha (by simp only [Pat.kind]; omega)]; rfl, .inl rfl⟩
    · injection e with e; subst e
      exact ⟨q.symm, by rw [if_neg (show ¬ (4 : Int) = 5 by decide), alone_leaf ha (by simp only [Pat.kind]; omega)]; rfl, .inr (.inl rfl)⟩
    · injection e with e; subst e
      obtain ⟨c1, c2, c3⟩ := alone_con ha q
      exact ⟨q.symm, by rw [if_pos rfl]; exact c3, .inr (.inr ⟨rfl, c1, c2⟩)⟩
    · cases e
theorem wf_len {g : Sg} {p : Pat} {h : Head} (e : asksH p = some h) (w : Wf g p) : p.l.length = arityH g h := (head_of e w.alone).2.1
section
variable {g : Sg} {m f : Nat} {rows : List (List Pat)} {v0 : Pat} {vs : List Pat}

end
end Go.Proofs.Ytjflembhgjcgkaa

