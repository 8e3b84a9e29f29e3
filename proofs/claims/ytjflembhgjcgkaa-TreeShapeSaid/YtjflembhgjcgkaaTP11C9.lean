/- C9: Apart, of the program: what it says. -/
import Derived.Test.YtjflembhgjcgkaaTP11XC3C4
set_option linter.unusedSimpArgs false
set_option linter.unusedVariables false
namespace Go.Proofs.Ytjflembhgjcgkaa
open Go.RowKit

theorem asks_cases (k n i : Int) (s : ByteArray) (a b c : Int) (l : List Pat) :
    (k = 3 ∧ asksH (.mk k n i s a b c l) = some ⟨3, 0, i, ⟨#[]⟩⟩) ∨ (k = 4 ∧ asksH (.mk k n i s a b c l) = some ⟨4, 0, 0, s⟩) ∨ (k = 5 ∧ asksH (.mk k n i s a b c l) = some ⟨5, n, 0, ⟨#[]⟩⟩) ∨ (k ≠ 3 ∧ k ≠ 4 ∧ k ≠ 5 ∧ asksH (.mk k n i s a b c l) = none) := by
  simp only [asksH]
  by_cases h3 : k = 3
  · exact .inl ⟨h3, if_pos h3⟩
  by_cases h4 : k = 4
  · exact .inr (.inl ⟨h4, by rw [if_neg h3, if_pos h4]⟩)
  by_cases h5 : k = 5
  · exact .inr (.inr (.inl ⟨h5, by rw [if_neg h3, if_neg h4, if_pos h5]⟩))
  · exact .inr (.inr (.inr ⟨h3, h4, h5, by rw [if_neg h3, if_neg h4, if_neg h5]⟩))

end Go.Proofs.Ytjflembhgjcgkaa
