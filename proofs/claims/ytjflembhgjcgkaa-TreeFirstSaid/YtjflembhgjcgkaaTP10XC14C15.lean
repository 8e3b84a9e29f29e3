/- C14, C15: in one. -/
import Derived.Test.YtjflembhgjcgkaaTP10XM3C12
import Derived.Test.YtjflembhgjcgkaaTP10C13
import Derived.Test.YtjflembhgjcgkaaTP10XM4M7M5
set_option linter.unusedSimpArgs false
set_option linter.unusedVariables false
/- C14: Together, named, anys, of the document; anys, of the program. -/
namespace Go.Proofs.Ytjflembhgjcgkaa
open Go.RowKit

theorem getM {l : List Pat} {j : Nat} (h : j < l.length) : ∃ k n i s a b c q, l[j]? = some (Pat.mk k n i s a b c q) := by
  obtain ⟨p, hp⟩ := getS h
  cases p with
  | mk k n i s a b c q => exact ⟨k, n, i, s, a, b, c, q, hp⟩

end Go.Proofs.Ytjflembhgjcgkaa

/- C15: anys, of the program. -/
namespace Go.Proofs.Ytjflembhgjcgkaa
open Go.RowKit

end Go.Proofs.Ytjflembhgjcgkaa
