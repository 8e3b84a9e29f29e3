/- C51, C52: in one. -/
import Derived.Test.YtjflembhgjcgkaaTP10C42
import Derived.Test.YtjflembhgjcgkaaTP10C48
import Derived.Test.YtjflembhgjcgkaaTP10XC32C47
set_option linter.unusedSimpArgs false
set_option linter.unusedVariables false
/- C51: the document's Binds. -/
namespace Go.Proofs.Ytjflembhgjcgkaa
open Go.RowKit

end Go.Proofs.Ytjflembhgjcgkaa

/- C52: the law's walk: TreeBinds. -/
namespace Go.Proofs.Ytjflembhgjcgkaa
open Go.RowKit

mutual
theorem binds_path : ∀ (p : Pat) (path : List Int) (b : BindT), b ∈ bindsF p path → b.path.length ≤ path.length + massP p
  | .mk k n i s a c d l, path, b, h => by
    simp only [bindsF] at h
    simp only [massP]
    split at h
    · rw [List.mem_singleton.1 h]; simp only; omega
    · split at h
      · have := bindsL_path l path 0 b h; omega
      · cases h
theorem bindsL_path : ∀ (l : List Pat) (path : List Int) (i : Nat) (b : BindT), b ∈ bindsL l path i → b.path.length ≤ path.length + 1 + massL l
  | [], _, _, b, h => by cases h
  | p :: l, path, i, b, h => by
    simp only [bindsL, List.mem_append] at h
    simp only [massL]
    rcases h with h | h
    · have := binds_path p _ b h
      simp only [List.length_append, List.length_cons, List.length_nil] at this
      omega
    · have := bindsL_path l path (i + 1) b h; omega
end
end Go.Proofs.Ytjflembhgjcgkaa
