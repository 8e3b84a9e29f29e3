/- C27: the document's Witness. -/
import Derived.Test.YtjflembhgjcgkaaTP10XC14C15
import Derived.Test.YtjflembhgjcgkaaTP10XC3C4
set_option linter.unusedSimpArgs false
set_option linter.unusedVariables false
namespace Go.Proofs.Ytjflembhgjcgkaa
open Go.RowKit

section
variable {P : Program} {nt : Nat} {Q : Exit → Fr → List AObj → Prop} {fr : Fr} {σ : List AObj}
/-- Between two parts of a code: what is kept. -/
def midQ (M : Fr → List AObj → Prop) : Exit → Fr → List AObj → Prop := fun e fr σ => e = .normal ∧ M fr σ
theorem w_mid {c d : Code} (M : Fr → List AObj → Prop) (h1 : AWk P nt c (midQ M) fr σ) (h2 : ∀ fr σ, M fr σ → AWk P nt d Q fr σ) : AWk P nt (.seq c d) Q fr σ :=
  aw_seq (h1.mono fun e fr σ ⟨he, hm⟩ => by subst he; exact h2 fr σ hm)
end

end Go.Proofs.Ytjflembhgjcgkaa
