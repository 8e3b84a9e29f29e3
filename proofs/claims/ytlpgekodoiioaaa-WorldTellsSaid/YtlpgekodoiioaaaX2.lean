/- More steps of this seat: least and greatest, said; taken. -/
import Derived.Test.YtlpgekodoiioaaaV2
set_option linter.unusedSimpArgs false
set_option linter.unusedVariables false
namespace Go.Proofs.Ytlpgekodoiioaaa
open Go.RowKit

section
variable {P : Program} {nt : Nat} {Q : Exit → Fr → List AObj → Prop} {fr : Fr} {σ : List AObj} {ops : Array Oper} {dr : Bool} {dos ends : List Nat} {l : Trr} {i d : Nat} {o : Oper} {ty : TypeId} {pos : String} {aft : Array Edge} {gd : Option (Nat × Bool)}
theorem s_minV (r : Int) {t t2 : TypeId} {a b : Operand} {k k' : IntKind} {m n : Int} (hp : dr = dr) (hg : guardB ops fr gd = some true) (ht : Nat.blt d nt = true) (ha : aget fr a = .d (.v (.int k m))) (hb : aget fr b = .d (.v (.int k' n))) (hv : (if n < m then n else m) = r) (h : AL P nt ops dr dos ends l Q ((d, .d (.v (.int k r))) :: fr) σ) : ALo P nt ops dr dos ends i ⟨some d, .call { callee := .builtin .min, args := #[a, b], argTypes := #[t, t2] }, ty, pos, aft, gd⟩ l Q fr σ := by
  subst hv; exact s_min hp hg ht ha hb h
theorem s_maxV (r : Int) {t t2 : TypeId} {a b : Operand} {k k' : IntKind} {m n : Int} (hp : dr = dr) (hg : guardB ops fr gd = some true) (ht : Nat.blt d nt = true) (ha : aget fr a = .d (.v (.int k m))) (hb : aget fr b = .d (.v (.int k' n))) (hv : (if n > m then n else m) = r) (h : AL P nt ops dr dos ends l Q ((d, .d (.v (.int k r))) :: fr) σ) : ALo P nt ops dr dos ends i ⟨some d, .call { callee := .builtin .max, args := #[a, b], argTypes := #[t, t2] }, ty, pos, aft, gd⟩ l Q fr σ := by
  subst hv; exact s_max hp hg ht ha hb h
end
theorem bool_ty : TyIs Try.prog 4 1 1 false := Tab.tyIs tab_ok (t := 4) rfl
theorem bool_z : ZIs Try.prog 4 [.bool false] := TabZ.z tabZ_ok rfl
end Go.Proofs.Ytlpgekodoiioaaa
