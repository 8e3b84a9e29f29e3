/- New worlds beside others. -/
import Derived.Test.YtlpgekodoiioaaaV1
set_option linter.unusedSimpArgs false
set_option linter.unusedVariables false
namespace Go.Proofs.Ytlpgekodoiioaaa
open Go.RowKit

section
variable {σ σ' : List AObj} {loc k n : Nat} {W : AW} {o o' : AObj}
theorem new_f (files : List AFile) (fails : List Bool) (hb : fails.length ≤ 100000) (hok : NewOk files) :
    Runs Try.prog 12 [.d (filesD files), .d (boolsD fails)] σ (fun v σ' => ∃ loc, v = .tup [.ptr loc 0 0, .d (.v (.int .i64 0))] ∧ Fresh σ loc (wo ⟨files, fails, [], []⟩) σ') :=
  (new_r files fails hb).mono fun v σ' q => by
    rcases q with ⟨_, q1, q2⟩ | ⟨no, _⟩
    · exact ⟨_, q1, by subst q2; exact fresh_app _ _⟩
    · exact absurd hok no
theorem new_no (files : List AFile) (fails : List Bool) (hb : fails.length ≤ 100000) (hok : ¬ NewOk files) :
    Runs Try.prog 12 [.d (filesD files), .d (boolsD fails)] σ (fun v σ' => v = .d (.tup [.v (.pointer none), .v (.int .i64 2)]) ∧ σ' = σ) :=
  (new_r files fails hb).mono fun v σ' q => by
    rcases q with ⟨ok, _⟩ | ⟨_, q1, q2⟩
    · exact absurd ok hok
    · exact ⟨q1, q2⟩
theorem copy_f (hl : σ[loc]? = some (wo W)) (ok : W.Ok n) (hn : n ≤ 100000) (hb : W.fails.length ≤ 100000) :
    Runs Try.prog 14 [.ptr loc 0 0] σ (fun v σ' => ∃ l, v = .ptr l 0 0 ∧ Fresh σ l (wo W) σ') :=
  (runs_copy hl ok hn hb).mono fun v σ' ⟨q1, q2⟩ => ⟨_, q1, by subst q2; exact fresh_app _ _⟩
end

theorem goes_fails (W : AW) : W.goes.2.fails.length ≤ W.fails.length := by
  unfold AW.goes
  split
  · exact Nat.le_refl _
  · rename_i e; rw [e]; simp
theorem do_fails (W : AW) (x : ADo) : (doW W x).fails.length ≤ W.fails.length := by
  have hg := goes_fails W
  unfold doW AW.open_ AW.read AW.write AW.close AW.drop AW.note AW.setHandle
  (repeat' split) <;> first | exact Nat.le_refl _ | exact hg | (simp only; split <;> first | exact Nat.le_refl _ | exact hg)
theorem run_fails : ∀ (l : List ADo) (W : AW), (runW W l).fails.length ≤ W.fails.length
  | [], W => Nat.le_refl _
  | x :: l, W => Nat.le_trans (run_fails l (doW W x)) (do_fails W x)
end Go.Proofs.Ytlpgekodoiioaaa
