/- C58: may a check begin (24). -/
import Derived.Test.YtjflembhgjcgkaaTP10C10
import Derived.Test.YtjflembhgjcgkaaTP10XM6C17C18
set_option linter.unusedSimpArgs false
set_option linter.unusedVariables false
namespace Go.Proofs.Ytjflembhgjcgkaa
open Go.RowKit

def mayZ (g : Sg) (l : List Pat) : Int := if servesB g = true ∧ togB g l = true then 0 else 2
set_option maxRecDepth 100000 in
theorem may24_c {g : Sg} (hs : g.Small) {m : Nat} (hm : m ≤ 1000000000) {l : List Pat} (hl : SmallP m l) : RunsP Try.prog 24 [.agg (sigD g), patsD l] (fun v => v = .v (.int .i64 (mayZ g l))) := by
  have h1 := serves_c g hs
  have h2 := tog_c g hs m hm l hl
  unfold mayZ
  cases e1 : servesB g <;> rw [e1] at h1
  · refine enterP 14 Try.func24 rfl (by kernel_rfl) rfl rfl rfl ?_
    repeat' (first | refine s_op rfl ?_ | (apply s_skipV; (iterate 2 (exact rfl))) | (apply s_move; (iterate 4 (exact rfl))) | (apply s_ld_f tab_ok; (iterate 6 (exact rfl))) | (apply s_assign; (iterate 4 (exact rfl))) | (apply s_pick_t; (iterate 5 (exact rfl))) | (apply s_boxZ; (iterate 5 (exact rfl)); first | exact rfl | exact allD_mapd _) | (apply s_not_f; (iterate 4 (exact rfl))) | (apply s_call; (iterate 6 (exact rfl)); first | (exact h1; rintro _ rfl) | (exact h2; rintro _ rfl)) | refine al_nil ?_ | refine q_then_n ?_ | refine q_then_r ?_ | refine aw_seq ?_ | refine aw_reg ?_ | refine aw_true rfl ?_ | refine aw_ret ?_)
    exact q_ret rfl ⟨_, rfl, rfl⟩
  cases e2 : togB g l <;> rw [e2] at h2
  · refine enterP 14 Try.func24 rfl (by kernel_rfl) rfl rfl rfl ?_
    repeat' (first | refine s_op rfl ?_ | (apply s_move; (iterate 4 (exact rfl))) | (apply s_ld_f tab_ok; (iterate 6 (exact rfl))) | (apply s_assign; (iterate 4 (exact rfl))) | (apply s_pick_f; (iterate 5 (exact rfl))) | (apply s_boxZ; (iterate 5 (exact rfl)); first | exact rfl | exact allD_mapd _) | (apply s_not_t; (iterate 4 (exact rfl))) | (apply s_not_f; (iterate 4 (exact rfl))) | (apply s_call; (iterate 6 (exact rfl)); first | (exact h1; rintro _ rfl) | (exact h2; rintro _ rfl)) | refine al_nil ?_ | refine q_then_n ?_ | refine q_then_r ?_ | refine aw_seq ?_ | refine aw_reg ?_ | refine aw_true rfl ?_ | refine aw_ret ?_)
    exact q_ret rfl ⟨_, rfl, rfl⟩
  · refine enterP 14 Try.func24 rfl (by kernel_rfl) rfl rfl rfl ?_
    repeat' (first | refine s_op rfl ?_ | (apply s_move; (iterate 4 (exact rfl))) | (apply s_ld_f tab_ok; (iterate 6 (exact rfl))) | (apply s_assign; (iterate 4 (exact rfl))) | (apply s_pick_f; (iterate 5 (exact rfl))) | (apply s_boxZ; (iterate 5 (exact rfl)); first | exact rfl | exact allD_mapd _) | (apply s_not_t; (iterate 4 (exact rfl))) | (apply s_call; (iterate 6 (exact rfl)); first | (exact h1; rintro _ rfl) | (exact h2; rintro _ rfl)) | refine al_nil ?_ | refine q_then_n ?_ | refine aw_seq ?_ | refine aw_reg ?_ | refine aw_false rfl ?_ | refine aw_skip ?_ | refine aw_ret ?_)
    exact q_ret rfl ⟨_, rfl, rfl⟩
end Go.Proofs.Ytjflembhgjcgkaa
