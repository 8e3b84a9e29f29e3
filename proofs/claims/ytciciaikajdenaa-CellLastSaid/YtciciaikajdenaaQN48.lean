/- N48: the walk of CellLast: too great, may not be. -/
import Derived.Test.YtciciaikajdenaaQNA
set_option linter.unusedSimpArgs false
set_option linter.unusedVariables false
-- ALLUNDEF -- BOXZ
-- LEN: valD_len wordD_len
-- ROW: valR_get wordsR_get
-- DEF VD: [DV.v (.int .u8 vk), DV.v (.int .i64 vn), DV.v (.string vs), DV.lst 4 (valR vl)]
-- DEF UD: [DV.v (.int .u8 uk), DV.v (.int .i64 un), DV.v (.string us), DV.lst 4 (valR ul)]
-- DEF WD: [DV.v (.int .u8 wk), DV.v (.int .i64 wn), DV.v (.string ws), DV.v (.int .i64 wg)]
-- DEF WC: [DV.v (.int .u8 5), DV.v (.int .i64 wn), DV.v (.string ws), DV.v (.int .i64 wg)]
-- DEF YD: [DV.v (.int .u8 yk), DV.v (.int .i64 yn), DV.v (.string ys), DV.v (.int .i64 yg)]
-- DEF BD: [DV.v (.int .u8 bk), DV.v (.int .i64 bn), DV.v (.string bs), DV.v (.int .i64 bg)]
-- DEF ZD: [DV.v (.int .u8 0), DV.v (.int .i64 0), DV.v (.string ⟨#[]⟩), DV.v (.int .i64 0)]
namespace Go.Proofs.Ytciciaikajdenaa
open Go.RowKit

section
variable {vk vn uk un : Int} {vs us : ByteArray} {vl ul : List Val}
set_option maxRecDepth 100000 in
set_option maxHeartbeats 16000000 in
theorem last_big1 (kn : Known) (hv : RunsP Try.prog 43 [.agg [DV.v (.int .u8 vk), DV.v (.int .i64 vn), DV.v (.string vs), DV.lst 4 (valR vl)], .v (.int .i64 0)] (fun v => ∃ z : Int, v = .v (.int .i64 z) ∧ 2000 < z)) :
    RunsP Try.prog 11 [.agg [DV.v (.int .u8 vk), DV.v (.int .i64 vn), DV.v (.string vs), DV.lst 4 (valR vl)], .agg [DV.v (.int .u8 uk), DV.v (.int .i64 un), DV.v (.string us), DV.lst 4 (valR ul)]] (fun r => r = .v (.bool true)) := by
  (try unfold Known at *); (try unfold NewH at *); (try unfold Mut2 at *); (try unfold See2 at *); (try unfold Look at *)
  refine enterPB 145 tab_ok Try.func11 rfl (by kernel_rfl) rfl rfl rfl ?_
  repeat' (first
      | refine s_op rfl ?_ | (apply s_skipV; (iterate 2 (exact rfl))) | (apply s_skipU; (iterate 3 (exact rfl))) | (apply s_move; (iterate 4 (exact rfl))) | (apply s_fa_p tab_ok; (iterate 5 (exact rfl)))
      | (apply s_fa_f tab_ok; (iterate 6 (exact rfl))) | (apply s_ld_p tab_ok; (iterate 7 (exact rfl))) | (apply s_ld_f tab_ok; (iterate 6 (exact rfl))) | (apply s_ld_w tab_ok; (iterate 5 (exact rfl)); (first | exact valD_len _ | exact wordD_len _)) | (apply s_assign; (iterate 4 (exact rfl)))
      | (apply s_pick_t; (iterate 5 (exact rfl))) | (apply s_pick_f; (iterate 5 (exact rfl))) | (apply s_len tab_ok; (iterate 5 (exact rfl))) | (apply s_lens str_ok; (iterate 4 (exact rfl))) | (apply s_idx tab_ok; (iterate 7 (exact rfl)); (first | exact valR_get (by assumption) | exact wordsR_get (by assumption) | assumption))
      | (apply s_ext; (iterate 5 (exact rfl))) | (apply s_boxZ; (iterate 5 (exact rfl)); first | exact rfl | exact allD_mapd _) | (apply s_not_t; (iterate 4 (exact rfl))) | (apply s_not_f; (iterate 4 (exact rfl))) | (apply s_not; (iterate 4 (exact rfl)))
      | (apply s_eql_t; (iterate 5 (exact rfl)); omega) | (apply s_eql_f; (iterate 5 (exact rfl)); omega) | (apply s_neq_t; (iterate 5 (exact rfl)); omega) | (apply s_neq_f; (iterate 5 (exact rfl)); omega) | (apply s_lss_t; (iterate 5 (exact rfl)); omega)
      | (apply s_lss_f; (iterate 5 (exact rfl)); omega) | (apply s_gtr_t; (iterate 5 (exact rfl)); omega) | (apply s_gtr_f; (iterate 5 (exact rfl)); omega) | (apply s_add64; (iterate 5 (exact rfl)); omega)
      | (apply s_callS; (iterate 6 (exact rfl)); exact kn _; rintro _ σ1 ⟨rfl, hk2⟩; clear hk2)
      | (apply s_call; (iterate 6 (exact rfl)); exact hv; rintro _ ⟨z, rfl, hz⟩)
      | refine al_nil ?_ | refine q_then_n ?_ | refine q_blk_n ?_ | refine q_blk_r ?_ | refine q_blk_e ?_
      | refine q_blk_o rfl ?_ | refine q_then_e ?_ | refine aw_block ?_ | refine aw_exit ?_ | refine q_then_r ?_
      | refine aw_seq ?_ | refine aw_reg ?_ | refine aw_true rfl ?_ | refine aw_false rfl ?_ | refine aw_skip ?_
      | refine aw_ret ?_ | refine al_fork ?_ ?_ | refine al_fork3 ?_ ?_ ?_
      | refine aw_draws (id := 23) (trO [0, 1, 2, 3, 4, 5, 6, 7] .nil) [] [] mixed_ok (by kernel_rfl) ?_)
  all_goals exact q_retB (resB_1 rfl (resV_t rfl)) ⟨_, rfl, rfl⟩
set_option maxRecDepth 100000 in
set_option maxHeartbeats 16000000 in
theorem last_big2 (kn : Known) (hv : RunsP Try.prog 43 [.agg [DV.v (.int .u8 vk), DV.v (.int .i64 vn), DV.v (.string vs), DV.lst 4 (valR vl)], .v (.int .i64 0)] (fun v => ∃ z : Int, v = .v (.int .i64 z))) (hu : RunsP Try.prog 43 [.agg [DV.v (.int .u8 uk), DV.v (.int .i64 un), DV.v (.string us), DV.lst 4 (valR ul)], .v (.int .i64 0)] (fun v => ∃ z : Int, v = .v (.int .i64 z) ∧ 2000 < z)) :
    RunsP Try.prog 11 [.agg [DV.v (.int .u8 vk), DV.v (.int .i64 vn), DV.v (.string vs), DV.lst 4 (valR vl)], .agg [DV.v (.int .u8 uk), DV.v (.int .i64 un), DV.v (.string us), DV.lst 4 (valR ul)]] (fun r => r = .v (.bool true)) := by
  (try unfold Known at *); (try unfold NewH at *); (try unfold Mut2 at *); (try unfold See2 at *); (try unfold Look at *)
  refine enterPB 145 tab_ok Try.func11 rfl (by kernel_rfl) rfl rfl rfl ?_
  repeat' (first
      | refine s_op rfl ?_ | (apply s_skipV; (iterate 2 (exact rfl))) | (apply s_skipU; (iterate 3 (exact rfl))) | (apply s_move; (iterate 4 (exact rfl))) | (apply s_fa_p tab_ok; (iterate 5 (exact rfl)))
      | (apply s_fa_f tab_ok; (iterate 6 (exact rfl))) | (apply s_ld_p tab_ok; (iterate 7 (exact rfl))) | (apply s_ld_f tab_ok; (iterate 6 (exact rfl))) | (apply s_ld_w tab_ok; (iterate 5 (exact rfl)); (first | exact valD_len _ | exact wordD_len _)) | (apply s_assign; (iterate 4 (exact rfl)))
      | (apply s_pick_t; (iterate 5 (exact rfl))) | (apply s_pick_f; (iterate 5 (exact rfl))) | (apply s_len tab_ok; (iterate 5 (exact rfl))) | (apply s_lens str_ok; (iterate 4 (exact rfl))) | (apply s_idx tab_ok; (iterate 7 (exact rfl)); (first | exact valR_get (by assumption) | exact wordsR_get (by assumption) | assumption))
      | (apply s_ext; (iterate 5 (exact rfl))) | (apply s_boxZ; (iterate 5 (exact rfl)); first | exact rfl | exact allD_mapd _) | (apply s_not_t; (iterate 4 (exact rfl))) | (apply s_not_f; (iterate 4 (exact rfl))) | (apply s_not; (iterate 4 (exact rfl)))
      | (apply s_eql_t; (iterate 5 (exact rfl)); omega) | (apply s_eql_f; (iterate 5 (exact rfl)); omega) | (apply s_neq_t; (iterate 5 (exact rfl)); omega) | (apply s_neq_f; (iterate 5 (exact rfl)); omega) | (apply s_lss_t; (iterate 5 (exact rfl)); omega)
      | (apply s_lss_f; (iterate 5 (exact rfl)); omega) | (apply s_gtr_t; (iterate 5 (exact rfl)); omega) | (apply s_gtr_f; (iterate 5 (exact rfl)); omega) | (apply s_add64; (iterate 5 (exact rfl)); omega)
      | (apply s_callS; (iterate 6 (exact rfl)); exact kn _; rintro _ σ1 ⟨rfl, hk2⟩; clear hk2)
      | (apply s_call; (iterate 6 (exact rfl)); exact hv; rintro _ ⟨z, rfl⟩; by_cases hz3hv : z ≤ 2000)
      | (apply s_call; (iterate 6 (exact rfl)); exact hu; rintro _ ⟨z, rfl, hz⟩)
      | refine al_nil ?_ | refine q_then_n ?_ | refine q_blk_n ?_ | refine q_blk_r ?_ | refine q_blk_e ?_
      | refine q_blk_o rfl ?_ | refine q_then_e ?_ | refine aw_block ?_ | refine aw_exit ?_ | refine q_then_r ?_
      | refine aw_seq ?_ | refine aw_reg ?_ | refine aw_true rfl ?_ | refine aw_false rfl ?_ | refine aw_skip ?_
      | refine aw_ret ?_ | refine al_fork ?_ ?_ | refine al_fork3 ?_ ?_ ?_
      | refine aw_draws (id := 23) (trO [0, 1, 2, 3, 4, 5, 6, 7] .nil) [] [] mixed_ok (by kernel_rfl) ?_)
  all_goals exact q_retB (resB_1 rfl (resV_t rfl)) ⟨_, rfl, rfl⟩
set_option maxRecDepth 100000 in
set_option maxHeartbeats 16000000 in
theorem last_no1 (kn : Known) (hv : RunsP Try.prog 43 [.agg [DV.v (.int .u8 vk), DV.v (.int .i64 vn), DV.v (.string vs), DV.lst 4 (valR vl)], .v (.int .i64 0)] (fun v => ∃ z : Int, v = .v (.int .i64 z))) (hu : RunsP Try.prog 43 [.agg [DV.v (.int .u8 uk), DV.v (.int .i64 un), DV.v (.string us), DV.lst 4 (valR ul)], .v (.int .i64 0)] (fun v => ∃ z : Int, v = .v (.int .i64 z))) (mv : RunsP Try.prog 55 [.agg [DV.v (.int .u8 vk), DV.v (.int .i64 vn), DV.v (.string vs), DV.lst 4 (valR vl)]] (fun v => v = .v (.bool false))) :
    RunsP Try.prog 11 [.agg [DV.v (.int .u8 vk), DV.v (.int .i64 vn), DV.v (.string vs), DV.lst 4 (valR vl)], .agg [DV.v (.int .u8 uk), DV.v (.int .i64 un), DV.v (.string us), DV.lst 4 (valR ul)]] (fun r => r = .v (.bool true)) := by
  (try unfold Known at *); (try unfold NewH at *); (try unfold Mut2 at *); (try unfold See2 at *); (try unfold Look at *)
  refine enterPB 145 tab_ok Try.func11 rfl (by kernel_rfl) rfl rfl rfl ?_
  repeat' (first
      | refine s_op rfl ?_ | (apply s_skipV; (iterate 2 (exact rfl))) | (apply s_skipU; (iterate 3 (exact rfl))) | (apply s_move; (iterate 4 (exact rfl))) | (apply s_fa_p tab_ok; (iterate 5 (exact rfl)))
      | (apply s_fa_f tab_ok; (iterate 6 (exact rfl))) | (apply s_ld_p tab_ok; (iterate 7 (exact rfl))) | (apply s_ld_f tab_ok; (iterate 6 (exact rfl))) | (apply s_ld_w tab_ok; (iterate 5 (exact rfl)); (first | exact valD_len _ | exact wordD_len _)) | (apply s_assign; (iterate 4 (exact rfl)))
      | (apply s_pick_t; (iterate 5 (exact rfl))) | (apply s_pick_f; (iterate 5 (exact rfl))) | (apply s_len tab_ok; (iterate 5 (exact rfl))) | (apply s_lens str_ok; (iterate 4 (exact rfl))) | (apply s_idx tab_ok; (iterate 7 (exact rfl)); (first | exact valR_get (by assumption) | exact wordsR_get (by assumption) | assumption))
      | (apply s_ext; (iterate 5 (exact rfl))) | (apply s_boxZ; (iterate 5 (exact rfl)); first | exact rfl | exact allD_mapd _) | (apply s_not_t; (iterate 4 (exact rfl))) | (apply s_not_f; (iterate 4 (exact rfl))) | (apply s_not; (iterate 4 (exact rfl)))
      | (apply s_eql_t; (iterate 5 (exact rfl)); omega) | (apply s_eql_f; (iterate 5 (exact rfl)); omega) | (apply s_neq_t; (iterate 5 (exact rfl)); omega) | (apply s_neq_f; (iterate 5 (exact rfl)); omega) | (apply s_lss_t; (iterate 5 (exact rfl)); omega)
      | (apply s_lss_f; (iterate 5 (exact rfl)); omega) | (apply s_gtr_t; (iterate 5 (exact rfl)); omega) | (apply s_gtr_f; (iterate 5 (exact rfl)); omega) | (apply s_add64; (iterate 5 (exact rfl)); omega)
      | (apply s_callS; (iterate 6 (exact rfl)); exact kn _; rintro _ σ1 ⟨rfl, hk2⟩; clear hk2)
      | (apply s_call; (iterate 6 (exact rfl)); exact hv; rintro _ ⟨z, rfl⟩; by_cases hz3hv : z ≤ 2000)
      | (apply s_call; (iterate 6 (exact rfl)); exact hu; rintro _ ⟨z, rfl⟩; by_cases hz3hu : z ≤ 2000)
      | (apply s_call; (iterate 6 (exact rfl)); first | (exact mv; rintro _ rfl))
      | refine al_nil ?_ | refine q_then_n ?_ | refine q_blk_n ?_ | refine q_blk_r ?_ | refine q_blk_e ?_
      | refine q_blk_o rfl ?_ | refine q_then_e ?_ | refine aw_block ?_ | refine aw_exit ?_ | refine q_then_r ?_
      | refine aw_seq ?_ | refine aw_reg ?_ | refine aw_true rfl ?_ | refine aw_false rfl ?_ | refine aw_skip ?_
      | refine aw_ret ?_ | refine al_fork ?_ ?_ | refine al_fork3 ?_ ?_ ?_
      | refine aw_draws (id := 23) (trO [0, 1, 2, 3, 4, 5, 6, 7] .nil) [] [] mixed_ok (by kernel_rfl) ?_)
  all_goals exact q_retB (resB_1 rfl (resV_t rfl)) ⟨_, rfl, rfl⟩
set_option maxRecDepth 100000 in
set_option maxHeartbeats 16000000 in
theorem last_no2 (kn : Known) (hv : RunsP Try.prog 43 [.agg [DV.v (.int .u8 vk), DV.v (.int .i64 vn), DV.v (.string vs), DV.lst 4 (valR vl)], .v (.int .i64 0)] (fun v => ∃ z : Int, v = .v (.int .i64 z))) (hu : RunsP Try.prog 43 [.agg [DV.v (.int .u8 uk), DV.v (.int .i64 un), DV.v (.string us), DV.lst 4 (valR ul)], .v (.int .i64 0)] (fun v => ∃ z : Int, v = .v (.int .i64 z))) (mv : RunsP Try.prog 55 [.agg [DV.v (.int .u8 vk), DV.v (.int .i64 vn), DV.v (.string vs), DV.lst 4 (valR vl)]] (fun v => v = .v (.bool true))) (mu : RunsP Try.prog 55 [.agg [DV.v (.int .u8 uk), DV.v (.int .i64 un), DV.v (.string us), DV.lst 4 (valR ul)]] (fun v => v = .v (.bool false))) :
    RunsP Try.prog 11 [.agg [DV.v (.int .u8 vk), DV.v (.int .i64 vn), DV.v (.string vs), DV.lst 4 (valR vl)], .agg [DV.v (.int .u8 uk), DV.v (.int .i64 un), DV.v (.string us), DV.lst 4 (valR ul)]] (fun r => r = .v (.bool true)) := by
  (try unfold Known at *); (try unfold NewH at *); (try unfold Mut2 at *); (try unfold See2 at *); (try unfold Look at *)
  refine enterPB 145 tab_ok Try.func11 rfl (by kernel_rfl) rfl rfl rfl ?_
  repeat' (first
      | refine s_op rfl ?_ | (apply s_skipV; (iterate 2 (exact rfl))) | (apply s_skipU; (iterate 3 (exact rfl))) | (apply s_move; (iterate 4 (exact rfl))) | (apply s_fa_p tab_ok; (iterate 5 (exact rfl)))
      | (apply s_fa_f tab_ok; (iterate 6 (exact rfl))) | (apply s_ld_p tab_ok; (iterate 7 (exact rfl))) | (apply s_ld_f tab_ok; (iterate 6 (exact rfl))) | (apply s_ld_w tab_ok; (iterate 5 (exact rfl)); (first | exact valD_len _ | exact wordD_len _)) | (apply s_assign; (iterate 4 (exact rfl)))
      | (apply s_pick_t; (iterate 5 (exact rfl))) | (apply s_pick_f; (iterate 5 (exact rfl))) | (apply s_len tab_ok; (iterate 5 (exact rfl))) | (apply s_lens str_ok; (iterate 4 (exact rfl))) | (apply s_idx tab_ok; (iterate 7 (exact rfl)); (first | exact valR_get (by assumption) | exact wordsR_get (by assumption) | assumption))
      | (apply s_ext; (iterate 5 (exact rfl))) | (apply s_boxZ; (iterate 5 (exact rfl)); first | exact rfl | exact allD_mapd _) | (apply s_not_t; (iterate 4 (exact rfl))) | (apply s_not_f; (iterate 4 (exact rfl))) | (apply s_not; (iterate 4 (exact rfl)))
      | (apply s_eql_t; (iterate 5 (exact rfl)); omega) | (apply s_eql_f; (iterate 5 (exact rfl)); omega) | (apply s_neq_t; (iterate 5 (exact rfl)); omega) | (apply s_neq_f; (iterate 5 (exact rfl)); omega) | (apply s_lss_t; (iterate 5 (exact rfl)); omega)
      | (apply s_lss_f; (iterate 5 (exact rfl)); omega) | (apply s_gtr_t; (iterate 5 (exact rfl)); omega) | (apply s_gtr_f; (iterate 5 (exact rfl)); omega) | (apply s_add64; (iterate 5 (exact rfl)); omega)
      | (apply s_callS; (iterate 6 (exact rfl)); exact kn _; rintro _ σ1 ⟨rfl, hk2⟩; clear hk2)
      | (apply s_call; (iterate 6 (exact rfl)); exact hv; rintro _ ⟨z, rfl⟩; by_cases hz3hv : z ≤ 2000)
      | (apply s_call; (iterate 6 (exact rfl)); exact hu; rintro _ ⟨z, rfl⟩; by_cases hz3hu : z ≤ 2000)
      | (apply s_call; (iterate 6 (exact rfl)); first | (exact mv; rintro _ rfl) | (exact mu; rintro _ rfl))
      | refine al_nil ?_ | refine q_then_n ?_ | refine q_blk_n ?_ | refine q_blk_r ?_ | refine q_blk_e ?_
      | refine q_blk_o rfl ?_ | refine q_then_e ?_ | refine aw_block ?_ | refine aw_exit ?_ | refine q_then_r ?_
      | refine aw_seq ?_ | refine aw_reg ?_ | refine aw_true rfl ?_ | refine aw_false rfl ?_ | refine aw_skip ?_
      | refine aw_ret ?_ | refine al_fork ?_ ?_ | refine al_fork3 ?_ ?_ ?_
      | refine aw_draws (id := 23) (trO [0, 1, 2, 3, 4, 5, 6, 7] .nil) [] [] mixed_ok (by kernel_rfl) ?_)
  all_goals exact q_retB (resB_1 rfl (resV_t rfl)) ⟨_, rfl, rfl⟩
end
end Go.Proofs.Ytciciaikajdenaa
