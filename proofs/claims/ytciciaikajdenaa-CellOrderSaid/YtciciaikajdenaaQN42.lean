/- N42: the walk of CellOrder: too great, may not be, a leaf. -/
import Derived.Test.YtciciaikajdenaaQNA
set_option linter.unusedSimpArgs false
set_option linter.unusedVariables false
-- ALLUNDEF -- BOXZ
-- LEN: valD_len wordD_len
-- ROW: valR_get wordsR_get
-- DEF VD: [DV.v (.int .u8 vk), DV.v (.int .i64 vn), DV.v (.string vs), DV.lst 4 (valR vl)]
-- DEF UD: [DV.v (.int .u8 uk), DV.v (.int .i64 un), DV.v (.string us), DV.lst 4 (valR ul)]
-- DEF WD: [DV.v (.int .u8 wk), DV.v (.int .i64 wn), DV.v (.string ws), DV.v (.int .i64 wg)]
-- DEF WC: [DV.v (.int .u8 5), DV.v (.int .i64 wn), DV.v (.string ws), DV.v (.int .i64 wg)]
-- DEF YD: [DV.v (.int .u8 yk), DV.v (.int .i64 yn), DV.v (.string ys), DV.v (.int .i64 yg)]
-- DEF BD: [DV.v (.int .u8 bk), DV.v (.int .i64 bn), DV.v (.string bs), DV.v (.int .i64 bg)]
-- DEF ZD: [DV.v (.int .u8 0), DV.v (.int .i64 0), DV.v (.string ⟨#[]⟩), DV.v (.int .i64 0)]
namespace Go.Proofs.Ytciciaikajdenaa
open Go.RowKit

section
variable {vk vn : Int} {vs : ByteArray} {vl : List Val}
set_option maxRecDepth 100000 in
set_option maxHeartbeats 16000000 in
theorem order_big (kn : Known) (hsz : RunsP Try.prog 43 [.agg [DV.v (.int .u8 vk), DV.v (.int .i64 vn), DV.v (.string vs), DV.lst 4 (valR vl)], .v (.int .i64 0)] (fun v => ∃ z : Int, v = .v (.int .i64 z) ∧ 4000 < z)) :
    RunsP Try.prog 10 [.agg [DV.v (.int .u8 vk), DV.v (.int .i64 vn), DV.v (.string vs), DV.lst 4 (valR vl)]] (fun r => r = .v (.bool true)) := by
  unfold Known at kn
  refine enterPB 158 tab_ok Try.func10 rfl (by kernel_rfl) rfl rfl rfl ?_
  repeat' (first
      | refine s_op rfl ?_ | (apply s_skipV; (iterate 2 (exact rfl))) | (apply s_skipU; (iterate 3 (exact rfl))) | (apply s_move; (iterate 4 (exact rfl))) | (apply s_fa_p tab_ok; (iterate 5 (exact rfl)))
      | (apply s_fa_f tab_ok; (iterate 6 (exact rfl))) | (apply s_ld_p tab_ok; (iterate 7 (exact rfl))) | (apply s_ld_f tab_ok; (iterate 6 (exact rfl))) | (apply s_ld_w tab_ok; (iterate 5 (exact rfl)); (first | exact valD_len _ | exact wordD_len _)) | (apply s_assign; (iterate 4 (exact rfl)))
      | (apply s_pick_t; (iterate 5 (exact rfl))) | (apply s_pick_f; (iterate 5 (exact rfl))) | (apply s_len tab_ok; (iterate 5 (exact rfl))) | (apply s_lens str_ok; (iterate 4 (exact rfl))) | (apply s_idx tab_ok; (iterate 7 (exact rfl)); (first | exact valR_get (by assumption) | exact wordsR_get (by assumption) | assumption))
      | (apply s_ext; (iterate 5 (exact rfl))) | (apply s_build tabZ_ok; (iterate 5 (exact rfl))) | (apply s_alloc tabZ_ok; (iterate 7 (exact rfl))) | (apply s_boxZ; (iterate 5 (exact rfl)); first | exact rfl | exact allD_mapd _) | (apply s_store tab_ok; (iterate 10 (exact rfl)))
      | (apply s_lit tab_ok tabZ_ok; (iterate 10 (exact rfl))) | (apply s_lit1 tab_ok tabZ_ok; (iterate 9 (exact rfl)); (first | exact valD_len _ | exact wordD_len _)) | (apply s_app tab_ok tabZ_ok; (iterate 13 (exact rfl)); (first | (simp; done) | (simp; omega))) | (apply s_not_t; (iterate 4 (exact rfl))) | (apply s_not_f; (iterate 4 (exact rfl)))
      | (apply s_not; (iterate 4 (exact rfl))) | (apply s_eql_t; (iterate 5 (exact rfl)); omega) | (apply s_eql_f; (iterate 5 (exact rfl)); omega) | (apply s_neq_t; (iterate 5 (exact rfl)); omega) | (apply s_neq_f; (iterate 5 (exact rfl)); omega)
      | (apply s_lss_t; (iterate 5 (exact rfl)); omega) | (apply s_lss_f; (iterate 5 (exact rfl)); omega) | (apply s_gtr_t; (iterate 5 (exact rfl)); omega) | (apply s_gtr_f; (iterate 5 (exact rfl)); omega) | (apply s_add64; (iterate 5 (exact rfl)); omega)
      | (apply s_sub64; (iterate 5 (exact rfl)); omega)
      | (apply s_callS; (iterate 6 (exact rfl)); exact kn _; rintro _ σ1 ⟨rfl, hk2⟩; clear hk2)
      | (apply s_call; (iterate 6 (exact rfl)); exact hsz; rintro _ ⟨z, rfl, hz⟩)
      | refine al_nil ?_ | refine q_then_n ?_ | refine q_blk_n ?_ | refine q_blk_r ?_ | refine q_blk_e ?_
      | refine q_blk_o rfl ?_ | refine q_then_e ?_ | refine aw_block ?_ | refine aw_exit ?_ | refine q_then_r ?_
      | refine aw_seq ?_ | refine aw_reg ?_ | refine aw_true rfl ?_ | refine aw_false rfl ?_ | refine aw_skip ?_
      | refine aw_ret ?_ | refine al_fork ?_ ?_ | refine al_fork3 ?_ ?_ ?_
      | refine aw_draws (id := 12) (trO [0, 2, 1, 3, 4, 5, 6, 7, 8, 9, 10, 11, 12, 13, 14] .nil) [1, 11] [1] mixed_ok (by kernel_rfl) ?_)
  all_goals exact q_retB (resB_1 rfl (resV_t rfl)) ⟨_, rfl, rfl⟩
set_option maxRecDepth 100000 in
set_option maxHeartbeats 16000000 in
theorem order_not (kn : Known) (hsz : RunsP Try.prog 43 [.agg [DV.v (.int .u8 vk), DV.v (.int .i64 vn), DV.v (.string vs), DV.lst 4 (valR vl)], .v (.int .i64 0)] (fun v => ∃ z : Int, v = .v (.int .i64 z))) {H0 : AHeap} (b0 : NewH 100000 H0) (m1 : Mut2 45 [.d (.agg [DV.v (.int .u8 vk), DV.v (.int .i64 vn), DV.v (.string vs), DV.lst 4 (valR vl)])] H0 (.tup [.agg [DV.v (.int .u8 0), DV.v (.int .i64 0), DV.v (.string ⟨#[]⟩), DV.v (.int .i64 0)], .v (.int .i64 2)]) H0) (l1 : Look 33 H0 (.v (.int .i64 0))) :
    RunsP Try.prog 10 [.agg [DV.v (.int .u8 vk), DV.v (.int .i64 vn), DV.v (.string vs), DV.lst 4 (valR vl)]] (fun r => r = .v (.bool true)) := by
  (try unfold Known at *); (try unfold NewH at *); (try unfold Mut2 at *); (try unfold See2 at *); (try unfold Look at *)
  refine enterPB 158 tab_ok Try.func10 rfl (by kernel_rfl) rfl rfl rfl ?_
  repeat' (first
      | refine s_op rfl ?_ | (apply s_skipV; (iterate 2 (exact rfl))) | (apply s_skipU; (iterate 3 (exact rfl))) | (apply s_move; (iterate 4 (exact rfl))) | (apply s_fa_p tab_ok; (iterate 5 (exact rfl)))
      | (apply s_fa_f tab_ok; (iterate 6 (exact rfl))) | (apply s_ld_p tab_ok; (iterate 7 (exact rfl))) | (apply s_ld_f tab_ok; (iterate 6 (exact rfl))) | (apply s_ld_w tab_ok; (iterate 5 (exact rfl)); (first | exact valD_len _ | exact wordD_len _)) | (apply s_assign; (iterate 4 (exact rfl)))
      | (apply s_pick_t; (iterate 5 (exact rfl))) | (apply s_pick_f; (iterate 5 (exact rfl))) | (apply s_len tab_ok; (iterate 5 (exact rfl))) | (apply s_lens str_ok; (iterate 4 (exact rfl))) | (apply s_idx tab_ok; (iterate 7 (exact rfl)); (first | exact valR_get (by assumption) | exact wordsR_get (by assumption) | assumption))
      | (apply s_ext; (iterate 5 (exact rfl))) | (apply s_build tabZ_ok; (iterate 5 (exact rfl))) | (apply s_boxZ; (iterate 5 (exact rfl)); first | exact rfl | exact allD_mapd _) | (apply s_lit tab_ok tabZ_ok; (iterate 10 (exact rfl))) | (apply s_lit1 tab_ok tabZ_ok; (iterate 9 (exact rfl)); (first | exact valD_len _ | exact wordD_len _))
      | (apply s_app tab_ok tabZ_ok; (iterate 13 (exact rfl)); (first | (simp; done) | (simp; omega))) | (apply s_not_t; (iterate 4 (exact rfl))) | (apply s_not_f; (iterate 4 (exact rfl))) | (apply s_not; (iterate 4 (exact rfl))) | (apply s_eql_t; (iterate 5 (exact rfl)); omega)
      | (apply s_eql_f; (iterate 5 (exact rfl)); omega) | (apply s_neq_t; (iterate 5 (exact rfl)); omega) | (apply s_neq_f; (iterate 5 (exact rfl)); omega) | (apply s_lss_t; (iterate 5 (exact rfl)); omega) | (apply s_lss_f; (iterate 5 (exact rfl)); omega)
      | (apply s_gtr_t; (iterate 5 (exact rfl)); omega) | (apply s_gtr_f; (iterate 5 (exact rfl)); omega) | (apply s_add64; (iterate 5 (exact rfl)); omega) | (apply s_sub64; (iterate 5 (exact rfl)); omega)
      | (apply s_callS; (iterate 6 (exact rfl)); exact kn _; rintro _ σ1 ⟨rfl, hk2⟩; clear hk2)
      | (apply s_call; (iterate 6 (exact rfl)); exact hsz; rintro _ ⟨z, rfl⟩; by_cases hz3 : z ≤ 4000)
      | (apply s_callS; (iterate 6 (exact rfl)); exact b0 _; rintro _ σ1 ⟨locH, rfl, hc⟩; (try (have nWH := hc.ne hW)); (try (replace hW := hc.keep hW)); (try (have nRH := hc.ne hR)); (try (replace hR := hc.keep hR)); (try (have nCH := hc.ne hC)); (try (replace hC := hc.keep hC)); have hH := hc.at'; clear hc)
      | (apply s_allocF tabZ_ok (d := 5); (iterate 6 (exact rfl)); intro locW σ hc; have hW := hc.at'; (try (have nHW := hc.ne hH)); (try (replace hH := hc.keep hH)); (try (have nRW := hc.ne hR)); (try (replace hR := hc.keep hR)); (try (have nCW := hc.ne hC)); (try (replace hC := hc.keep hC)); clear hc)
      | (apply s_allocF tabZ_ok (d := 9); (iterate 6 (exact rfl)); intro locC σ hc; have hC := hc.at'; (try (have nHC := hc.ne hH)); (try (replace hH := hc.keep hH)); (try (have nWC := hc.ne hW)); (try (replace hW := hc.keep hW)); (try (have nRC := hc.ne hR)); (try (replace hR := hc.keep hR)); clear hc)
      | (apply s_storeF tab_ok; (iterate 7 (exact rfl)); exact hW; (iterate 2 (exact rfl)); intro σ hc; replace hW := hc.at'; (try (replace hH := hc.keep (by first | assumption | (apply Ne.symm; assumption)) hH)); (try (replace hR := hc.keep (by first | assumption | (apply Ne.symm; assumption)) hR)); (try (replace hC := hc.keep (by first | assumption | (apply Ne.symm; assumption)) hC)); clear hc)
      | (apply s_storeF tab_ok; (iterate 7 (exact rfl)); exact hC; (iterate 2 (exact rfl)); intro σ hc; replace hC := hc.at'; (try (replace hH := hc.keep (by first | assumption | (apply Ne.symm; assumption)) hH)); (try (replace hW := hc.keep (by first | assumption | (apply Ne.symm; assumption)) hW)); (try (replace hR := hc.keep (by first | assumption | (apply Ne.symm; assumption)) hR)); clear hc)
      | (apply s_ldF tab_ok; (iterate 5 (exact rfl)); exact hW; exact rfl)
      | (apply s_callS; (iterate 6 (exact rfl)); (first | exact m1 _ _ hH); rintro _ σ2 ⟨rfl, hH2, hk2⟩; (try (replace hW := hk2 _ _ (by first | assumption | (apply Ne.symm; assumption)) hW)); (try (replace hR := hk2 _ _ (by first | assumption | (apply Ne.symm; assumption)) hR)); (try (replace hC := hk2 _ _ (by first | assumption | (apply Ne.symm; assumption)) hC)); clear hk2; replace hH := hH2; clear hH2)
      | (apply s_callS; (iterate 6 (exact rfl)); (first | exact l1 _ _ hH); rintro _ σ2 ⟨rfl, rfl⟩)
      | (apply s_wEq_t .zero .zero; (iterate 6 (exact rfl)))
      | refine al_nil ?_ | refine q_then_n ?_ | refine q_blk_n ?_ | refine q_blk_r ?_ | refine q_blk_e ?_
      | refine q_blk_o rfl ?_ | refine q_then_e ?_ | refine aw_block ?_ | refine aw_exit ?_ | refine q_then_r ?_
      | refine aw_seq ?_ | refine aw_reg ?_ | refine aw_true rfl ?_ | refine aw_false rfl ?_ | refine aw_skip ?_
      | refine aw_ret ?_ | refine al_fork ?_ ?_ | refine al_fork3 ?_ ?_ ?_
      | refine aw_draws (id := 12) (trO [0, 2, 1, 3, 4, 5, 6, 7, 8, 9, 10, 11, 12, 13, 14] .nil) [1, 11] [1] mixed_ok (by kernel_rfl) ?_)
  all_goals exact q_retB (resB_1 rfl (resV_t rfl)) ⟨_, rfl, rfl⟩
set_option maxRecDepth 100000 in
set_option maxHeartbeats 16000000 in
theorem order_leaf (kn : Known) (hsz : RunsP Try.prog 43 [.agg [DV.v (.int .u8 vk), DV.v (.int .i64 vn), DV.v (.string vs), DV.lst 4 (valR vl)], .v (.int .i64 0)] (fun v => ∃ z : Int, v = .v (.int .i64 z))) {wk wn wg : Int} {ws : ByteArray} {H0 K : AHeap} (hk : vk < 11) (b0 : NewH 100000 H0) (m1 : Mut2 45 [.d (.agg [DV.v (.int .u8 vk), DV.v (.int .i64 vn), DV.v (.string vs), DV.lst 4 (valR vl)])] H0 (.tup [.agg [DV.v (.int .u8 wk), DV.v (.int .i64 wn), DV.v (.string ws), DV.v (.int .i64 wg)], .v (.int .i64 0)]) K) (l1 : Look 33 K (.v (.int .i64 0))) (h47 : RunsP Try.prog 47 [.agg [DV.v (.int .u8 vk), DV.v (.int .i64 vn), DV.v (.string vs), DV.lst 4 (valR vl)]] (fun v => v = .v (.int .i64 0))) :
    RunsP Try.prog 10 [.agg [DV.v (.int .u8 vk), DV.v (.int .i64 vn), DV.v (.string vs), DV.lst 4 (valR vl)]] (fun r => r = .v (.bool true)) := by
  (try unfold Known at *); (try unfold NewH at *); (try unfold Mut2 at *); (try unfold See2 at *); (try unfold Look at *)
  refine enterPB 158 tab_ok Try.func10 rfl (by kernel_rfl) rfl rfl rfl ?_
  repeat' (first
      | refine s_op rfl ?_ | (apply s_skipV; (iterate 2 (exact rfl))) | (apply s_skipU; (iterate 3 (exact rfl))) | (apply s_move; (iterate 4 (exact rfl))) | (apply s_fa_p tab_ok; (iterate 5 (exact rfl)))
      | (apply s_fa_f tab_ok; (iterate 6 (exact rfl))) | (apply s_ld_p tab_ok; (iterate 7 (exact rfl))) | (apply s_ld_f tab_ok; (iterate 6 (exact rfl))) | (apply s_ld_w tab_ok; (iterate 5 (exact rfl)); (first | exact valD_len _ | exact wordD_len _)) | (apply s_assign; (iterate 4 (exact rfl)))
      | (apply s_pick_t; (iterate 5 (exact rfl))) | (apply s_pick_f; (iterate 5 (exact rfl))) | (apply s_len tab_ok; (iterate 5 (exact rfl))) | (apply s_lens str_ok; (iterate 4 (exact rfl))) | (apply s_idx tab_ok; (iterate 7 (exact rfl)); (first | exact valR_get (by assumption) | exact wordsR_get (by assumption) | assumption))
      | (apply s_ext; (iterate 5 (exact rfl))) | (apply s_build tabZ_ok; (iterate 5 (exact rfl))) | (apply s_boxZ; (iterate 5 (exact rfl)); first | exact rfl | exact allD_mapd _) | (apply s_lit tab_ok tabZ_ok; (iterate 10 (exact rfl))) | (apply s_lit1 tab_ok tabZ_ok; (iterate 9 (exact rfl)); (first | exact valD_len _ | exact wordD_len _))
      | (apply s_app tab_ok tabZ_ok; (iterate 13 (exact rfl)); (first | (simp; done) | (simp; omega))) | (apply s_not_t; (iterate 4 (exact rfl))) | (apply s_not_f; (iterate 4 (exact rfl))) | (apply s_not; (iterate 4 (exact rfl))) | (apply s_eql_t; (iterate 5 (exact rfl)); omega)
      | (apply s_eql_f; (iterate 5 (exact rfl)); omega) | (apply s_neq_t; (iterate 5 (exact rfl)); omega) | (apply s_neq_f; (iterate 5 (exact rfl)); omega) | (apply s_lss_t; (iterate 5 (exact rfl)); omega) | (apply s_lss_f; (iterate 5 (exact rfl)); omega)
      | (apply s_gtr_t; (iterate 5 (exact rfl)); omega) | (apply s_gtr_f; (iterate 5 (exact rfl)); omega) | (apply s_add64; (iterate 5 (exact rfl)); omega) | (apply s_sub64; (iterate 5 (exact rfl)); omega)
      | (apply s_callS; (iterate 6 (exact rfl)); exact kn _; rintro _ σ1 ⟨rfl, hk2⟩; clear hk2)
      | (apply s_call; (iterate 6 (exact rfl)); exact hsz; rintro _ ⟨z, rfl⟩; by_cases hz3 : z ≤ 4000)
      | (apply s_callS; (iterate 6 (exact rfl)); exact b0 _; rintro _ σ1 ⟨locH, rfl, hc⟩; (try (have nWH := hc.ne hW)); (try (replace hW := hc.keep hW)); (try (have nRH := hc.ne hR)); (try (replace hR := hc.keep hR)); (try (have nCH := hc.ne hC)); (try (replace hC := hc.keep hC)); have hH := hc.at'; clear hc)
      | (apply s_allocF tabZ_ok (d := 5); (iterate 6 (exact rfl)); intro locW σ hc; have hW := hc.at'; (try (have nHW := hc.ne hH)); (try (replace hH := hc.keep hH)); (try (have nRW := hc.ne hR)); (try (replace hR := hc.keep hR)); (try (have nCW := hc.ne hC)); (try (replace hC := hc.keep hC)); clear hc)
      | (apply s_allocF tabZ_ok (d := 9); (iterate 6 (exact rfl)); intro locC σ hc; have hC := hc.at'; (try (have nHC := hc.ne hH)); (try (replace hH := hc.keep hH)); (try (have nWC := hc.ne hW)); (try (replace hW := hc.keep hW)); (try (have nRC := hc.ne hR)); (try (replace hR := hc.keep hR)); clear hc)
      | (apply s_storeF tab_ok; (iterate 7 (exact rfl)); exact hW; (iterate 2 (exact rfl)); intro σ hc; replace hW := hc.at'; (try (replace hH := hc.keep (by first | assumption | (apply Ne.symm; assumption)) hH)); (try (replace hR := hc.keep (by first | assumption | (apply Ne.symm; assumption)) hR)); (try (replace hC := hc.keep (by first | assumption | (apply Ne.symm; assumption)) hC)); clear hc)
      | (apply s_storeF tab_ok; (iterate 7 (exact rfl)); exact hC; (iterate 2 (exact rfl)); intro σ hc; replace hC := hc.at'; (try (replace hH := hc.keep (by first | assumption | (apply Ne.symm; assumption)) hH)); (try (replace hW := hc.keep (by first | assumption | (apply Ne.symm; assumption)) hW)); (try (replace hR := hc.keep (by first | assumption | (apply Ne.symm; assumption)) hR)); clear hc)
      | (apply s_ldF tab_ok; (iterate 5 (exact rfl)); exact hW; exact rfl)
      | (apply s_callS; (iterate 6 (exact rfl)); (first | exact m1 _ _ hH); rintro _ σ2 ⟨rfl, hH2, hk2⟩; (try (replace hW := hk2 _ _ (by first | assumption | (apply Ne.symm; assumption)) hW)); (try (replace hR := hk2 _ _ (by first | assumption | (apply Ne.symm; assumption)) hR)); (try (replace hC := hk2 _ _ (by first | assumption | (apply Ne.symm; assumption)) hC)); clear hk2; replace hH := hH2; clear hH2)
      | (apply s_callS; (iterate 6 (exact rfl)); (first | exact l1 _ _ hH); rintro _ σ2 ⟨rfl, rfl⟩)
      | (apply s_call; (iterate 6 (exact rfl)); first | (exact h47; rintro _ rfl))
      | refine al_nil ?_ | refine q_then_n ?_ | refine q_blk_n ?_ | refine q_blk_r ?_ | refine q_blk_e ?_
      | refine q_blk_o rfl ?_ | refine q_then_e ?_ | refine aw_block ?_ | refine aw_exit ?_ | refine q_then_r ?_
      | refine aw_seq ?_ | refine aw_reg ?_ | refine aw_true rfl ?_ | refine aw_false rfl ?_ | refine aw_skip ?_
      | refine aw_ret ?_ | refine al_fork ?_ ?_ | refine al_fork3 ?_ ?_ ?_
      | refine aw_draws (id := 12) (trO [0, 2, 1, 3, 4, 5, 6, 7, 8, 9, 10, 11, 12, 13, 14] .nil) [1, 11] [1] mixed_ok (by kernel_rfl) ?_)
  all_goals exact q_retB (resB_1 rfl (resV_t rfl)) ⟨_, rfl, rfl⟩
end
end Go.Proofs.Ytciciaikajdenaa
