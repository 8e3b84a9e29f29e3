/- N49: the walk of CellLast: up to the loop. -/
import Derived.Test.YtciciaikajdenaaQN47
set_option linter.unusedSimpArgs false
set_option linter.unusedVariables false
-- ALLUNDEF -- BOXZ
-- LEN: valD_len wordD_len
-- ROW: valR_get wordsR_get
-- DEF VD: [DV.v (.int .u8 vk), DV.v (.int .i64 vn), DV.v (.string vs), DV.lst 4 (valR vl)]
-- DEF UD: [DV.v (.int .u8 uk), DV.v (.int .i64 un), DV.v (.string us), DV.lst 4 (valR ul)]
-- DEF WD: [DV.v (.int .u8 wk), DV.v (.int .i64 wn), DV.v (.string ws), DV.v (.int .i64 wg)]
-- DEF WC: [DV.v (.int .u8 5), DV.v (.int .i64 wn), DV.v (.string ws), DV.v (.int .i64 wg)]
-- DEF YD: [DV.v (.int .u8 yk), DV.v (.int .i64 yn), DV.v (.string ys), DV.v (.int .i64 yg)]
-- DEF BD: [DV.v (.int .u8 bk), DV.v (.int .i64 bn), DV.v (.string bs), DV.v (.int .i64 bg)]
-- DEF ZD: [DV.v (.int .u8 0), DV.v (.int .i64 0), DV.v (.string ⟨#[]⟩), DV.v (.int .i64 0)]
namespace Go.Proofs.Ytciciaikajdenaa
open Go.RowKit

section
variable {vk vn uk un : Int} {vs us : ByteArray} {vl ul : List Val}
set_option maxRecDepth 100000 in
set_option maxHeartbeats 16000000 in
theorem last_yes (kn : Known) (hv : RunsP Try.prog 43 [.agg [DV.v (.int .u8 vk), DV.v (.int .i64 vn), DV.v (.string vs), DV.lst 4 (valR vl)], .v (.int .i64 0)] (fun v => ∃ z : Int, v = .v (.int .i64 z))) (hu : RunsP Try.prog 43 [.agg [DV.v (.int .u8 uk), DV.v (.int .i64 un), DV.v (.string us), DV.lst 4 (valR ul)], .v (.int .i64 0)] (fun v => ∃ z : Int, v = .v (.int .i64 z))) (mv : RunsP Try.prog 55 [.agg [DV.v (.int .u8 vk), DV.v (.int .i64 vn), DV.v (.string vs), DV.lst 4 (valR vl)]] (fun v => v = .v (.bool true))) (mu : RunsP Try.prog 55 [.agg [DV.v (.int .u8 uk), DV.v (.int .i64 un), DV.v (.string us), DV.lst 4 (valR ul)]] (fun v => v = .v (.bool true))) {K4 : AHeap} {was now : List AWord} {bk bn bg qk qn qg : Int} {bs qs : ByteArray} (hlen : now.length = was.length) (hle : was.length ≤ 100000) (hnum : ∀ (j : Nat) (x y : AWord), now[j]? = some x → was[j]? = some y → x.n = y.n) (v1 : See2 49 [.d (.agg [DV.v (.int .u8 qk), DV.v (.int .i64 qn), DV.v (.string qs), DV.v (.int .i64 qg)])] K4 (.tup [.agg [DV.v (.int .u8 vk), DV.v (.int .i64 vn), DV.v (.string vs), DV.lst 4 (valR vl)], .v (.int .i64 0)])) (v2 : See2 49 [.d (.agg [DV.v (.int .u8 bk), DV.v (.int .i64 bn), DV.v (.string bs), DV.v (.int .i64 bg)])] K4 (.tup [.agg [DV.v (.int .u8 uk), DV.v (.int .i64 un), DV.v (.string us), DV.lst 4 (valR ul)], .v (.int .i64 0)])) (sv : RunsP Try.prog 51 [.agg [DV.v (.int .u8 vk), DV.v (.int .i64 vn), DV.v (.string vs), DV.lst 4 (valR vl)], .agg [DV.v (.int .u8 vk), DV.v (.int .i64 vn), DV.v (.string vs), DV.lst 4 (valR vl)]] (fun v => v = .v (.bool true))) (su : RunsP Try.prog 51 [.agg [DV.v (.int .u8 uk), DV.v (.int .i64 un), DV.v (.string us), DV.lst 4 (valR ul)], .agg [DV.v (.int .u8 uk), DV.v (.int .i64 un), DV.v (.string us), DV.lst 4 (valR ul)]] (fun v => v = .v (.bool true))) {H0 K1 K2 K3 : AHeap} {wk wn wg : Int} {ws : ByteArray} (b0 : NewH 100000 H0) (m1 : Mut2 45 [.d (.agg [DV.v (.int .u8 uk), DV.v (.int .i64 un), DV.v (.string us), DV.lst 4 (valR ul)])] H0 (.tup [.agg [DV.v (.int .u8 bk), DV.v (.int .i64 bn), DV.v (.string bs), DV.v (.int .i64 bg)], .v (.int .i64 0)]) K1) (m2 : Mut2 45 [.d (.agg [DV.v (.int .u8 vk), DV.v (.int .i64 vn), DV.v (.string vs), DV.lst 4 (valR vl)])] K1 (.tup [.agg [DV.v (.int .u8 wk), DV.v (.int .i64 wn), DV.v (.string ws), DV.v (.int .i64 wg)], .v (.int .i64 0)]) K2) (lc1 : Look 38 K2 (.lst 4 (wordsR was))) (m3 : Mut2 50 [.d (.fptr worldC), .d (.agg [DV.v (.int .u8 wk), DV.v (.int .i64 wn), DV.v (.string ws), DV.v (.int .i64 wg)])] K2 (.v (.int .i64 0)) K3) (m4 : Mut2 45 [.d (.agg [DV.v (.int .u8 vk), DV.v (.int .i64 vn), DV.v (.string vs), DV.lst 4 (valR vl)])] K3 (.tup [.agg [DV.v (.int .u8 qk), DV.v (.int .i64 qn), DV.v (.string qs), DV.v (.int .i64 qg)], .v (.int .i64 0)]) K4) (lc2 : Look 38 K4 (.lst 4 (wordsR now))) (l1 : Look 36 K4 (.v (.int .i64 (was.length : Int)))) :
    RunsP Try.prog 11 [.agg [DV.v (.int .u8 vk), DV.v (.int .i64 vn), DV.v (.string vs), DV.lst 4 (valR vl)], .agg [DV.v (.int .u8 uk), DV.v (.int .i64 un), DV.v (.string us), DV.lst 4 (valR ul)]] (fun r => r = .v (.bool true)) := by
  (try unfold Known at *); (try unfold NewH at *); (try unfold Mut2 at *); (try unfold See2 at *); (try unfold Look at *)
  have e1 := wordsR_len now
  have e2 := wordsR_len was
  refine enterPB 145 tab_ok Try.func11 rfl (by kernel_rfl) rfl rfl rfl ?_
  repeat' (first
      | refine s_op rfl ?_ | (apply s_skipV; (iterate 2 (exact rfl))) | (apply s_skipU; (iterate 3 (exact rfl))) | (apply s_move; (iterate 4 (exact rfl))) | (apply s_fa_p tab_ok; (iterate 5 (exact rfl)))
      | (apply s_fa_f tab_ok; (iterate 6 (exact rfl))) | (apply s_ld_p tab_ok; (iterate 7 (exact rfl))) | (apply s_ld_f tab_ok; (iterate 6 (exact rfl))) | (apply s_ld_w tab_ok; (iterate 5 (exact rfl)); (first | exact valD_len _ | exact wordD_len _)) | (apply s_assign; (iterate 4 (exact rfl)))
      | (apply s_pick_t; (iterate 5 (exact rfl))) | (apply s_pick_f; (iterate 5 (exact rfl))) | (apply s_len tab_ok; (iterate 5 (exact rfl))) | (apply s_lens str_ok; (iterate 4 (exact rfl))) | (apply s_idx tab_ok; (iterate 7 (exact rfl)); (first | exact valR_get (by assumption) | exact wordsR_get (by assumption) | assumption))
      | (apply s_ext; (iterate 5 (exact rfl))) | (apply s_boxZ; (iterate 5 (exact rfl)); first | exact rfl | exact allD_mapd _) | (apply s_not_t; (iterate 4 (exact rfl))) | (apply s_not_f; (iterate 4 (exact rfl))) | (apply s_not; (iterate 4 (exact rfl)))
      | (apply s_eql_t; (iterate 5 (exact rfl)); omega) | (apply s_eql_f; (iterate 5 (exact rfl)); omega) | (apply s_neq_t; (iterate 5 (exact rfl)); omega) | (apply s_neq_f; (iterate 5 (exact rfl)); omega) | (apply s_lss_t; (iterate 5 (exact rfl)); omega)
      | (apply s_lss_f; (iterate 5 (exact rfl)); omega) | (apply s_gtr_t; (iterate 5 (exact rfl)); omega) | (apply s_gtr_f; (iterate 5 (exact rfl)); omega) | (apply s_add64; (iterate 5 (exact rfl)); omega)
      | (refine w_keep [2, 3, 5, 9, 11, 12, 13] rfl rfl ?_; exact last_tail hlen hle hnum v1 v2 sv su hH hB hA rfl)
      | (apply s_callS; (iterate 6 (exact rfl)); exact kn _; rintro _ σ1 ⟨rfl, hk2⟩; clear hk2)
      | (apply s_call; (iterate 6 (exact rfl)); exact hv; rintro _ ⟨z, rfl⟩; by_cases hz3hv : z ≤ 2000)
      | (apply s_call; (iterate 6 (exact rfl)); exact hu; rintro _ ⟨z, rfl⟩; by_cases hz3hu : z ≤ 2000)
      | (apply s_callS; (iterate 6 (exact rfl)); exact b0 _; rintro _ σ1 ⟨locH, rfl, hc⟩; (try (have nBH := hc.ne hB)); (try (replace hB := hc.keep hB)); (try (have nWH := hc.ne hW)); (try (replace hW := hc.keep hW)); (try (have nAH := hc.ne hA)); (try (replace hA := hc.keep hA)); (try (have nXH := hc.ne hX)); (try (replace hX := hc.keep hX)); (try (have nUH := hc.ne hU)); (try (replace hU := hc.keep hU)); (try (have nVH := hc.ne hV)); (try (replace hV := hc.keep hV)); have hH := hc.at'; clear hc)
      | (apply s_allocF tabZ_ok (d := 9); (iterate 6 (exact rfl)); intro locB σ hc; have hB := hc.at'; (try (have nHB := hc.ne hH)); (try (replace hH := hc.keep hH)); (try (have nWB := hc.ne hW)); (try (replace hW := hc.keep hW)); (try (have nAB := hc.ne hA)); (try (replace hA := hc.keep hA)); (try (have nXB := hc.ne hX)); (try (replace hX := hc.keep hX)); (try (have nUB := hc.ne hU)); (try (replace hU := hc.keep hU)); (try (have nVB := hc.ne hV)); (try (replace hV := hc.keep hV)); clear hc)
      | (apply s_allocF tabZ_ok (d := 10); (iterate 6 (exact rfl)); intro locW σ hc; have hW := hc.at'; (try (have nHW := hc.ne hH)); (try (replace hH := hc.keep hH)); (try (have nBW := hc.ne hB)); (try (replace hB := hc.keep hB)); (try (have nAW := hc.ne hA)); (try (replace hA := hc.keep hA)); (try (have nXW := hc.ne hX)); (try (replace hX := hc.keep hX)); (try (have nUW := hc.ne hU)); (try (replace hU := hc.keep hU)); (try (have nVW := hc.ne hV)); (try (replace hV := hc.keep hV)); clear hc)
      | (apply s_allocF tabZ_ok (d := 12); (iterate 6 (exact rfl)); intro locA σ hc; have hA := hc.at'; (try (have nHA := hc.ne hH)); (try (replace hH := hc.keep hH)); (try (have nBA := hc.ne hB)); (try (replace hB := hc.keep hB)); (try (have nWA := hc.ne hW)); (try (replace hW := hc.keep hW)); (try (have nXA := hc.ne hX)); (try (replace hX := hc.keep hX)); (try (have nUA := hc.ne hU)); (try (replace hU := hc.keep hU)); (try (have nVA := hc.ne hV)); (try (replace hV := hc.keep hV)); clear hc)
      | (apply s_storeF tab_ok; (iterate 7 (exact rfl)); exact hB; (iterate 2 (exact rfl)); intro σ hc; replace hB := hc.at'; (try (replace hH := hc.keep (by first | assumption | (apply Ne.symm; assumption)) hH)); (try (replace hW := hc.keep (by first | assumption | (apply Ne.symm; assumption)) hW)); (try (replace hA := hc.keep (by first | assumption | (apply Ne.symm; assumption)) hA)); (try (replace hX := hc.keep (by first | assumption | (apply Ne.symm; assumption)) hX)); (try (replace hU := hc.keep (by first | assumption | (apply Ne.symm; assumption)) hU)); (try (replace hV := hc.keep (by first | assumption | (apply Ne.symm; assumption)) hV)); clear hc)
      | (apply s_storeF tab_ok; (iterate 7 (exact rfl)); exact hW; (iterate 2 (exact rfl)); intro σ hc; replace hW := hc.at'; (try (replace hH := hc.keep (by first | assumption | (apply Ne.symm; assumption)) hH)); (try (replace hB := hc.keep (by first | assumption | (apply Ne.symm; assumption)) hB)); (try (replace hA := hc.keep (by first | assumption | (apply Ne.symm; assumption)) hA)); (try (replace hX := hc.keep (by first | assumption | (apply Ne.symm; assumption)) hX)); (try (replace hU := hc.keep (by first | assumption | (apply Ne.symm; assumption)) hU)); (try (replace hV := hc.keep (by first | assumption | (apply Ne.symm; assumption)) hV)); clear hc)
      | (apply s_storeF tab_ok; (iterate 7 (exact rfl)); exact hA; (iterate 2 (exact rfl)); intro σ hc; replace hA := hc.at'; (try (replace hH := hc.keep (by first | assumption | (apply Ne.symm; assumption)) hH)); (try (replace hB := hc.keep (by first | assumption | (apply Ne.symm; assumption)) hB)); (try (replace hW := hc.keep (by first | assumption | (apply Ne.symm; assumption)) hW)); (try (replace hX := hc.keep (by first | assumption | (apply Ne.symm; assumption)) hX)); (try (replace hU := hc.keep (by first | assumption | (apply Ne.symm; assumption)) hU)); (try (replace hV := hc.keep (by first | assumption | (apply Ne.symm; assumption)) hV)); clear hc)
      | (apply s_ldF tab_ok; (iterate 5 (exact rfl)); exact hW; exact rfl)
      | (apply s_callS; (iterate 6 (exact rfl)); (first | exact lc1 _ _ hH | exact lc2 _ _ hH | exact l1 _ _ hH); rintro _ σ2 ⟨rfl, rfl⟩)
      | (apply s_callS; (iterate 6 (exact rfl)); (first | exact m1 _ _ hH | exact m2 _ _ hH | exact m3 _ _ hH | exact m4 _ _ hH); rintro _ σ2 ⟨rfl, hH2, hk2⟩; (try (replace hB := hk2 _ _ (by first | assumption | (apply Ne.symm; assumption)) hB)); (try (replace hW := hk2 _ _ (by first | assumption | (apply Ne.symm; assumption)) hW)); (try (replace hA := hk2 _ _ (by first | assumption | (apply Ne.symm; assumption)) hA)); (try (replace hX := hk2 _ _ (by first | assumption | (apply Ne.symm; assumption)) hX)); (try (replace hU := hk2 _ _ (by first | assumption | (apply Ne.symm; assumption)) hU)); (try (replace hV := hk2 _ _ (by first | assumption | (apply Ne.symm; assumption)) hV)); clear hk2; replace hH := hH2; clear hH2)
      | (refine keepA 9 [2, 3, 5, 7] rfl rfl ?_)
      | (refine keepA 10 [2, 3, 5, 7, 9, 6] rfl rfl ?_)
      | (refine keepA 13 [2, 3, 5, 7, 9, 10] rfl rfl ?_)
      | (refine keepA 14 [2, 3, 5, 7, 9, 10, 11] rfl rfl ?_)
      | (refine keepA 16 [2, 3, 5, 9, 11] rfl rfl ?_)
      | (refine keepA 17 [2, 3, 5, 9, 11, 12, 6] rfl rfl ?_)
      | (refine keepA 18 [2, 3, 5, 9, 11, 12, 6, 13] rfl rfl ?_)
      | (apply s_call; (iterate 6 (exact rfl)); first | (exact mv; rintro _ rfl) | (exact mu; rintro _ rfl) | (exact world_new; rintro _ rfl))
      | refine al_nil ?_ | refine q_then_n ?_ | refine q_blk_n ?_ | refine q_blk_r ?_ | refine q_blk_e ?_
      | refine q_blk_o rfl ?_ | refine q_then_e ?_ | refine aw_block ?_ | refine aw_exit ?_ | refine q_then_r ?_
      | refine aw_seq ?_ | refine aw_reg ?_ | refine aw_true rfl ?_ | refine aw_false rfl ?_ | refine aw_skip ?_
      | refine aw_ret ?_ | refine al_fork ?_ ?_ | refine al_fork3 ?_ ?_ ?_
      | refine aw_draws (id := 23) (trO [0, 1, 2, 3, 4, 5, 6, 7] .nil) [] [] mixed_ok (by kernel_rfl) ?_)
  all_goals exact q_retB (resB_1 rfl (resV_t rfl)) ⟨_, rfl, rfl⟩
end
end Go.Proofs.Ytciciaikajdenaa
