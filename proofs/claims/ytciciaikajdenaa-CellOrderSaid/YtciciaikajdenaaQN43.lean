/- N43: the walk of CellOrder: up to the loops. -/
import Derived.Test.YtciciaikajdenaaQN41
set_option linter.unusedSimpArgs false
set_option linter.unusedVariables false
-- ALLUNDEF -- BOXZ
-- LEN: valD_len wordD_len
-- ROW: valR_get wordsR_get
-- DEF VD: [DV.v (.int .u8 vk), DV.v (.int .i64 vn), DV.v (.string vs), DV.lst 4 (valR vl)]
-- DEF UD: [DV.v (.int .u8 uk), DV.v (.int .i64 un), DV.v (.string us), DV.lst 4 (valR ul)]
-- DEF WD: [DV.v (.int .u8 wk), DV.v (.int .i64 wn), DV.v (.string ws), DV.v (.int .i64 wg)]
-- DEF WC: [DV.v (.int .u8 5), DV.v (.int .i64 wn), DV.v (.string ws), DV.v (.int .i64 wg)]
-- DEF YD: [DV.v (.int .u8 yk), DV.v (.int .i64 yn), DV.v (.string ys), DV.v (.int .i64 yg)]
-- DEF BD: [DV.v (.int .u8 bk), DV.v (.int .i64 bn), DV.v (.string bs), DV.v (.int .i64 bg)]
-- DEF ZD: [DV.v (.int .u8 0), DV.v (.int .i64 0), DV.v (.string ⟨#[]⟩), DV.v (.int .i64 0)]
namespace Go.Proofs.Ytciciaikajdenaa
open Go.RowKit

section
variable {vk vn : Int} {vs : ByteArray} {vl : List Val}
set_option maxRecDepth 100000 in
set_option maxHeartbeats 16000000 in
theorem order_con (kn : Known) (hsz : RunsP Try.prog 43 [.agg [DV.v (.int .u8 vk), DV.v (.int .i64 vn), DV.v (.string vs), DV.lst 4 (valR vl)], .v (.int .i64 0)] (fun v => ∃ z : Int, v = .v (.int .i64 z))) {H0 R0 : AHeap} {K : AHeap} {cs : List AWord} {n : Int} (hg : ∀ x ∈ cs, ∀ (σ : List AObj) (loc : Nat), σ[loc]? = some (ho K) → Runs Try.prog 22 [.ptr loc 0 0, .d (.agg (wordD x))] σ (fun r σ' => r = .d (.tup [.agg (cellD (K.get x).1), .v (.int .i64 0)]) ∧ σ' = σ)) (h26 : ∀ x ∈ cs, RunsP Try.prog 26 [.agg (cellD (K.get x).1), .agg (cellD (K.get x).1)] (fun v => v = .v (.bool true))) (lc : Look 38 K (.lst 4 (wordsR cs))) (hcs : cs.length ≤ 100000) (hn : n = (cs.length : Int)) (hk : ¬ vk < 11) (hk2 : vk ≤ 255) (hp : 0 < n) (hl64 : vl.length ≤ 64) (b0 : NewH 100000 H0) (b1 : NewH 100000 R0) (m1 : Mut2 45 [.d (.agg [DV.v (.int .u8 vk), DV.v (.int .i64 vn), DV.v (.string vs), DV.lst 4 (valR vl)])] H0 (.tup [.agg [.v (.int .u8 5), .v (.int .i64 (n - 1)), .v (.string ⟨#[]⟩), .v (.int .i64 0)], .v (.int .i64 0)]) K) (l1 : Look 33 K (.v (.int .i64 n))) (h47 : RunsP Try.prog 47 [.agg [DV.v (.int .u8 vk), DV.v (.int .i64 vn), DV.v (.string vs), DV.lst 4 (valR vl)]] (fun v => v = .v (.int .i64 n))) (hb : ∀ (j : Nat) (p : Val), vl[j]? = some p → Mut2 45 [.d (.agg (valD p))] (buildsF R0 (vl.take j)).2 (.tup [.agg (wordD (buildF (buildsF R0 (vl.take j)).2 p).1), .v (.int .i64 0)]) (buildF (buildsF R0 (vl.take j)).2 p).2) (ha : Mut2 20 [.d (.agg (cellD ⟨vk - 10, vn, (buildsF R0 vl).1⟩))] (buildsF R0 vl).2 (.tup [.agg [.v (.int .u8 5), .v (.int .i64 (n - 1)), .v (.string ⟨#[]⟩), .v (.int .i64 0)], .v (.int .i64 0)]) K) :
    RunsP Try.prog 10 [.agg [DV.v (.int .u8 vk), DV.v (.int .i64 vn), DV.v (.string vs), DV.lst 4 (valR vl)]] (fun r => r = .v (.bool true)) := by
  (try unfold Known at *); (try unfold NewH at *); (try unfold Mut2 at *); (try unfold See2 at *); (try unfold Look at *)
  have hsub : IntKind.wrap .u8 (vk - 10) = vk - 10 := wrapU8 (by omega) (by omega)
  refine enterPB 158 tab_ok Try.func10 rfl (by kernel_rfl) rfl rfl rfl ?_
  repeat' (first
      | refine s_op rfl ?_ | (apply s_skipV; (iterate 2 (exact rfl))) | (apply s_skipU; (iterate 3 (exact rfl))) | (apply s_move; (iterate 4 (exact rfl))) | (apply s_fa_p tab_ok; (iterate 5 (exact rfl)))
      | (apply s_fa_f tab_ok; (iterate 6 (exact rfl))) | (apply s_ld_p tab_ok; (iterate 7 (exact rfl))) | (apply s_ld_f tab_ok; (iterate 6 (exact rfl))) | (apply s_ld_w tab_ok; (iterate 5 (exact rfl)); (first | exact valD_len _ | exact wordD_len _)) | (apply s_assign; (iterate 4 (exact rfl)))
      | (apply s_pick_t; (iterate 5 (exact rfl))) | (apply s_pick_f; (iterate 5 (exact rfl))) | (apply s_len tab_ok; (iterate 5 (exact rfl))) | (apply s_lens str_ok; (iterate 4 (exact rfl))) | (apply s_idx tab_ok; (iterate 7 (exact rfl)); (first | exact valR_get (by assumption) | exact wordsR_get (by assumption) | assumption))
      | (apply s_ext; (iterate 5 (exact rfl))) | (apply s_build tabZ_ok; (iterate 5 (exact rfl))) | (apply s_boxZ; (iterate 5 (exact rfl)); first | exact rfl | exact allD_mapd _) | (apply s_lit tab_ok tabZ_ok; (iterate 10 (exact rfl))) | (apply s_lit1 tab_ok tabZ_ok; (iterate 9 (exact rfl)); (first | exact valD_len _ | exact wordD_len _))
      | (apply s_app tab_ok tabZ_ok; (iterate 13 (exact rfl)); (first | (simp; done) | (simp; omega))) | (apply s_not_t; (iterate 4 (exact rfl))) | (apply s_not_f; (iterate 4 (exact rfl))) | (apply s_not; (iterate 4 (exact rfl))) | (apply s_eql_t; (iterate 5 (exact rfl)); omega)
      | (apply s_eql_f; (iterate 5 (exact rfl)); omega) | (apply s_neq_t; (iterate 5 (exact rfl)); omega) | (apply s_neq_f; (iterate 5 (exact rfl)); omega) | (apply s_lss_t; (iterate 5 (exact rfl)); omega) | (apply s_lss_f; (iterate 5 (exact rfl)); omega)
      | (apply s_gtr_t; (iterate 5 (exact rfl)); omega) | (apply s_gtr_f; (iterate 5 (exact rfl)); omega) | (apply s_add64; (iterate 5 (exact rfl)); omega) | (apply s_sub64; (iterate 5 (exact rfl)); omega)
      | (refine w_keep [1, 3, 5, 7, 8, 9] rfl rfl ?_; exact ord_tail1 hg h26 lc hcs hn hl64 hb ha nHW nHR nHC nWR nWC nRC hH hW hR hC rfl)
      | (apply s_callS; (iterate 6 (exact rfl)); exact kn _; rintro _ σ1 ⟨rfl, hk2⟩; clear hk2)
      | (apply s_call; (iterate 6 (exact rfl)); exact hsz; rintro _ ⟨z, rfl⟩; by_cases hz3 : z ≤ 4000)
      | (apply s_callS; (iterate 6 (exact rfl)); (exact b0 _); rintro _ σ1 ⟨locH, rfl, hc⟩; have hH := hc.at'; clear hc b0)
      | (apply s_callS; (iterate 6 (exact rfl)); exact b1 _; rintro _ σ1 ⟨locR, rfl, hc⟩; (try (have nHR := hc.ne hH)); (try (replace hH := hc.keep hH)); (try (have nWR := hc.ne hW)); (try (replace hW := hc.keep hW)); (try (have nCR := hc.ne hC)); (try (replace hC := hc.keep hC)); have hR := hc.at'; clear hc)
      | (apply s_allocF tabZ_ok (d := 5); (iterate 6 (exact rfl)); intro locW σ hc; have hW := hc.at'; (try (have nHW := hc.ne hH)); (try (replace hH := hc.keep hH)); (try (have nRW := hc.ne hR)); (try (replace hR := hc.keep hR)); (try (have nCW := hc.ne hC)); (try (replace hC := hc.keep hC)); clear hc)
      | (apply s_allocF tabZ_ok (d := 9); (iterate 6 (exact rfl)); intro locC σ hc; have hC := hc.at'; (try (have nHC := hc.ne hH)); (try (replace hH := hc.keep hH)); (try (have nWC := hc.ne hW)); (try (replace hW := hc.keep hW)); (try (have nRC := hc.ne hR)); (try (replace hR := hc.keep hR)); clear hc)
      | (apply s_storeF tab_ok; (iterate 7 (exact rfl)); exact hW; (iterate 2 (exact rfl)); intro σ hc; replace hW := hc.at'; (try (replace hH := hc.keep (by first | assumption | (apply Ne.symm; assumption)) hH)); (try (replace hR := hc.keep (by first | assumption | (apply Ne.symm; assumption)) hR)); (try (replace hC := hc.keep (by first | assumption | (apply Ne.symm; assumption)) hC)); clear hc)
      | (apply s_storeF tab_ok; (iterate 7 (exact rfl)); exact hC; (iterate 2 (exact rfl)); intro σ hc; replace hC := hc.at'; (try (replace hH := hc.keep (by first | assumption | (apply Ne.symm; assumption)) hH)); (try (replace hW := hc.keep (by first | assumption | (apply Ne.symm; assumption)) hW)); (try (replace hR := hc.keep (by first | assumption | (apply Ne.symm; assumption)) hR)); clear hc)
      | (apply s_ldF tab_ok; (iterate 5 (exact rfl)); exact hW; exact rfl)
      | (apply s_callS; (iterate 6 (exact rfl)); (first | exact m1 _ _ hH); rintro _ σ2 ⟨rfl, hH2, hk2⟩; (try (replace hW := hk2 _ _ (by first | assumption | (apply Ne.symm; assumption)) hW)); (try (replace hR := hk2 _ _ (by first | assumption | (apply Ne.symm; assumption)) hR)); (try (replace hC := hk2 _ _ (by first | assumption | (apply Ne.symm; assumption)) hC)); clear hk2; replace hH := hH2; clear hH2)
      | (apply s_callS; (iterate 6 (exact rfl)); (first | exact l1 _ _ hH); rintro _ σ2 ⟨rfl, rfl⟩)
      | (apply s_wNe_f (cellWord (n - 1) 0) (cellWord (n - 1) 0); (iterate 6 (exact rfl)))
      | (apply s_subK (vk - 10); (iterate 5 (exact rfl)); exact hsub)
      | (refine keepA 12 [1, 3, 5, 7] rfl rfl ?_)
      | (refine keepA 16 [1, 3, 5, 7] rfl rfl ?_)
      | (refine keepA 19 [1, 3, 5, 7, 8] rfl rfl ?_)
      | (apply s_call; (iterate 6 (exact rfl)); first | (exact h47; rintro _ rfl) | (exact at_c56 _ _; rintro _ rfl))
      | refine al_nil ?_ | refine q_then_n ?_ | refine q_blk_n ?_ | refine q_blk_r ?_ | refine q_blk_e ?_
      | refine q_blk_o rfl ?_ | refine q_then_e ?_ | refine aw_block ?_ | refine aw_exit ?_ | refine q_then_r ?_
      | refine aw_seq ?_ | refine aw_reg ?_ | refine aw_true rfl ?_ | refine aw_false rfl ?_ | refine aw_skip ?_
      | refine aw_ret ?_ | refine al_fork ?_ ?_ | refine al_fork3 ?_ ?_ ?_
      | refine aw_draws (id := 12) (trO [0, 2, 1, 3, 4, 5, 6, 7, 8, 9, 10, 11, 12, 13, 14] .nil) [1, 11] [1] mixed_ok (by kernel_rfl) ?_)
  all_goals exact q_retB (resB_1 rfl (resV_t rfl)) ⟨_, rfl, rfl⟩
end
end Go.Proofs.Ytciciaikajdenaa
