/- N40: the walk of CellOrder: the second loop. -/
import Derived.Test.YtciciaikajdenaaQNA
set_option linter.unusedSimpArgs false
set_option linter.unusedVariables false
-- ALLUNDEF -- BOXZ
-- LEN: valD_len wordD_len
-- ROW: valR_get wordsR_get
-- DEF VD: [DV.v (.int .u8 vk), DV.v (.int .i64 vn), DV.v (.string vs), DV.lst 4 (valR vl)]
-- DEF UD: [DV.v (.int .u8 uk), DV.v (.int .i64 un), DV.v (.string us), DV.lst 4 (valR ul)]
-- DEF WD: [DV.v (.int .u8 wk), DV.v (.int .i64 wn), DV.v (.string ws), DV.v (.int .i64 wg)]
-- DEF WC: [DV.v (.int .u8 5), DV.v (.int .i64 wn), DV.v (.string ws), DV.v (.int .i64 wg)]
-- DEF YD: [DV.v (.int .u8 yk), DV.v (.int .i64 yn), DV.v (.string ys), DV.v (.int .i64 yg)]
-- DEF BD: [DV.v (.int .u8 bk), DV.v (.int .i64 bn), DV.v (.string bs), DV.v (.int .i64 bg)]
-- DEF ZD: [DV.v (.int .u8 0), DV.v (.int .i64 0), DV.v (.string ⟨#[]⟩), DV.v (.int .i64 0)]
namespace Go.Proofs.Ytciciaikajdenaa
open Go.RowKit

section
variable {vk vn : Int} {vs : ByteArray} {vl : List Val}
noncomputable def ord31 : Option Code := match Try.f10.body with
  | some c => findW 31 c
  | none => none
set_option maxRecDepth 100000 in
set_option maxHeartbeats 16000000 in
theorem ord_tail2 {K : AHeap} {cs : List AWord} {n : Int} {locH locR : Nat} {σ : List AObj} (hg : ∀ x ∈ cs, ∀ (σ : List AObj) (loc : Nat), σ[loc]? = some (ho K) → Runs Try.prog 22 [.ptr loc 0 0, .d (.agg (wordD x))] σ (fun r σ' => r = .d (.tup [.agg (cellD (K.get x).1), .v (.int .i64 0)]) ∧ σ' = σ)) (h26 : ∀ x ∈ cs, RunsP Try.prog 26 [.agg (cellD (K.get x).1), .agg (cellD (K.get x).1)] (fun v => v = .v (.bool true))) (lc : Look 38 K (.lst 4 (wordsR cs))) (hcs : cs.length ≤ 100000) (hn : n = (cs.length : Int)) (hH : σ[locH]? = some (ho K)) (hR : σ[locR]? = some (ho K)) {X : Code} (hX : ord31 = some X) :
    AWk Try.prog 158 X (retQB tab Try.f10 (fun v x => ∃ d, v = AV.d d ∧ d = DV.v (Value.bool true))) [(3, .ptr locH 0 0), (7, .d (.v (.int .i64 n))), (8, .ptr locR 0 0)] σ := by
  unfold Look at *
  have e1 := wordsR_len cs
  cases hX
  repeat' (first
      | refine s_op rfl ?_ | (apply s_skipV; (iterate 2 (exact rfl))) | (apply s_skipU; (iterate 3 (exact rfl))) | (apply s_move; (iterate 4 (exact rfl))) | (apply s_fa_p tab_ok; (iterate 5 (exact rfl)))
      | (apply s_fa_f tab_ok; (iterate 6 (exact rfl))) | (apply s_ld_p tab_ok; (iterate 7 (exact rfl))) | (apply s_ld_f tab_ok; (iterate 6 (exact rfl))) | (apply s_ld_w tab_ok; (iterate 5 (exact rfl)); (first | exact valD_len _ | exact wordD_len _)) | (apply s_assign; (iterate 4 (exact rfl)))
      | (apply s_pick_t; (iterate 5 (exact rfl))) | (apply s_pick_f; (iterate 5 (exact rfl))) | (apply s_len tab_ok; (iterate 5 (exact rfl))) | (apply s_lens str_ok; (iterate 4 (exact rfl))) | (apply s_idx tab_ok; (iterate 7 (exact rfl)); (first | exact valR_get (by assumption) | exact wordsR_get (by assumption) | assumption))
      | (apply s_ext; (iterate 5 (exact rfl))) | (apply s_build tabZ_ok; (iterate 5 (exact rfl))) | (apply s_alloc tabZ_ok; (iterate 7 (exact rfl))) | (apply s_boxZ; (iterate 5 (exact rfl)); first | exact rfl | exact allD_mapd _) | (apply s_store tab_ok; (iterate 10 (exact rfl)))
      | (apply s_lit tab_ok tabZ_ok; (iterate 10 (exact rfl))) | (apply s_lit1 tab_ok tabZ_ok; (iterate 9 (exact rfl)); (first | exact valD_len _ | exact wordD_len _)) | (apply s_app tab_ok tabZ_ok; (iterate 13 (exact rfl)); (first | (simp; done) | (simp; omega))) | (apply s_not_t; (iterate 4 (exact rfl))) | (apply s_not_f; (iterate 4 (exact rfl)))
      | (apply s_not; (iterate 4 (exact rfl))) | (apply s_eql_t; (iterate 5 (exact rfl)); omega) | (apply s_eql_f; (iterate 5 (exact rfl)); omega) | (apply s_neq_t; (iterate 5 (exact rfl)); omega) | (apply s_neq_f; (iterate 5 (exact rfl)); omega)
      | (apply s_lss_t; (iterate 5 (exact rfl)); omega) | (apply s_lss_f; (iterate 5 (exact rfl)); omega) | (apply s_gtr_t; (iterate 5 (exact rfl)); omega) | (apply s_gtr_f; (iterate 5 (exact rfl)); omega) | (apply s_add64; (iterate 5 (exact rfl)); omega)
      | (apply s_sub64; (iterate 5 (exact rfl)); omega)
      | (apply s_callS; (iterate 6 (exact rfl)); (first | exact lc _ _ hH); rintro _ σ2 ⟨rfl, rfl⟩)
      | refine al_nil ?_ | refine q_then_n ?_ | refine q_blk_n ?_ | refine q_blk_r ?_ | refine q_blk_e ?_
      | refine q_blk_o rfl ?_ | refine q_then_e ?_ | refine aw_block ?_ | refine aw_exit ?_ | refine q_then_r ?_
      | refine aw_seq ?_ | refine aw_reg ?_ | refine aw_true rfl ?_ | refine aw_false rfl ?_ | refine aw_skip ?_
      | refine aw_ret ?_ | refine al_fork ?_ ?_ | refine al_fork3 ?_ ?_ ?_
      | refine aw_draws (id := 12) (trO [0, 2, 1, 3, 4, 5, 6, 7, 8, 9, 10, 11, 12, 13, 14] .nil) [1, 11] [1] mixed_ok (by kernel_rfl) ?_)
  refine w_loop [3, 7, 8, 122, 123, 124] (fun n' vs' σ => ∃ j : Nat, vs' = [.ptr locH 0 0, .d (.v (.int .i64 n)), .ptr locR 0 0, .d (.lst 4 (wordsR cs)), .d (.v (.int .i64 ((wordsR cs).length : Int))), .d (.v (.int .i64 (j : Int)))] ∧ σ[locH]? = some (ho K) ∧ σ[locR]? = some (ho K) ∧ j ≤ cs.length ∧ n' = cs.length - j) rfl ⟨0, rfl, hH, hR, by omega, rfl⟩ ?_
  clear hH hR
  rintro n' vs' σ ⟨j, rfl, hH, hR, hj, rfl⟩ fr hfr
  cases hfr
  by_cases hlt : j < cs.length
  · obtain ⟨x, hx⟩ := getS hlt
    have g1 := hg x (List.mem_of_getElem? hx)
    have g2 := h26 x (List.mem_of_getElem? hx)
    generalize (K.get x).1 = c at *
    clear hg h26 lc
    obtain ⟨xk, xn, xs, xg⟩ := x
    obtain ⟨ck, cn, cw⟩ := c
    repeat' (first
      | refine s_op rfl ?_ | (apply s_skipV; (iterate 2 (exact rfl))) | (apply s_skipU; (iterate 3 (exact rfl))) | (apply s_move; (iterate 4 (exact rfl))) | (apply s_fa_p tab_ok; (iterate 5 (exact rfl)))
      | (apply s_fa_f tab_ok; (iterate 6 (exact rfl))) | (apply s_ld_p tab_ok; (iterate 7 (exact rfl))) | (apply s_ld_f tab_ok; (iterate 6 (exact rfl))) | (apply s_ld_w tab_ok; (iterate 5 (exact rfl)); (first | exact valD_len _ | exact wordD_len _)) | (apply s_assign; (iterate 4 (exact rfl)))
      | (apply s_pick_t; (iterate 5 (exact rfl))) | (apply s_pick_f; (iterate 5 (exact rfl))) | (apply s_len tab_ok; (iterate 5 (exact rfl))) | (apply s_lens str_ok; (iterate 4 (exact rfl))) | (apply s_idx tab_ok; (iterate 7 (exact rfl)); (first | exact valR_get (by assumption) | exact wordsR_get (by assumption) | assumption))
      | (apply s_ext; (iterate 5 (exact rfl))) | (apply s_build tabZ_ok; (iterate 5 (exact rfl))) | (apply s_boxZ; (iterate 5 (exact rfl)); first | exact rfl | exact allD_mapd _) | (apply s_lit tab_ok tabZ_ok; (iterate 10 (exact rfl))) | (apply s_lit1 tab_ok tabZ_ok; (iterate 9 (exact rfl)); (first | exact valD_len _ | exact wordD_len _))
      | (apply s_app tab_ok tabZ_ok; (iterate 13 (exact rfl)); (first | (simp; done) | (simp; omega))) | (apply s_not_t; (iterate 4 (exact rfl))) | (apply s_not_f; (iterate 4 (exact rfl))) | (apply s_not; (iterate 4 (exact rfl))) | (apply s_eql_t; (iterate 5 (exact rfl)); omega)
      | (apply s_eql_f; (iterate 5 (exact rfl)); omega) | (apply s_neq_t; (iterate 5 (exact rfl)); omega) | (apply s_neq_f; (iterate 5 (exact rfl)); omega) | (apply s_lss_t; (iterate 5 (exact rfl)); omega) | (apply s_lss_f; (iterate 5 (exact rfl)); omega)
      | (apply s_gtr_t; (iterate 5 (exact rfl)); omega) | (apply s_gtr_f; (iterate 5 (exact rfl)); omega) | (apply s_add64; (iterate 5 (exact rfl)); omega) | (apply s_sub64; (iterate 5 (exact rfl)); omega)
      | (apply s_callS; (iterate 6 (exact rfl)); (first | exact g1 _ _ hH | exact g1 _ _ hR); rintro _ σ2 ⟨rfl, rfl⟩)
      | (apply s_allocF tabZ_ok (d := 16); (iterate 6 (exact rfl)); intro locX σ hc; have hX := hc.at'; (try (have nHX := hc.ne hH)); (try (replace hH := hc.keep hH)); (try (have nRX := hc.ne hR)); (try (replace hR := hc.keep hR)); (try (have nAX := hc.ne hA)); (try (replace hA := hc.keep hA)); (try (have nBX := hc.ne hB)); (try (replace hB := hc.keep hB)); clear hc)
      | (apply s_allocF tabZ_ok (d := 17); (iterate 6 (exact rfl)); intro locA σ hc; have hA := hc.at'; (try (have nHA := hc.ne hH)); (try (replace hH := hc.keep hH)); (try (have nRA := hc.ne hR)); (try (replace hR := hc.keep hR)); (try (have nXA := hc.ne hX)); (try (replace hX := hc.keep hX)); (try (have nBA := hc.ne hB)); (try (replace hB := hc.keep hB)); clear hc)
      | (apply s_allocF tabZ_ok (d := 19); (iterate 6 (exact rfl)); intro locB σ hc; have hB := hc.at'; (try (have nHB := hc.ne hH)); (try (replace hH := hc.keep hH)); (try (have nRB := hc.ne hR)); (try (replace hR := hc.keep hR)); (try (have nXB := hc.ne hX)); (try (replace hX := hc.keep hX)); (try (have nAB := hc.ne hA)); (try (replace hA := hc.keep hA)); clear hc)
      | (apply s_storeF tab_ok; (iterate 7 (exact rfl)); exact hX; (iterate 2 (exact rfl)); intro σ hc; replace hX := hc.at'; (try (replace hH := hc.keep (by first | assumption | (apply Ne.symm; assumption)) hH)); (try (replace hR := hc.keep (by first | assumption | (apply Ne.symm; assumption)) hR)); (try (replace hA := hc.keep (by first | assumption | (apply Ne.symm; assumption)) hA)); (try (replace hB := hc.keep (by first | assumption | (apply Ne.symm; assumption)) hB)); clear hc)
      | (apply s_storeF tab_ok; (iterate 7 (exact rfl)); exact hA; (iterate 2 (exact rfl)); intro σ hc; replace hA := hc.at'; (try (replace hH := hc.keep (by first | assumption | (apply Ne.symm; assumption)) hH)); (try (replace hR := hc.keep (by first | assumption | (apply Ne.symm; assumption)) hR)); (try (replace hX := hc.keep (by first | assumption | (apply Ne.symm; assumption)) hX)); (try (replace hB := hc.keep (by first | assumption | (apply Ne.symm; assumption)) hB)); clear hc)
      | (apply s_storeF tab_ok; (iterate 7 (exact rfl)); exact hB; (iterate 2 (exact rfl)); intro σ hc; replace hB := hc.at'; (try (replace hH := hc.keep (by first | assumption | (apply Ne.symm; assumption)) hH)); (try (replace hR := hc.keep (by first | assumption | (apply Ne.symm; assumption)) hR)); (try (replace hX := hc.keep (by first | assumption | (apply Ne.symm; assumption)) hX)); (try (replace hA := hc.keep (by first | assumption | (apply Ne.symm; assumption)) hA)); clear hc)
      | (apply s_ldF tab_ok; (iterate 5 (exact rfl)); exact hX; exact rfl)
      | (apply s_ldF tab_ok; (iterate 5 (exact rfl)); exact hA; exact rfl)
      | (apply s_ldF tab_ok; (iterate 5 (exact rfl)); exact hB; exact rfl)
      | (apply s_call; (iterate 6 (exact rfl)); first | (exact g2; rintro _ rfl))
      | refine al_nil ?_ | refine q_then_n ?_ | refine q_blk_n ?_ | refine q_blk_r ?_ | refine q_blk_e ?_
      | refine q_blk_o rfl ?_ | refine q_then_e ?_ | refine aw_block ?_ | refine aw_exit ?_ | refine q_then_r ?_
      | refine aw_seq ?_ | refine aw_reg ?_ | refine aw_true rfl ?_ | refine aw_false rfl ?_ | refine aw_skip ?_
      | refine aw_ret ?_ | refine al_fork ?_ ?_ | refine al_fork3 ?_ ?_ ?_
      | refine aw_draws (id := 12) (trO [0, 2, 1, 3, 4, 5, 6, 7, 8, 9, 10, 11, 12, 13, 14] .nil) [1, 11] [1] mixed_ok (by kernel_rfl) ?_)
    all_goals exact ⟨_, _, rfl, by omega, j + 1, rfl, hH, hR, by omega, rfl⟩
  · repeat' (first
      | refine s_op rfl ?_ | (apply s_skipV; (iterate 2 (exact rfl))) | (apply s_skipU; (iterate 3 (exact rfl))) | (apply s_move; (iterate 4 (exact rfl))) | (apply s_fa_p tab_ok; (iterate 5 (exact rfl)))
      | (apply s_fa_f tab_ok; (iterate 6 (exact rfl))) | (apply s_ld_p tab_ok; (iterate 7 (exact rfl))) | (apply s_ld_f tab_ok; (iterate 6 (exact rfl))) | (apply s_ld_w tab_ok; (iterate 5 (exact rfl)); (first | exact valD_len _ | exact wordD_len _)) | (apply s_assign; (iterate 4 (exact rfl)))
      | (apply s_pick_t; (iterate 5 (exact rfl))) | (apply s_pick_f; (iterate 5 (exact rfl))) | (apply s_len tab_ok; (iterate 5 (exact rfl))) | (apply s_lens str_ok; (iterate 4 (exact rfl))) | (apply s_idx tab_ok; (iterate 7 (exact rfl)); (first | exact valR_get (by assumption) | exact wordsR_get (by assumption) | assumption))
      | (apply s_ext; (iterate 5 (exact rfl))) | (apply s_build tabZ_ok; (iterate 5 (exact rfl))) | (apply s_alloc tabZ_ok; (iterate 7 (exact rfl))) | (apply s_boxZ; (iterate 5 (exact rfl)); first | exact rfl | exact allD_mapd _) | (apply s_store tab_ok; (iterate 10 (exact rfl)))
      | (apply s_lit tab_ok tabZ_ok; (iterate 10 (exact rfl))) | (apply s_lit1 tab_ok tabZ_ok; (iterate 9 (exact rfl)); (first | exact valD_len _ | exact wordD_len _)) | (apply s_app tab_ok tabZ_ok; (iterate 13 (exact rfl)); (first | (simp; done) | (simp; omega))) | (apply s_not_t; (iterate 4 (exact rfl))) | (apply s_not_f; (iterate 4 (exact rfl)))
      | (apply s_not; (iterate 4 (exact rfl))) | (apply s_eql_t; (iterate 5 (exact rfl)); omega) | (apply s_eql_f; (iterate 5 (exact rfl)); omega) | (apply s_neq_t; (iterate 5 (exact rfl)); omega) | (apply s_neq_f; (iterate 5 (exact rfl)); omega)
      | (apply s_lss_t; (iterate 5 (exact rfl)); omega) | (apply s_lss_f; (iterate 5 (exact rfl)); omega) | (apply s_gtr_t; (iterate 5 (exact rfl)); omega) | (apply s_gtr_f; (iterate 5 (exact rfl)); omega) | (apply s_add64; (iterate 5 (exact rfl)); omega)
      | (apply s_sub64; (iterate 5 (exact rfl)); omega)
      | (apply s_callS; (iterate 6 (exact rfl)); exact lc _ _ hR; rintro _ σ2 ⟨rfl, rfl⟩)
      | refine al_nil ?_ | refine q_then_n ?_ | refine q_blk_n ?_ | refine q_blk_r ?_ | refine q_blk_e ?_
      | refine q_blk_o rfl ?_ | refine q_then_e ?_ | refine aw_block ?_ | refine aw_exit ?_ | refine q_then_r ?_
      | refine aw_seq ?_ | refine aw_reg ?_ | refine aw_true rfl ?_ | refine aw_false rfl ?_ | refine aw_skip ?_
      | refine aw_ret ?_ | refine al_fork ?_ ?_ | refine al_fork3 ?_ ?_ ?_
      | refine aw_draws (id := 12) (trO [0, 2, 1, 3, 4, 5, 6, 7, 8, 9, 10, 11, 12, 13, 14] .nil) [1, 11] [1] mixed_ok (by kernel_rfl) ?_)
    all_goals exact q_retB (resB_1 rfl (resV_t rfl)) ⟨_, rfl, rfl⟩
end
end Go.Proofs.Ytciciaikajdenaa
