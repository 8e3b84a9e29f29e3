/- N47: the walk of CellLast: the loop and what follows. -/
import Derived.Test.YtciciaikajdenaaQNA
set_option linter.unusedSimpArgs false
set_option linter.unusedVariables false
-- ALLUNDEF -- BOXZ
-- LEN: valD_len wordD_len
-- ROW: valR_get wordsR_get
-- DEF VD: [DV.v (.int .u8 vk), DV.v (.int .i64 vn), DV.v (.string vs), DV.lst 4 (valR vl)]
-- DEF UD: [DV.v (.int .u8 uk), DV.v (.int .i64 un), DV.v (.string us), DV.lst 4 (valR ul)]
-- DEF WD: [DV.v (.int .u8 wk), DV.v (.int .i64 wn), DV.v (.string ws), DV.v (.int .i64 wg)]
-- DEF WC: [DV.v (.int .u8 5), DV.v (.int .i64 wn), DV.v (.string ws), DV.v (.int .i64 wg)]
-- DEF YD: [DV.v (.int .u8 yk), DV.v (.int .i64 yn), DV.v (.string ys), DV.v (.int .i64 yg)]
-- DEF BD: [DV.v (.int .u8 bk), DV.v (.int .i64 bn), DV.v (.string bs), DV.v (.int .i64 bg)]
-- DEF ZD: [DV.v (.int .u8 0), DV.v (.int .i64 0), DV.v (.string ⟨#[]⟩), DV.v (.int .i64 0)]
namespace Go.Proofs.Ytciciaikajdenaa
open Go.RowKit

section
variable {vk vn uk un : Int} {vs us : ByteArray} {vl ul : List Val}
noncomputable def last20 : Option Code := match Try.f11.body with
  | some c => findW 20 c
  | none => none
set_option maxRecDepth 100000 in
set_option maxHeartbeats 16000000 in
theorem last_tail {K4 : AHeap} {was now : List AWord} {bk bn bg qk qn qg : Int} {bs qs : ByteArray} (hlen : now.length = was.length) (hle : was.length ≤ 100000) (hnum : ∀ (j : Nat) (x y : AWord), now[j]? = some x → was[j]? = some y → x.n = y.n) (v1 : See2 49 [.d (.agg [DV.v (.int .u8 qk), DV.v (.int .i64 qn), DV.v (.string qs), DV.v (.int .i64 qg)])] K4 (.tup [.agg [DV.v (.int .u8 vk), DV.v (.int .i64 vn), DV.v (.string vs), DV.lst 4 (valR vl)], .v (.int .i64 0)])) (v2 : See2 49 [.d (.agg [DV.v (.int .u8 bk), DV.v (.int .i64 bn), DV.v (.string bs), DV.v (.int .i64 bg)])] K4 (.tup [.agg [DV.v (.int .u8 uk), DV.v (.int .i64 un), DV.v (.string us), DV.lst 4 (valR ul)], .v (.int .i64 0)])) (sv : RunsP Try.prog 51 [.agg [DV.v (.int .u8 vk), DV.v (.int .i64 vn), DV.v (.string vs), DV.lst 4 (valR vl)], .agg [DV.v (.int .u8 vk), DV.v (.int .i64 vn), DV.v (.string vs), DV.lst 4 (valR vl)]] (fun v => v = .v (.bool true))) (su : RunsP Try.prog 51 [.agg [DV.v (.int .u8 uk), DV.v (.int .i64 un), DV.v (.string us), DV.lst 4 (valR ul)], .agg [DV.v (.int .u8 uk), DV.v (.int .i64 un), DV.v (.string us), DV.lst 4 (valR ul)]] (fun v => v = .v (.bool true))) {locH locB locA : Nat} {σ : List AObj} (hH : σ[locH]? = some (ho K4)) (hB : σ[locB]? = some (.row 36 [.d (.v (.int .u8 bk)), .d (.v (.int .i64 bn)), .d (.v (.string bs)), .d (.v (.int .i64 bg))])) (hA : σ[locA]? = some (.row 36 [.d (.v (.int .u8 qk)), .d (.v (.int .i64 qn)), .d (.v (.string qs)), .d (.v (.int .i64 qg))])) {X : Code} (hX : last20 = some X) :
    AWk Try.prog 145 X (retQB tab Try.f11 (fun v x => ∃ d, v = AV.d d ∧ d = DV.v (Value.bool true))) [(2, .d (.fptr [DV.v (.int .u8 vk), DV.v (.int .i64 vn), DV.v (.string vs), DV.lst 4 (valR vl)])), (3, .d (.fptr [DV.v (.int .u8 uk), DV.v (.int .i64 un), DV.v (.string us), DV.lst 4 (valR ul)])), (5, .ptr locH 0 0), (9, .ptr locB 0 0), (11, .d (.lst 4 (wordsR was))), (12, .ptr locA 0 0), (13, .d (.lst 4 (wordsR now)))] σ := by
  unfold See2 at *
  have e1 := wordsR_len now
  have e2 := wordsR_len was
  cases hX
  repeat' (first
      | refine s_op rfl ?_ | (apply s_skipV; (iterate 2 (exact rfl))) | (apply s_skipU; (iterate 3 (exact rfl))) | (apply s_move; (iterate 4 (exact rfl))) | (apply s_fa_p tab_ok; (iterate 5 (exact rfl)))
      | (apply s_fa_f tab_ok; (iterate 6 (exact rfl))) | (apply s_ld_p tab_ok; (iterate 7 (exact rfl))) | (apply s_ld_f tab_ok; (iterate 6 (exact rfl))) | (apply s_ld_w tab_ok; (iterate 5 (exact rfl)); (first | exact valD_len _ | exact wordD_len _)) | (apply s_assign; (iterate 4 (exact rfl)))
      | (apply s_pick_t; (iterate 5 (exact rfl))) | (apply s_pick_f; (iterate 5 (exact rfl))) | (apply s_len tab_ok; (iterate 5 (exact rfl))) | (apply s_lens str_ok; (iterate 4 (exact rfl))) | (apply s_idx tab_ok; (iterate 7 (exact rfl)); (first | exact valR_get (by assumption) | exact wordsR_get (by assumption) | assumption))
      | (apply s_ext; (iterate 5 (exact rfl))) | (apply s_alloc tabZ_ok; (iterate 7 (exact rfl))) | (apply s_boxZ; (iterate 5 (exact rfl)); first | exact rfl | exact allD_mapd _) | (apply s_store tab_ok; (iterate 10 (exact rfl))) | (apply s_not_t; (iterate 4 (exact rfl)))
      | (apply s_not_f; (iterate 4 (exact rfl))) | (apply s_not; (iterate 4 (exact rfl))) | (apply s_eql_t; (iterate 5 (exact rfl)); omega) | (apply s_eql_f; (iterate 5 (exact rfl)); omega) | (apply s_neq_t; (iterate 5 (exact rfl)); omega)
      | (apply s_neq_f; (iterate 5 (exact rfl)); omega) | (apply s_lss_t; (iterate 5 (exact rfl)); omega) | (apply s_lss_f; (iterate 5 (exact rfl)); omega) | (apply s_gtr_t; (iterate 5 (exact rfl)); omega) | (apply s_gtr_f; (iterate 5 (exact rfl)); omega)
      | (apply s_add64; (iterate 5 (exact rfl)); omega)
      | refine al_nil ?_ | refine q_then_n ?_ | refine q_blk_n ?_ | refine q_blk_r ?_ | refine q_blk_e ?_
      | refine q_blk_o rfl ?_ | refine q_then_e ?_ | refine aw_block ?_ | refine aw_exit ?_ | refine q_then_r ?_
      | refine aw_seq ?_ | refine aw_reg ?_ | refine aw_true rfl ?_ | refine aw_false rfl ?_ | refine aw_skip ?_
      | refine aw_ret ?_ | refine al_fork ?_ ?_ | refine al_fork3 ?_ ?_ ?_
      | refine aw_draws (id := 23) (trO [0, 1, 2, 3, 4, 5, 6, 7] .nil) [] [] mixed_ok (by kernel_rfl) ?_)
  refine w_loop [2, 3, 5, 9, 11, 12, 101, 102, 103] (fun n' vs' σ => ∃ j : Nat, vs' = [.d (.fptr [DV.v (.int .u8 vk), DV.v (.int .i64 vn), DV.v (.string vs), DV.lst 4 (valR vl)]), .d (.fptr [DV.v (.int .u8 uk), DV.v (.int .i64 un), DV.v (.string us), DV.lst 4 (valR ul)]), .ptr locH 0 0, .ptr locB 0 0, .d (.lst 4 (wordsR was)), .ptr locA 0 0, .d (.lst 4 (wordsR now)), .d (.v (.int .i64 ((wordsR now).length : Int))), .d (.v (.int .i64 (j : Int)))] ∧ σ[locH]? = some (ho K4) ∧ σ[locB]? = some (.row 36 [.d (.v (.int .u8 bk)), .d (.v (.int .i64 bn)), .d (.v (.string bs)), .d (.v (.int .i64 bg))]) ∧ σ[locA]? = some (.row 36 [.d (.v (.int .u8 qk)), .d (.v (.int .i64 qn)), .d (.v (.string qs)), .d (.v (.int .i64 qg))]) ∧ j ≤ now.length ∧ n' = now.length - j) rfl ⟨0, rfl, hH, hB, hA, by omega, rfl⟩ ?_
  clear hH hB hA
  rintro n' vs' σ ⟨j, rfl, hH, hB, hA, hj, rfl⟩ fr hfr
  cases hfr
  by_cases hlt : j < now.length
  · obtain ⟨x, hx⟩ := getS hlt
    obtain ⟨y, hy⟩ := getS (show j < was.length by omega)
    have hxy := hnum j x y hx hy
    clear hnum v1 v2 sv su
    obtain ⟨xk, xn, xs, xg⟩ := x
    obtain ⟨yk, yn, ys, yg⟩ := y
    replace hxy : xn = yn := hxy
    repeat' (first
      | refine s_op rfl ?_ | (apply s_skipV; (iterate 2 (exact rfl))) | (apply s_skipU; (iterate 3 (exact rfl))) | (apply s_move; (iterate 4 (exact rfl))) | (apply s_fa_p tab_ok; (iterate 5 (exact rfl)))
      | (apply s_fa_f tab_ok; (iterate 6 (exact rfl))) | (apply s_ld_p tab_ok; (iterate 7 (exact rfl))) | (apply s_ld_f tab_ok; (iterate 6 (exact rfl))) | (apply s_ld_w tab_ok; (iterate 5 (exact rfl)); (first | exact valD_len _ | exact wordD_len _)) | (apply s_assign; (iterate 4 (exact rfl)))
      | (apply s_pick_t; (iterate 5 (exact rfl))) | (apply s_pick_f; (iterate 5 (exact rfl))) | (apply s_len tab_ok; (iterate 5 (exact rfl))) | (apply s_lens str_ok; (iterate 4 (exact rfl))) | (apply s_idx tab_ok; (iterate 7 (exact rfl)); (first | exact valR_get (by assumption) | exact wordsR_get (by assumption) | assumption))
      | (apply s_ext; (iterate 5 (exact rfl))) | (apply s_boxZ; (iterate 5 (exact rfl)); first | exact rfl | exact allD_mapd _) | (apply s_not_t; (iterate 4 (exact rfl))) | (apply s_not_f; (iterate 4 (exact rfl))) | (apply s_not; (iterate 4 (exact rfl)))
      | (apply s_eql_t; (iterate 5 (exact rfl)); omega) | (apply s_eql_f; (iterate 5 (exact rfl)); omega) | (apply s_neq_t; (iterate 5 (exact rfl)); omega) | (apply s_neq_f; (iterate 5 (exact rfl)); omega) | (apply s_lss_t; (iterate 5 (exact rfl)); omega)
      | (apply s_lss_f; (iterate 5 (exact rfl)); omega) | (apply s_gtr_t; (iterate 5 (exact rfl)); omega) | (apply s_gtr_f; (iterate 5 (exact rfl)); omega) | (apply s_add64; (iterate 5 (exact rfl)); omega)
      | (apply s_allocF tabZ_ok (d := 15); (iterate 6 (exact rfl)); intro locX σ hc; have hX := hc.at'; (try (have nHX := hc.ne hH)); (try (replace hH := hc.keep hH)); (try (have nBX := hc.ne hB)); (try (replace hB := hc.keep hB)); (try (have nWX := hc.ne hW)); (try (replace hW := hc.keep hW)); (try (have nAX := hc.ne hA)); (try (replace hA := hc.keep hA)); (try (have nUX := hc.ne hU)); (try (replace hU := hc.keep hU)); (try (have nVX := hc.ne hV)); (try (replace hV := hc.keep hV)); clear hc)
      | (apply s_storeF tab_ok; (iterate 7 (exact rfl)); exact hX; (iterate 2 (exact rfl)); intro σ hc; replace hX := hc.at'; (try (replace hH := hc.keep (by first | assumption | (apply Ne.symm; assumption)) hH)); (try (replace hB := hc.keep (by first | assumption | (apply Ne.symm; assumption)) hB)); (try (replace hW := hc.keep (by first | assumption | (apply Ne.symm; assumption)) hW)); (try (replace hA := hc.keep (by first | assumption | (apply Ne.symm; assumption)) hA)); (try (replace hU := hc.keep (by first | assumption | (apply Ne.symm; assumption)) hU)); (try (replace hV := hc.keep (by first | assumption | (apply Ne.symm; assumption)) hV)); clear hc)
      | (apply s_ldF tab_ok; (iterate 5 (exact rfl)); exact hX; exact rfl)
      | refine al_nil ?_ | refine q_then_n ?_ | refine q_blk_n ?_ | refine q_blk_r ?_ | refine q_blk_e ?_
      | refine q_blk_o rfl ?_ | refine q_then_e ?_ | refine aw_block ?_ | refine aw_exit ?_ | refine q_then_r ?_
      | refine aw_seq ?_ | refine aw_reg ?_ | refine aw_true rfl ?_ | refine aw_false rfl ?_ | refine aw_skip ?_
      | refine aw_ret ?_ | refine al_fork ?_ ?_ | refine al_fork3 ?_ ?_ ?_
      | refine aw_draws (id := 23) (trO [0, 1, 2, 3, 4, 5, 6, 7] .nil) [] [] mixed_ok (by kernel_rfl) ?_)
    all_goals exact ⟨_, _, rfl, by omega, j + 1, rfl, hH, hB, hA, by omega, rfl⟩
  · repeat' (first
      | refine s_op rfl ?_ | (apply s_skipV; (iterate 2 (exact rfl))) | (apply s_skipU; (iterate 3 (exact rfl))) | (apply s_move; (iterate 4 (exact rfl))) | (apply s_fa_p tab_ok; (iterate 5 (exact rfl)))
      | (apply s_fa_f tab_ok; (iterate 6 (exact rfl))) | (apply s_ld_p tab_ok; (iterate 7 (exact rfl))) | (apply s_ld_f tab_ok; (iterate 6 (exact rfl))) | (apply s_ld_w tab_ok; (iterate 5 (exact rfl)); (first | exact valD_len _ | exact wordD_len _)) | (apply s_assign; (iterate 4 (exact rfl)))
      | (apply s_pick_t; (iterate 5 (exact rfl))) | (apply s_pick_f; (iterate 5 (exact rfl))) | (apply s_len tab_ok; (iterate 5 (exact rfl))) | (apply s_lens str_ok; (iterate 4 (exact rfl))) | (apply s_idx tab_ok; (iterate 7 (exact rfl)); (first | exact valR_get (by assumption) | exact wordsR_get (by assumption) | assumption))
      | (apply s_ext; (iterate 5 (exact rfl))) | (apply s_boxZ; (iterate 5 (exact rfl)); first | exact rfl | exact allD_mapd _) | (apply s_not_t; (iterate 4 (exact rfl))) | (apply s_not_f; (iterate 4 (exact rfl))) | (apply s_not; (iterate 4 (exact rfl)))
      | (apply s_eql_t; (iterate 5 (exact rfl)); omega) | (apply s_eql_f; (iterate 5 (exact rfl)); omega) | (apply s_neq_t; (iterate 5 (exact rfl)); omega) | (apply s_neq_f; (iterate 5 (exact rfl)); omega) | (apply s_lss_t; (iterate 5 (exact rfl)); omega)
      | (apply s_lss_f; (iterate 5 (exact rfl)); omega) | (apply s_gtr_t; (iterate 5 (exact rfl)); omega) | (apply s_gtr_f; (iterate 5 (exact rfl)); omega) | (apply s_add64; (iterate 5 (exact rfl)); omega)
      | (apply s_callS; (iterate 6 (exact rfl)); (first | exact v1 _ _ hH | exact v2 _ _ hH); rintro _ σ2 ⟨rfl, hk2⟩; (try (replace hH := hk2 _ _ trivial hH)); (try (replace hB := hk2 _ _ trivial hB)); (try (replace hW := hk2 _ _ trivial hW)); (try (replace hA := hk2 _ _ trivial hA)); (try (replace hX := hk2 _ _ trivial hX)); (try (replace hU := hk2 _ _ trivial hU)); (try (replace hV := hk2 _ _ trivial hV)); clear hk2)
      | (apply s_allocF tabZ_ok (d := 16); (iterate 6 (exact rfl)); intro locU σ hc; have hU := hc.at'; (try (have nHU := hc.ne hH)); (try (replace hH := hc.keep hH)); (try (have nBU := hc.ne hB)); (try (replace hB := hc.keep hB)); (try (have nWU := hc.ne hW)); (try (replace hW := hc.keep hW)); (try (have nAU := hc.ne hA)); (try (replace hA := hc.keep hA)); (try (have nXU := hc.ne hX)); (try (replace hX := hc.keep hX)); (try (have nVU := hc.ne hV)); (try (replace hV := hc.keep hV)); clear hc)
      | (apply s_allocF tabZ_ok (d := 17); (iterate 6 (exact rfl)); intro locV σ hc; have hV := hc.at'; (try (have nHV := hc.ne hH)); (try (replace hH := hc.keep hH)); (try (have nBV := hc.ne hB)); (try (replace hB := hc.keep hB)); (try (have nWV := hc.ne hW)); (try (replace hW := hc.keep hW)); (try (have nAV := hc.ne hA)); (try (replace hA := hc.keep hA)); (try (have nXV := hc.ne hX)); (try (replace hX := hc.keep hX)); (try (have nUV := hc.ne hU)); (try (replace hU := hc.keep hU)); clear hc)
      | (apply s_storeF tab_ok; (iterate 7 (exact rfl)); exact hU; (iterate 2 (exact rfl)); intro σ hc; replace hU := hc.at'; (try (replace hH := hc.keep (by first | assumption | (apply Ne.symm; assumption)) hH)); (try (replace hB := hc.keep (by first | assumption | (apply Ne.symm; assumption)) hB)); (try (replace hW := hc.keep (by first | assumption | (apply Ne.symm; assumption)) hW)); (try (replace hA := hc.keep (by first | assumption | (apply Ne.symm; assumption)) hA)); (try (replace hX := hc.keep (by first | assumption | (apply Ne.symm; assumption)) hX)); (try (replace hV := hc.keep (by first | assumption | (apply Ne.symm; assumption)) hV)); clear hc)
      | (apply s_storeF tab_ok; (iterate 7 (exact rfl)); exact hV; (iterate 2 (exact rfl)); intro σ hc; replace hV := hc.at'; (try (replace hH := hc.keep (by first | assumption | (apply Ne.symm; assumption)) hH)); (try (replace hB := hc.keep (by first | assumption | (apply Ne.symm; assumption)) hB)); (try (replace hW := hc.keep (by first | assumption | (apply Ne.symm; assumption)) hW)); (try (replace hA := hc.keep (by first | assumption | (apply Ne.symm; assumption)) hA)); (try (replace hX := hc.keep (by first | assumption | (apply Ne.symm; assumption)) hX)); (try (replace hU := hc.keep (by first | assumption | (apply Ne.symm; assumption)) hU)); clear hc)
      | (apply s_ldF tab_ok; (iterate 5 (exact rfl)); exact hB; exact rfl)
      | (apply s_ldF tab_ok; (iterate 5 (exact rfl)); exact hA; exact rfl)
      | (apply s_ldF tab_ok; (iterate 5 (exact rfl)); exact hU; exact rfl)
      | (apply s_ldF tab_ok; (iterate 5 (exact rfl)); exact hV; exact rfl)
      | (apply s_call; (iterate 6 (exact rfl)); first | (exact sv; rintro _ rfl) | (exact su; rintro _ rfl))
      | refine al_nil ?_ | refine q_then_n ?_ | refine q_blk_n ?_ | refine q_blk_r ?_ | refine q_blk_e ?_
      | refine q_blk_o rfl ?_ | refine q_then_e ?_ | refine aw_block ?_ | refine aw_exit ?_ | refine q_then_r ?_
      | refine aw_seq ?_ | refine aw_reg ?_ | refine aw_true rfl ?_ | refine aw_false rfl ?_ | refine aw_skip ?_
      | refine aw_ret ?_ | refine al_fork ?_ ?_ | refine al_fork3 ?_ ?_ ?_
      | refine aw_draws (id := 23) (trO [0, 1, 2, 3, 4, 5, 6, 7] .nil) [] [] mixed_ok (by kernel_rfl) ?_)
    all_goals exact q_retB (resB_1 rfl (resV_t rfl)) ⟨_, rfl, rfl⟩
end
end Go.Proofs.Ytciciaikajdenaa
