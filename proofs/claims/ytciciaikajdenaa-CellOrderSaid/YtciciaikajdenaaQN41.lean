/- N41: the walk of CellOrder: the first loop. -/
import Derived.Test.YtciciaikajdenaaQN40
set_option linter.unusedSimpArgs false
set_option linter.unusedVariables false
-- ALLUNDEF -- BOXZ
-- LEN: valD_len wordD_len
-- ROW: valR_get wordsR_get
-- DEF VD: [DV.v (.int .u8 vk), DV.v (.int .i64 vn), DV.v (.string vs), DV.lst 4 (valR vl)]
-- DEF UD: [DV.v (.int .u8 uk), DV.v (.int .i64 un), DV.v (.string us), DV.lst 4 (valR ul)]
-- DEF WD: [DV.v (.int .u8 wk), DV.v (.int .i64 wn), DV.v (.string ws), DV.v (.int .i64 wg)]
-- DEF WC: [DV.v (.int .u8 5), DV.v (.int .i64 wn), DV.v (.string ws), DV.v (.int .i64 wg)]
-- DEF YD: [DV.v (.int .u8 yk), DV.v (.int .i64 yn), DV.v (.string ys), DV.v (.int .i64 yg)]
-- DEF BD: [DV.v (.int .u8 bk), DV.v (.int .i64 bn), DV.v (.string bs), DV.v (.int .i64 bg)]
-- DEF ZD: [DV.v (.int .u8 0), DV.v (.int .i64 0), DV.v (.string ⟨#[]⟩), DV.v (.int .i64 0)]
namespace Go.Proofs.Ytciciaikajdenaa
open Go.RowKit

section
variable {vk vn : Int} {vs : ByteArray} {vl : List Val}
noncomputable def ord20 : Option Code := match Try.f10.body with
  | some c => findW 20 c
  | none => none
set_option maxRecDepth 100000 in
set_option maxHeartbeats 16000000 in
theorem ord_tail1 {K : AHeap} {cs : List AWord} {n : Int} (hg : ∀ x ∈ cs, ∀ (σ : List AObj) (loc : Nat), σ[loc]? = some (ho K) → Runs Try.prog 22 [.ptr loc 0 0, .d (.agg (wordD x))] σ (fun r σ' => r = .d (.tup [.agg (cellD (K.get x).1), .v (.int .i64 0)]) ∧ σ' = σ)) (h26 : ∀ x ∈ cs, RunsP Try.prog 26 [.agg (cellD (K.get x).1), .agg (cellD (K.get x).1)] (fun v => v = .v (.bool true))) (lc : Look 38 K (.lst 4 (wordsR cs))) (hcs : cs.length ≤ 100000) (hn : n = (cs.length : Int)) {R0 : AHeap} (hl64 : vl.length ≤ 64) (hb : ∀ (j : Nat) (p : Val), vl[j]? = some p → Mut2 45 [.d (.agg (valD p))] (buildsF R0 (vl.take j)).2 (.tup [.agg (wordD (buildF (buildsF R0 (vl.take j)).2 p).1), .v (.int .i64 0)]) (buildF (buildsF R0 (vl.take j)).2 p).2) (ha : Mut2 20 [.d (.agg (cellD ⟨vk - 10, vn, (buildsF R0 vl).1⟩))] (buildsF R0 vl).2 (.tup [.agg [.v (.int .u8 5), .v (.int .i64 (n - 1)), .v (.string ⟨#[]⟩), .v (.int .i64 0)], .v (.int .i64 0)]) K) {locH locW locR locC : Nat} {σ : List AObj} (nHW : locH ≠ locW) (nHR : locH ≠ locR) (nHC : locH ≠ locC) (nWR : locW ≠ locR) (nWC : locW ≠ locC) (nRC : locR ≠ locC) (hH : σ[locH]? = some (ho K)) (hW : σ[locW]? = some (.row 36 [.d (.v (.int .u8 5)), .d (.v (.int .i64 (n - 1))), .d (.v (.string ⟨#[]⟩)), .d (.v (.int .i64 0))])) (hR : σ[locR]? = some (ho R0)) (hC : σ[locC]? = some (.row 34 [.d (.v (.int .u8 (vk - 10))), .d (.v (.int .i64 vn)), .d .nil])) {X : Code} (hX : ord20 = some X) :
    AWk Try.prog 158 X (retQB tab Try.f10 (fun v x => ∃ d, v = AV.d d ∧ d = DV.v (Value.bool true))) [(1, .d (.fptr (valD (.mk vk vn vs vl)))), (3, .ptr locH 0 0), (5, .ptr locW 0 0), (7, .d (.v (.int .i64 n))), (8, .ptr locR 0 0), (9, .ptr locC 0 0)] σ := by
  unfold Mut2 at *
  have e1 := valR_len vl
  cases hX
  repeat' (first
      | refine s_op rfl ?_ | (apply s_skipV; (iterate 2 (exact rfl))) | (apply s_skipU; (iterate 3 (exact rfl))) | (apply s_move; (iterate 4 (exact rfl))) | (apply s_fa_p tab_ok; (iterate 5 (exact rfl)))
      | (apply s_fa_f tab_ok; (iterate 6 (exact rfl))) | (apply s_ld_p tab_ok; (iterate 7 (exact rfl))) | (apply s_ld_f tab_ok; (iterate 6 (exact rfl))) | (apply s_ld_w tab_ok; (iterate 5 (exact rfl)); (first | exact valD_len _ | exact wordD_len _)) | (apply s_assign; (iterate 4 (exact rfl)))
      | (apply s_pick_t; (iterate 5 (exact rfl))) | (apply s_pick_f; (iterate 5 (exact rfl))) | (apply s_len tab_ok; (iterate 5 (exact rfl))) | (apply s_lens str_ok; (iterate 4 (exact rfl))) | (apply s_idx tab_ok; (iterate 7 (exact rfl)); (first | exact valR_get (by assumption) | exact wordsR_get (by assumption) | assumption))
      | (apply s_ext; (iterate 5 (exact rfl))) | (apply s_build tabZ_ok; (iterate 5 (exact rfl))) | (apply s_alloc tabZ_ok; (iterate 7 (exact rfl))) | (apply s_boxZ; (iterate 5 (exact rfl)); first | exact rfl | exact allD_mapd _) | (apply s_store tab_ok; (iterate 10 (exact rfl)))
      | (apply s_lit tab_ok tabZ_ok; (iterate 10 (exact rfl))) | (apply s_lit1 tab_ok tabZ_ok; (iterate 9 (exact rfl)); (first | exact valD_len _ | exact wordD_len _)) | (apply s_app tab_ok tabZ_ok; (iterate 13 (exact rfl)); (first | (simp; done) | (simp; omega))) | (apply s_not_t; (iterate 4 (exact rfl))) | (apply s_not_f; (iterate 4 (exact rfl)))
      | (apply s_not; (iterate 4 (exact rfl))) | (apply s_eql_t; (iterate 5 (exact rfl)); omega) | (apply s_eql_f; (iterate 5 (exact rfl)); omega) | (apply s_neq_t; (iterate 5 (exact rfl)); omega) | (apply s_neq_f; (iterate 5 (exact rfl)); omega)
      | (apply s_lss_t; (iterate 5 (exact rfl)); omega) | (apply s_lss_f; (iterate 5 (exact rfl)); omega) | (apply s_gtr_t; (iterate 5 (exact rfl)); omega) | (apply s_gtr_f; (iterate 5 (exact rfl)); omega) | (apply s_add64; (iterate 5 (exact rfl)); omega)
      | (apply s_sub64; (iterate 5 (exact rfl)); omega)
      | refine al_nil ?_ | refine q_then_n ?_ | refine q_blk_n ?_ | refine q_blk_r ?_ | refine q_blk_e ?_
      | refine q_blk_o rfl ?_ | refine q_then_e ?_ | refine aw_block ?_ | refine aw_exit ?_ | refine q_then_r ?_
      | refine aw_seq ?_ | refine aw_reg ?_ | refine aw_true rfl ?_ | refine aw_false rfl ?_ | refine aw_skip ?_
      | refine aw_ret ?_ | refine al_fork ?_ ?_ | refine al_fork3 ?_ ?_ ?_
      | refine aw_draws (id := 12) (trO [0, 2, 1, 3, 4, 5, 6, 7, 8, 9, 10, 11, 12, 13, 14] .nil) [1, 11] [1] mixed_ok (by kernel_rfl) ?_)
  refine w_adoptC locC 2 36 4 hC rfl ?_
  intro locL σ hc
  have hL := hc.arr
  have nHL := hc.fresh _ _ hH
  have nWL := hc.fresh _ _ hW
  have nRL := hc.fresh _ _ hR
  have nCL := hc.ne.symm
  replace hC := hc.row
  replace hW := hc.keep nWC hW
  replace hH := hc.keep nHC hH
  replace hR := hc.keep nRC hR
  clear hc
  refine w_loop [3, 5, 7, 8, 9, 87, 88, 89] (fun n' vs' σ => ∃ (j ver : Nat), vs' = [.ptr locH 0 0, .ptr locW 0 0, .d (.v (.int .i64 n)), .ptr locR 0 0, .ptr locC 0 0, .d (.lst 4 (valR vl)), .d (.v (.int .i64 ((valR vl).length : Int))), .d (.v (.int .i64 (j : Int)))] ∧ σ[locH]? = some (ho K) ∧ σ[locW]? = some (.row 36 [.d (.v (.int .u8 5)), .d (.v (.int .i64 (n - 1))), .d (.v (.string ⟨#[]⟩)), .d (.v (.int .i64 0))]) ∧ σ[locR]? = some (ho (buildsF R0 (vl.take j)).2) ∧
    σ[locC]? = some (.row 34 [.d (.v (.int .u8 (vk - 10))), .d (.v (.int .i64 vn)), .own locL ver 4 0 j]) ∧ σ[locL]? = some (.arr 36 4 ver (wordsR (buildsF R0 (vl.take j)).1)) ∧ j ≤ vl.length ∧ n' = vl.length - j) rfl ⟨0, 0, rfl, hH, hW, hR, hC, hL, by omega, rfl⟩ ?_
  clear hW hH hR hC hL
  rintro n' vs' σ ⟨j, ver, rfl, hH, hW, hR, hC, hL, hj, rfl⟩ fr hfr
  cases hfr
  have e2 : (wordsR (buildsF R0 (vl.take j)).1).length = j := by rw [wordsR_len, buildsF_len, List.length_take]; omega
  by_cases hlt : j < vl.length
  · obtain ⟨p, hp⟩ := getS hlt
    have ht := buildsF_take hp R0
    have hbj := hb j p hp
    generalize buildsF R0 (vl.take j) = r at *
    have ewr : wordsR r.1 ++ [wordD (buildF r.2 p).1] = wordsR (r.1 ++ [(buildF r.2 p).1]) := by rw [wordsR_append]; rfl
    generalize buildF r.2 p = q at *
    obtain ⟨pk, pn, ps, pl⟩ := p
    obtain ⟨⟨qk, qn, qs, qg⟩, q2⟩ := q
    clear hb ha hg h26 lc
    repeat' (first
      | refine s_op rfl ?_ | (apply s_skipV; (iterate 2 (exact rfl))) | (apply s_skipU; (iterate 3 (exact rfl))) | (apply s_move; (iterate 4 (exact rfl))) | (apply s_fa_p tab_ok; (iterate 5 (exact rfl)))
      | (apply s_fa_f tab_ok; (iterate 6 (exact rfl))) | (apply s_ld_p tab_ok; (iterate 7 (exact rfl))) | (apply s_ld_f tab_ok; (iterate 6 (exact rfl))) | (apply s_ld_w tab_ok; (iterate 5 (exact rfl)); (first | exact valD_len _ | exact wordD_len _)) | (apply s_assign; (iterate 4 (exact rfl)))
      | (apply s_pick_t; (iterate 5 (exact rfl))) | (apply s_pick_f; (iterate 5 (exact rfl))) | (apply s_len tab_ok; (iterate 5 (exact rfl))) | (apply s_lens str_ok; (iterate 4 (exact rfl))) | (apply s_idx tab_ok; (iterate 7 (exact rfl)); (first | exact valR_get (by assumption) | exact wordsR_get (by assumption) | assumption))
      | (apply s_ext; (iterate 5 (exact rfl))) | (apply s_build tabZ_ok; (iterate 5 (exact rfl))) | (apply s_boxZ; (iterate 5 (exact rfl)); first | exact rfl | exact allD_mapd _) | (apply s_lit tab_ok tabZ_ok; (iterate 10 (exact rfl))) | (apply s_lit1 tab_ok tabZ_ok; (iterate 9 (exact rfl)); (first | exact valD_len _ | exact wordD_len _))
      | (apply s_not_t; (iterate 4 (exact rfl))) | (apply s_not_f; (iterate 4 (exact rfl))) | (apply s_not; (iterate 4 (exact rfl))) | (apply s_eql_t; (iterate 5 (exact rfl)); omega) | (apply s_eql_f; (iterate 5 (exact rfl)); omega)
      | (apply s_neq_t; (iterate 5 (exact rfl)); omega) | (apply s_neq_f; (iterate 5 (exact rfl)); omega) | (apply s_lss_t; (iterate 5 (exact rfl)); omega) | (apply s_lss_f; (iterate 5 (exact rfl)); omega) | (apply s_gtr_t; (iterate 5 (exact rfl)); omega)
      | (apply s_gtr_f; (iterate 5 (exact rfl)); omega) | (apply s_add64; (iterate 5 (exact rfl)); omega) | (apply s_sub64; (iterate 5 (exact rfl)); omega)
      | (apply s_allocF tabZ_ok (d := 11); (iterate 6 (exact rfl)); intro locZ σ hc; have hZ := hc.at'; (try (have nHZ := hc.ne hH)); (try (replace hH := hc.keep hH)); (try (have nWZ := hc.ne hW)); (try (replace hW := hc.keep hW)); (try (have nRZ := hc.ne hR)); (try (replace hR := hc.keep hR)); (try (have nCZ := hc.ne hC)); (try (replace hC := hc.keep hC)); (try (have nLZ := hc.ne hL)); (try (replace hL := hc.keep hL)); (try (have nYZ := hc.ne hY)); (try (replace hY := hc.keep hY)); (try (have nUZ := hc.ne hU)); (try (replace hU := hc.keep hU)); clear hc)
      | (apply s_allocF tabZ_ok (d := 12); (iterate 6 (exact rfl)); intro locY σ hc; have hY := hc.at'; (try (have nHY := hc.ne hH)); (try (replace hH := hc.keep hH)); (try (have nWY := hc.ne hW)); (try (replace hW := hc.keep hW)); (try (have nRY := hc.ne hR)); (try (replace hR := hc.keep hR)); (try (have nCY := hc.ne hC)); (try (replace hC := hc.keep hC)); (try (have nLY := hc.ne hL)); (try (replace hL := hc.keep hL)); (try (have nZY := hc.ne hZ)); (try (replace hZ := hc.keep hZ)); (try (have nUY := hc.ne hU)); (try (replace hU := hc.keep hU)); clear hc)
      | (apply s_storeF tab_ok; (iterate 7 (exact rfl)); exact hZ; (iterate 2 (exact rfl)); intro σ hc; replace hZ := hc.at'; (try (replace hH := hc.keep (by first | assumption | (apply Ne.symm; assumption)) hH)); (try (replace hW := hc.keep (by first | assumption | (apply Ne.symm; assumption)) hW)); (try (replace hR := hc.keep (by first | assumption | (apply Ne.symm; assumption)) hR)); (try (replace hC := hc.keep (by first | assumption | (apply Ne.symm; assumption)) hC)); (try (replace hL := hc.keep (by first | assumption | (apply Ne.symm; assumption)) hL)); (try (replace hY := hc.keep (by first | assumption | (apply Ne.symm; assumption)) hY)); (try (replace hU := hc.keep (by first | assumption | (apply Ne.symm; assumption)) hU)); clear hc)
      | (apply s_storeF tab_ok; (iterate 7 (exact rfl)); exact hY; (iterate 2 (exact rfl)); intro σ hc; replace hY := hc.at'; (try (replace hH := hc.keep (by first | assumption | (apply Ne.symm; assumption)) hH)); (try (replace hW := hc.keep (by first | assumption | (apply Ne.symm; assumption)) hW)); (try (replace hR := hc.keep (by first | assumption | (apply Ne.symm; assumption)) hR)); (try (replace hC := hc.keep (by first | assumption | (apply Ne.symm; assumption)) hC)); (try (replace hL := hc.keep (by first | assumption | (apply Ne.symm; assumption)) hL)); (try (replace hZ := hc.keep (by first | assumption | (apply Ne.symm; assumption)) hZ)); (try (replace hU := hc.keep (by first | assumption | (apply Ne.symm; assumption)) hU)); clear hc)
      | (apply s_ldF tab_ok; (iterate 5 (exact rfl)); exact hZ; exact rfl)
      | (apply s_ldF tab_ok; (iterate 5 (exact rfl)); exact hY; exact rfl)
      | (apply s_ldF tab_ok; (iterate 5 (exact rfl)); exact hC; exact rfl)
      | (apply s_callS; (iterate 6 (exact rfl)); exact hbj _ _ hR; rintro _ σ2 ⟨rfl, hR2, hk2⟩; replace hH := hk2 _ _ nHR hH; replace hW := hk2 _ _ nWR hW; replace hC := hk2 _ _ nRC.symm hC; replace hL := hk2 _ _ nRL.symm hL; replace hR := hR2; clear hk2 hR2 hZ)
      | (apply s_appF tab_ok tabZ_ok (d := 105) (rows2 := [wordD ⟨qk, qn, qs, qg⟩]) (rows3 := wordsR (r.1 ++ [⟨qk, qn, qs, qg⟩])) (m := j + 1); (iterate 10 (exact rfl)); exact hL; exact src_of (Tab.slIs tab_ok (t := 32) rfl) (rows_d rfl); exact ewr; (refine ⟨?_, ?_, ?_⟩ <;> first | omega | (simp only [List.length_cons, List.length_nil] <;> omega)); intro σ hc; replace hL := hc.at'; replace hH := hc.keep (by first | assumption | (apply Ne.symm; assumption) | omega) hH; replace hW := hc.keep (by first | assumption | (apply Ne.symm; assumption) | omega) hW; replace hR := hc.keep (by first | assumption | (apply Ne.symm; assumption) | omega) hR; replace hC := hc.keep (by first | assumption | (apply Ne.symm; assumption) | omega) hC; clear hc)
      | (apply s_storeF tab_ok; (iterate 7 (exact rfl)); exact hC; (iterate 2 (exact rfl)); intro σ hc; replace hC := hc.at'; (try (replace hH := hc.keep (by first | assumption | (apply Ne.symm; assumption)) hH)); (try (replace hW := hc.keep (by first | assumption | (apply Ne.symm; assumption)) hW)); (try (replace hR := hc.keep (by first | assumption | (apply Ne.symm; assumption)) hR)); (try (replace hL := hc.keep (by first | assumption | (apply Ne.symm; assumption)) hL)); (try (replace hZ := hc.keep (by first | assumption | (apply Ne.symm; assumption)) hZ)); (try (replace hY := hc.keep (by first | assumption | (apply Ne.symm; assumption)) hY)); (try (replace hU := hc.keep (by first | assumption | (apply Ne.symm; assumption)) hU)); clear hc)
      | refine al_nil ?_ | refine q_then_n ?_ | refine q_blk_n ?_ | refine q_blk_r ?_ | refine q_blk_e ?_
      | refine q_blk_o rfl ?_ | refine q_then_e ?_ | refine aw_block ?_ | refine aw_exit ?_ | refine q_then_r ?_
      | refine aw_seq ?_ | refine aw_reg ?_ | refine aw_true rfl ?_ | refine aw_false rfl ?_ | refine aw_skip ?_
      | refine aw_ret ?_ | refine al_fork ?_ ?_ | refine al_fork3 ?_ ?_ ?_
      | refine aw_draws (id := 12) (trO [0, 2, 1, 3, 4, 5, 6, 7, 8, 9, 10, 11, 12, 13, 14] .nil) [1, 11] [1] mixed_ok (by kernel_rfl) ?_)
    all_goals exact ⟨_, _, rfl, by omega, j + 1, _, rfl, hH, hW, by rw [ht]; exact hR, hC, by rw [ht]; exact hL, by omega, rfl⟩
  · have hjl : j = vl.length := by omega
    rw [List.take_of_length_le (by omega)] at hR hL e2
    clear hb
    generalize buildsF R0 vl = r at *
    repeat' (first
      | refine s_op rfl ?_ | (apply s_skipV; (iterate 2 (exact rfl))) | (apply s_skipU; (iterate 3 (exact rfl))) | (apply s_move; (iterate 4 (exact rfl))) | (apply s_fa_p tab_ok; (iterate 5 (exact rfl)))
      | (apply s_fa_f tab_ok; (iterate 6 (exact rfl))) | (apply s_ld_p tab_ok; (iterate 7 (exact rfl))) | (apply s_ld_f tab_ok; (iterate 6 (exact rfl))) | (apply s_ld_w tab_ok; (iterate 5 (exact rfl)); (first | exact valD_len _ | exact wordD_len _)) | (apply s_assign; (iterate 4 (exact rfl)))
      | (apply s_pick_t; (iterate 5 (exact rfl))) | (apply s_pick_f; (iterate 5 (exact rfl))) | (apply s_len tab_ok; (iterate 5 (exact rfl))) | (apply s_lens str_ok; (iterate 4 (exact rfl))) | (apply s_idx tab_ok; (iterate 7 (exact rfl)); (first | exact valR_get (by assumption) | exact wordsR_get (by assumption) | assumption))
      | (apply s_ext; (iterate 5 (exact rfl))) | (apply s_build tabZ_ok; (iterate 5 (exact rfl))) | (apply s_boxZ; (iterate 5 (exact rfl)); first | exact rfl | exact allD_mapd _) | (apply s_lit tab_ok tabZ_ok; (iterate 10 (exact rfl))) | (apply s_lit1 tab_ok tabZ_ok; (iterate 9 (exact rfl)); (first | exact valD_len _ | exact wordD_len _))
      | (apply s_app tab_ok tabZ_ok; (iterate 13 (exact rfl)); (first | (simp; done) | (simp; omega))) | (apply s_not_t; (iterate 4 (exact rfl))) | (apply s_not_f; (iterate 4 (exact rfl))) | (apply s_not; (iterate 4 (exact rfl))) | (apply s_eql_t; (iterate 5 (exact rfl)); omega)
      | (apply s_eql_f; (iterate 5 (exact rfl)); omega) | (apply s_neq_t; (iterate 5 (exact rfl)); omega) | (apply s_neq_f; (iterate 5 (exact rfl)); omega) | (apply s_lss_t; (iterate 5 (exact rfl)); omega) | (apply s_lss_f; (iterate 5 (exact rfl)); omega)
      | (apply s_gtr_t; (iterate 5 (exact rfl)); omega) | (apply s_gtr_f; (iterate 5 (exact rfl)); omega) | (apply s_add64; (iterate 5 (exact rfl)); omega) | (apply s_sub64; (iterate 5 (exact rfl)); omega)
      | (refine w_freezeC locC 2 hC rfl hL (by omega) ?_; intro σ hc; replace hC := hc.row; replace hW := hc.keep' _ _ hW nWC nWL; replace hH := hc.keep' _ _ hH nHC nHL; replace hR := hc.keep' _ _ hR nRC nRL; clear hc hL)
      | (apply s_allocF tabZ_ok (d := 14); (iterate 6 (exact rfl)); intro locU σ hc; have hU := hc.at'; (try (have nHU := hc.ne hH)); (try (replace hH := hc.keep hH)); (try (have nWU := hc.ne hW)); (try (replace hW := hc.keep hW)); (try (have nRU := hc.ne hR)); (try (replace hR := hc.keep hR)); (try (have nCU := hc.ne hC)); (try (replace hC := hc.keep hC)); (try (have nLU := hc.ne hL)); (try (replace hL := hc.keep hL)); (try (have nZU := hc.ne hZ)); (try (replace hZ := hc.keep hZ)); (try (have nYU := hc.ne hY)); (try (replace hY := hc.keep hY)); clear hc)
      | (apply s_storeF tab_ok; (iterate 7 (exact rfl)); exact hU; (iterate 2 (exact rfl)); intro σ hc; replace hU := hc.at'; (try (replace hH := hc.keep (by first | assumption | (apply Ne.symm; assumption)) hH)); (try (replace hW := hc.keep (by first | assumption | (apply Ne.symm; assumption)) hW)); (try (replace hR := hc.keep (by first | assumption | (apply Ne.symm; assumption)) hR)); (try (replace hC := hc.keep (by first | assumption | (apply Ne.symm; assumption)) hC)); (try (replace hL := hc.keep (by first | assumption | (apply Ne.symm; assumption)) hL)); (try (replace hZ := hc.keep (by first | assumption | (apply Ne.symm; assumption)) hZ)); (try (replace hY := hc.keep (by first | assumption | (apply Ne.symm; assumption)) hY)); clear hc)
      | (apply s_ldF tab_ok; (iterate 5 (exact rfl)); exact hU; exact rfl)
      | (apply s_ldF tab_ok; (iterate 5 (exact rfl)); exact hC; exact rfl)
      | (apply s_ldF tab_ok; (iterate 5 (exact rfl)); exact hW; exact rfl)
      | (apply s_callS; (iterate 6 (exact rfl)); (first | exact ha _ _ hR); rintro _ σ2 ⟨rfl, hR2, hk2⟩; (try (replace hH := hk2 _ _ (by first | assumption | (apply Ne.symm; assumption)) hH)); (try (replace hW := hk2 _ _ (by first | assumption | (apply Ne.symm; assumption)) hW)); (try (replace hC := hk2 _ _ (by first | assumption | (apply Ne.symm; assumption)) hC)); (try (replace hL := hk2 _ _ (by first | assumption | (apply Ne.symm; assumption)) hL)); (try (replace hZ := hk2 _ _ (by first | assumption | (apply Ne.symm; assumption)) hZ)); (try (replace hY := hk2 _ _ (by first | assumption | (apply Ne.symm; assumption)) hY)); (try (replace hU := hk2 _ _ (by first | assumption | (apply Ne.symm; assumption)) hU)); clear hk2; replace hR := hR2; clear hR2)
      | (apply s_wNe_f (cellWord (n - 1) 0) (cellWord (n - 1) 0); (iterate 6 (exact rfl)))
      | (refine w_keep [3, 7, 8] rfl rfl ?_; exact ord_tail2 hg h26 lc hcs hn hH hR rfl)
      | refine al_nil ?_ | refine q_then_n ?_ | refine q_blk_n ?_ | refine q_blk_r ?_ | refine q_blk_e ?_
      | refine q_blk_o rfl ?_ | refine q_then_e ?_ | refine aw_block ?_ | refine aw_exit ?_ | refine q_then_r ?_
      | refine aw_seq ?_ | refine aw_reg ?_ | refine aw_true rfl ?_ | refine aw_false rfl ?_ | refine aw_skip ?_
      | refine aw_ret ?_ | refine al_fork ?_ ?_ | refine al_fork3 ?_ ?_ ?_
      | refine aw_draws (id := 12) (trO [0, 2, 1, 3, 4, 5, 6, 7, 8, 9, 10, 11, 12, 13, 14] .nil) [1, 11] [1] mixed_ok (by kernel_rfl) ?_)
end
end Go.Proofs.Ytciciaikajdenaa
