/- N53: CellTrees: the second loop and what follows. -/
import Derived.Test.YtciciaikajdenaaQNTx2
set_option linter.unusedSimpArgs false
set_option linter.unusedVariables false
namespace Go.Proofs.Ytciciaikajdenaa
open Go.RowKit

section
noncomputable def trees38 : Option Code := match Try.f8.body with
  | some c => findW 38 c
  | none => none
set_option maxRecDepth 100000 in
set_option maxHeartbeats 16000000 in
theorem trees_tail {H : AHeap} {own : List AWord} {has : List Val} {m vO vA locH locO locA : Nat} {lv : Int} {σ : List AObj} (nHO : locH ≠ locO) (nHA : locH ≠ locA) (nOA : locO ≠ locA) (hmo : own.length = m) (hmh : has.length = m) (hm200 : m ≤ 200)
    (hv : ∀ (i : Nat) (w : AWord) (v : Val), own[i]? = some w → has[i]? = some v → See2 49 [.d (.agg (wordD w))] H (.tup [.agg (valD v), .v (.int .i64 0)])) (hs : ∀ v ∈ has, RunsP Try.prog 51 [.agg (valD v), .agg (valD v)] (fun v => v = .v (.bool true))) (hre : See2 48 [.d (.lst 4 (wordsR own))] H (.tup [.v (.int .i64 lv), .v (.int .i64 0)])) (hlv : Look 33 H (.v (.int .i64 lv)))
    (hH : σ[locH]? = some (ho H)) (hO : σ[locO]? = some (.arr 36 4 vO (wordsR own))) (hA : σ[locA]? = some (.arr 66 4 vA (valR has))) {X : Code} (hX : trees38 = some X) :
    AWk Try.prog 246 X (retQB tab Try.f8 (fun v x => ∃ d, v = AV.d d ∧ d = DV.v (Value.bool true))) [(5, .ptr locH 0 0), (7, .d (.fptr worldC)), (8, .d (.v (.int .i64 0))), (9, .own locO vO 4 0 m), (10, .own locA vA 4 0 m)] σ := by
  (try unfold Known at *); (try unfold NewH at *); (try unfold Mut2 at *); (try unfold See2 at *); (try unfold Look at *)
  have e2 := wordsR_len own
  have e3 := valR_len has
  cases hX
  repeat' (first
      | refine s_op rfl ?_ | (apply s_skipV; (iterate 2 (exact rfl))) | (apply s_skipU; (iterate 3 (exact rfl))) | (apply s_move; (iterate 4 (exact rfl))) | (apply s_fa_p tab_ok; (iterate 5 (exact rfl)))
      | (apply s_fa_f tab_ok; (iterate 6 (exact rfl))) | (apply s_ld_p tab_ok; (iterate 7 (exact rfl))) | (apply s_ld_f tab_ok; (iterate 6 (exact rfl))) | (apply s_ld_w tab_ok; (iterate 5 (exact rfl)); (first | exact valD_len _ | exact wordD_len _)) | (apply s_assign; (iterate 4 (exact rfl)))
      | (apply s_pick_t; (iterate 5 (exact rfl))) | (apply s_pick_f; (iterate 5 (exact rfl))) | (apply s_len tab_ok; (iterate 5 (exact rfl))) | (apply s_lens str_ok; (iterate 4 (exact rfl))) | (apply s_idx tab_ok; (iterate 7 (exact rfl)); (first | exact valR_get (by assumption) | exact wordsR_get (by assumption) | assumption))
      | (apply s_slice tab_ok; (iterate 8 (exact rfl)); (simp; omega)) | (apply s_ext; (iterate 5 (exact rfl))) | (apply s_build tabZ_ok; (iterate 5 (exact rfl))) | (apply s_alloc tabZ_ok; (iterate 7 (exact rfl))) | (apply s_store tab_ok; (iterate 10 (exact rfl)))
      | (apply s_lit tab_ok tabZ_ok; (iterate 10 (exact rfl))) | (apply s_lit1 tab_ok tabZ_ok; (iterate 9 (exact rfl)); (first | exact valD_len _ | exact wordD_len _)) | (apply s_app tab_ok tabZ_ok; (iterate 13 (exact rfl)); (first | (simp; done) | (simp; omega))) | (apply s_not_t; (iterate 4 (exact rfl))) | (apply s_not_f; (iterate 4 (exact rfl)))
      | (apply s_not; (iterate 4 (exact rfl))) | (apply s_eql_t; (iterate 5 (exact rfl)); omega) | (apply s_eql_f; (iterate 5 (exact rfl)); omega) | (apply s_neq_t; (iterate 5 (exact rfl)); omega) | (apply s_neq_f; (iterate 5 (exact rfl)); omega)
      | (apply s_lss_t; (iterate 5 (exact rfl)); omega) | (apply s_lss_f; (iterate 5 (exact rfl)); omega) | (apply s_gtr_t; (iterate 5 (exact rfl)); omega) | (apply s_gtr_f; (iterate 5 (exact rfl)); omega) | (apply s_add64; (iterate 5 (exact rfl)); omega)
      | (apply s_sub64; (iterate 5 (exact rfl)); omega)
      | refine al_nil ?_ | refine q_then_n ?_ | refine q_blk_n ?_ | refine q_blk_r ?_ | refine q_blk_e ?_
      | refine q_blk_o rfl ?_ | refine q_then_e ?_ | refine aw_block ?_ | refine aw_exit ?_ | refine q_then_r ?_
      | refine aw_seq ?_ | refine aw_reg ?_ | refine aw_true rfl ?_ | refine aw_false rfl ?_ | refine aw_skip ?_
      | refine aw_ret ?_ | refine al_fork ?_ ?_ | refine al_fork3 ?_ ?_ ?_
      | refine aw_draws (id := 23) (trO [0, 1, 4, 5] (.fork 2 (.fork 3 (trO [6, 7, 8, 9, 10] .nil) 6 (.fork 3 (trO [7, 8, 9, 10] .nil) 7 (trO [3, 8, 9, 10] .nil))) 6 (.fork 2 (.fork 3 (trO [7, 8, 9, 10] .nil) 7 (trO [3, 8, 9, 10] .nil)) 7 (trO [2, 3, 8, 9, 10] .nil)))) [2, 3, 6, 7, 8] [3, 8] mixed_ok (by kernel_rfl) ?_
      | refine aw_draws (id := 29) (trO [0, 1, 4, 5, 6, 7] (.fork 2 (.fork 3 (trO [8, 9, 10, 11, 12] .nil) 8 (.fork 3 (trO [9, 10, 11, 12] .nil) 9 (trO [3, 10, 11, 12] .nil))) 8 (.fork 2 (.fork 3 (trO [9, 10, 11, 12] .nil) 9 (trO [3, 10, 11, 12] .nil)) 9 (trO [2, 3, 10, 11, 12] .nil)))) [2, 3, 8, 9, 10] [3, 10] mixed_ok (by kernel_rfl) ?_
      | refine aw_draws (id := 36) (trO [0, 1, 2, 3, 4, 5, 6, 7, 9, 10, 11, 12, 13, 14, 15, 16, 8, 17, 18, 19] .nil) [8, 17] [8, 17] mixed_ok (by kernel_rfl) ?_
      | refine aw_draws (id := 42) (trO [0, 1, 2, 3, 4, 5, 6, 7, 8, 9, 10] .nil) [8] [] mixed_ok (by kernel_rfl) ?_)
  refine w_loop [5, 7, 8, 9, 10, 197, 198, 199] (fun n' vs' σ => ∃ j : Nat, vs' = [.ptr locH 0 0, .d (.fptr worldC), .d (.v (.int .i64 0)), .own locO vO 4 0 m, .own locA vA 4 0 m, .own locO vO 4 0 m, .d (.v (.int .i64 (m : Int))), .d (.v (.int .i64 (j : Int)))] ∧ σ[locH]? = some (ho H) ∧ σ[locO]? = some (.arr 36 4 vO (wordsR own)) ∧ σ[locA]? = some (.arr 66 4 vA (valR has)) ∧ j ≤ m ∧ n' = m - j) rfl ⟨0, rfl, hH, hO, hA, by omega, rfl⟩ ?_
  clear hH hO hA
  rintro n' vs' σ ⟨j, rfl, hH, hO, hA, hj, rfl⟩ fr hfr
  cases hfr
  by_cases hlt : j < m
  · obtain ⟨w, hw⟩ := getS (show j < own.length by omega)
    obtain ⟨v, hvv⟩ := getS (show j < has.length by omega)
    have v1 := hv j w v hw hvv
    have s1 := hs v (List.mem_of_getElem? hvv)
    clear hv hs hre hlv
    obtain ⟨qk, qn, qs, qg⟩ := w
    obtain ⟨pk, pn, ps, pl⟩ := v
    have hri : (wordsR own)[j]? = some [DV.v (.int .u8 qk), DV.v (.int .i64 qn), DV.v (.string qs), DV.v (.int .i64 qg)] := wordsR_get hw
    have hrv : (valR has)[j]? = some [DV.v (.int .u8 pk), DV.v (.int .i64 pn), DV.v (.string ps), DV.lst 4 (valR pl)] := valR_get hvv
    repeat' (first
      | refine s_op rfl ?_ | (apply s_skipV; (iterate 2 (exact rfl))) | (apply s_skipU; (iterate 3 (exact rfl))) | (apply s_move; (iterate 4 (exact rfl))) | (apply s_fa_p tab_ok; (iterate 5 (exact rfl)))
      | (apply s_fa_f tab_ok; (iterate 6 (exact rfl))) | (apply s_ld_p tab_ok; (iterate 7 (exact rfl))) | (apply s_ld_f tab_ok; (iterate 6 (exact rfl))) | (apply s_ld_w tab_ok; (iterate 5 (exact rfl)); (first | exact valD_len _ | exact wordD_len _)) | (apply s_assign; (iterate 4 (exact rfl)))
      | (apply s_pick_t; (iterate 5 (exact rfl))) | (apply s_pick_f; (iterate 5 (exact rfl))) | (apply s_len tab_ok; (iterate 5 (exact rfl))) | (apply s_lens str_ok; (iterate 4 (exact rfl))) | (apply s_idx tab_ok; (iterate 7 (exact rfl)); (first | exact valR_get (by assumption) | exact wordsR_get (by assumption) | assumption))
      | (apply s_ext; (iterate 5 (exact rfl))) | (apply s_build tabZ_ok; (iterate 5 (exact rfl))) | (apply s_lit tab_ok tabZ_ok; (iterate 10 (exact rfl))) | (apply s_lit1 tab_ok tabZ_ok; (iterate 9 (exact rfl)); (first | exact valD_len _ | exact wordD_len _)) | (apply s_not_t; (iterate 4 (exact rfl)))
      | (apply s_not_f; (iterate 4 (exact rfl))) | (apply s_not; (iterate 4 (exact rfl))) | (apply s_eql_t; (iterate 5 (exact rfl)); omega) | (apply s_eql_f; (iterate 5 (exact rfl)); omega) | (apply s_neq_t; (iterate 5 (exact rfl)); omega)
      | (apply s_neq_f; (iterate 5 (exact rfl)); omega) | (apply s_lss_t; (iterate 5 (exact rfl)); omega) | (apply s_lss_f; (iterate 5 (exact rfl)); omega) | (apply s_gtr_t; (iterate 5 (exact rfl)); omega) | (apply s_gtr_f; (iterate 5 (exact rfl)); omega)
      | (apply s_add64; (iterate 5 (exact rfl)); omega) | (apply s_sub64; (iterate 5 (exact rfl)); omega)
      | (apply s_callS; (iterate 6 (exact rfl)); (first | exact v1 _ _ hH); rintro _ σ2 ⟨rfl, hk2⟩; (try (replace hH := hk2 _ _ trivial hH)); (try (replace hO := hk2 _ _ trivial hO)); (try (replace hA := hk2 _ _ trivial hA)); (try (replace hW := hk2 _ _ trivial hW)); (try (replace hU := hk2 _ _ trivial hU)); clear hk2)
      | (apply s_idxO (j * 4) tab_ok; (iterate 7 (exact rfl)); (first | exact hO | exact hA); exact ⟨by omega, by omega⟩)
      | (apply s_ldA j 0 tab_ok; (iterate 5 (exact rfl)); exact hO; exact hri; omega; exact rfl)
      | (apply s_ldA j 0 tab_ok; (iterate 5 (exact rfl)); exact hA; exact hrv; omega; exact rfl)
      | (apply s_allocF tabZ_ok (d := 22); (iterate 6 (exact rfl)); intro locW σ hc; have hW := hc.at'; (try (have nHW := hc.ne hH)); (try (replace hH := hc.keep hH)); (try (have nOW := hc.ne hO)); (try (replace hO := hc.keep hO)); (try (have nAW := hc.ne hA)); (try (replace hA := hc.keep hA)); (try (have nUW := hc.ne hU)); (try (replace hU := hc.keep hU)); clear hc)
      | (apply s_allocF tabZ_ok (d := 23); (iterate 6 (exact rfl)); intro locU σ hc; have hU := hc.at'; (try (have nHU := hc.ne hH)); (try (replace hH := hc.keep hH)); (try (have nOU := hc.ne hO)); (try (replace hO := hc.keep hO)); (try (have nAU := hc.ne hA)); (try (replace hA := hc.keep hA)); (try (have nWU := hc.ne hW)); (try (replace hW := hc.keep hW)); clear hc)
      | (apply s_storeF tab_ok; (iterate 7 (exact rfl)); exact hW; (iterate 2 (exact rfl)); intro σ hc; replace hW := hc.at'; (try (replace hH := hc.keep (by first | assumption | (apply Ne.symm; assumption)) hH)); (try (replace hO := hc.keep (by first | assumption | (apply Ne.symm; assumption)) hO)); (try (replace hA := hc.keep (by first | assumption | (apply Ne.symm; assumption)) hA)); (try (replace hU := hc.keep (by first | assumption | (apply Ne.symm; assumption)) hU)); clear hc)
      | (apply s_storeF tab_ok; (iterate 7 (exact rfl)); exact hU; (iterate 2 (exact rfl)); intro σ hc; replace hU := hc.at'; (try (replace hH := hc.keep (by first | assumption | (apply Ne.symm; assumption)) hH)); (try (replace hO := hc.keep (by first | assumption | (apply Ne.symm; assumption)) hO)); (try (replace hA := hc.keep (by first | assumption | (apply Ne.symm; assumption)) hA)); (try (replace hW := hc.keep (by first | assumption | (apply Ne.symm; assumption)) hW)); clear hc)
      | (apply s_ldF tab_ok; (iterate 5 (exact rfl)); exact hW; exact rfl)
      | (apply s_ldF tab_ok; (iterate 5 (exact rfl)); exact hU; exact rfl)
      | (apply s_call; (iterate 6 (exact rfl)); first | (exact s1; rintro _ rfl))
      | refine al_nil ?_ | refine q_then_n ?_ | refine q_blk_n ?_ | refine q_blk_r ?_ | refine q_blk_e ?_
      | refine q_blk_o rfl ?_ | refine q_then_e ?_ | refine aw_block ?_ | refine aw_exit ?_ | refine q_then_r ?_
      | refine aw_seq ?_ | refine aw_reg ?_ | refine aw_true rfl ?_ | refine aw_false rfl ?_ | refine aw_skip ?_
      | refine aw_ret ?_ | refine al_fork ?_ ?_ | refine al_fork3 ?_ ?_ ?_
      | refine aw_draws (id := 23) (trO [0, 1, 4, 5] (.fork 2 (.fork 3 (trO [6, 7, 8, 9, 10] .nil) 6 (.fork 3 (trO [7, 8, 9, 10] .nil) 7 (trO [3, 8, 9, 10] .nil))) 6 (.fork 2 (.fork 3 (trO [7, 8, 9, 10] .nil) 7 (trO [3, 8, 9, 10] .nil)) 7 (trO [2, 3, 8, 9, 10] .nil)))) [2, 3, 6, 7, 8] [3, 8] mixed_ok (by kernel_rfl) ?_
      | refine aw_draws (id := 29) (trO [0, 1, 4, 5, 6, 7] (.fork 2 (.fork 3 (trO [8, 9, 10, 11, 12] .nil) 8 (.fork 3 (trO [9, 10, 11, 12] .nil) 9 (trO [3, 10, 11, 12] .nil))) 8 (.fork 2 (.fork 3 (trO [9, 10, 11, 12] .nil) 9 (trO [3, 10, 11, 12] .nil)) 9 (trO [2, 3, 10, 11, 12] .nil)))) [2, 3, 8, 9, 10] [3, 10] mixed_ok (by kernel_rfl) ?_
      | refine aw_draws (id := 36) (trO [0, 1, 2, 3, 4, 5, 6, 7, 9, 10, 11, 12, 13, 14, 15, 16, 8, 17, 18, 19] .nil) [8, 17] [8, 17] mixed_ok (by kernel_rfl) ?_
      | refine aw_draws (id := 42) (trO [0, 1, 2, 3, 4, 5, 6, 7, 8, 9, 10] .nil) [8] [] mixed_ok (by kernel_rfl) ?_)
    all_goals exact ⟨_, _, rfl, by omega, j + 1, rfl, hH, hO, hA, by omega, rfl⟩
  · repeat' (first
      | refine s_op rfl ?_ | (apply s_skipV; (iterate 2 (exact rfl))) | (apply s_skipU; (iterate 3 (exact rfl))) | (apply s_move; (iterate 4 (exact rfl))) | (apply s_fa_p tab_ok; (iterate 5 (exact rfl)))
      | (apply s_fa_f tab_ok; (iterate 6 (exact rfl))) | (apply s_ld_p tab_ok; (iterate 7 (exact rfl))) | (apply s_ld_f tab_ok; (iterate 6 (exact rfl))) | (apply s_ld_w tab_ok; (iterate 5 (exact rfl)); (first | exact valD_len _ | exact wordD_len _)) | (apply s_assign; (iterate 4 (exact rfl)))
      | (apply s_pick_t; (iterate 5 (exact rfl))) | (apply s_pick_f; (iterate 5 (exact rfl))) | (apply s_len tab_ok; (iterate 5 (exact rfl))) | (apply s_lens str_ok; (iterate 4 (exact rfl))) | (apply s_idx tab_ok; (iterate 7 (exact rfl)); (first | exact valR_get (by assumption) | exact wordsR_get (by assumption) | assumption))
      | (apply s_ext; (iterate 5 (exact rfl))) | (apply s_build tabZ_ok; (iterate 5 (exact rfl))) | (apply s_lit tab_ok tabZ_ok; (iterate 10 (exact rfl))) | (apply s_lit1 tab_ok tabZ_ok; (iterate 9 (exact rfl)); (first | exact valD_len _ | exact wordD_len _)) | (apply s_not_t; (iterate 4 (exact rfl)))
      | (apply s_not_f; (iterate 4 (exact rfl))) | (apply s_not; (iterate 4 (exact rfl))) | (apply s_eql_t; (iterate 5 (exact rfl)); omega) | (apply s_eql_f; (iterate 5 (exact rfl)); omega) | (apply s_neq_t; (iterate 5 (exact rfl)); omega)
      | (apply s_neq_f; (iterate 5 (exact rfl)); omega) | (apply s_lss_t; (iterate 5 (exact rfl)); omega) | (apply s_lss_f; (iterate 5 (exact rfl)); omega) | (apply s_gtr_t; (iterate 5 (exact rfl)); omega) | (apply s_gtr_f; (iterate 5 (exact rfl)); omega)
      | (apply s_add64; (iterate 5 (exact rfl)); omega) | (apply s_sub64; (iterate 5 (exact rfl)); omega)
      | (refine w_freezeF 9 rfl hO (by omega) ?_; intro σ hc; replace hH := hc.keep nHO hH; clear hc hO)
      | (apply s_callS; (iterate 6 (exact rfl)); (first | exact hre _ _ hH); rintro _ σ2 ⟨rfl, hk2⟩; (try (replace hH := hk2 _ _ trivial hH)); (try (replace hO := hk2 _ _ trivial hO)); (try (replace hA := hk2 _ _ trivial hA)); (try (replace hW := hk2 _ _ trivial hW)); (try (replace hU := hk2 _ _ trivial hU)); clear hk2)
      | (apply s_callS; (iterate 6 (exact rfl)); (first | exact hlv _ _ hH); rintro _ σ2 ⟨rfl, rfl⟩)
      | (apply s_eql_t; (iterate 5 (exact rfl)); exact rfl)
      | (apply s_call; (iterate 6 (exact rfl)); first | (exact world_trace; rintro _ rfl))
      | refine al_nil ?_ | refine q_then_n ?_ | refine q_blk_n ?_ | refine q_blk_r ?_ | refine q_blk_e ?_
      | refine q_blk_o rfl ?_ | refine q_then_e ?_ | refine aw_block ?_ | refine aw_exit ?_ | refine q_then_r ?_
      | refine aw_seq ?_ | refine aw_reg ?_ | refine aw_true rfl ?_ | refine aw_false rfl ?_ | refine aw_skip ?_
      | refine aw_ret ?_ | refine al_fork ?_ ?_ | refine al_fork3 ?_ ?_ ?_
      | refine aw_draws (id := 23) (trO [0, 1, 4, 5] (.fork 2 (.fork 3 (trO [6, 7, 8, 9, 10] .nil) 6 (.fork 3 (trO [7, 8, 9, 10] .nil) 7 (trO [3, 8, 9, 10] .nil))) 6 (.fork 2 (.fork 3 (trO [7, 8, 9, 10] .nil) 7 (trO [3, 8, 9, 10] .nil)) 7 (trO [2, 3, 8, 9, 10] .nil)))) [2, 3, 6, 7, 8] [3, 8] mixed_ok (by kernel_rfl) ?_
      | refine aw_draws (id := 29) (trO [0, 1, 4, 5, 6, 7] (.fork 2 (.fork 3 (trO [8, 9, 10, 11, 12] .nil) 8 (.fork 3 (trO [9, 10, 11, 12] .nil) 9 (trO [3, 10, 11, 12] .nil))) 8 (.fork 2 (.fork 3 (trO [9, 10, 11, 12] .nil) 9 (trO [3, 10, 11, 12] .nil)) 9 (trO [2, 3, 10, 11, 12] .nil)))) [2, 3, 8, 9, 10] [3, 10] mixed_ok (by kernel_rfl) ?_
      | refine aw_draws (id := 36) (trO [0, 1, 2, 3, 4, 5, 6, 7, 9, 10, 11, 12, 13, 14, 15, 16, 8, 17, 18, 19] .nil) [8, 17] [8, 17] mixed_ok (by kernel_rfl) ?_
      | refine aw_draws (id := 42) (trO [0, 1, 2, 3, 4, 5, 6, 7, 8, 9, 10] .nil) [8] [] mixed_ok (by kernel_rfl) ?_)
    all_goals exact q_retB (resB_1 rfl (resV_t rfl)) ⟨_, rfl, rfl⟩
end
end Go.Proofs.Ytciciaikajdenaa
