/- N29: the walk of CellRooms. -/
import Derived.Test.YtciciaikajdenaaQNA
set_option linter.unusedSimpArgs false
set_option linter.unusedVariables false
-- ALLUNDEF -- BOXZ
-- LEN: valD_len wordD_len
-- ROW: valR_get wordsR_get
-- DEF VD: [DV.v (.int .u8 vk), DV.v (.int .i64 vn), DV.v (.string vs), DV.lst 4 (valR vl)]
-- DEF WD: [DV.v (.int .u8 wk), DV.v (.int .i64 wn), DV.v (.string ws), DV.v (.int .i64 wg)]
-- DEF ZD: [DV.v (.int .u8 0), DV.v (.int .i64 0), DV.v (.string ⟨#[]⟩), DV.v (.int .i64 0)]
-- DEF KN: (apply s_callS; (iterate 6 (exact rfl)); exact kn _; rintro _ σ1 ⟨rfl, hk2⟩; replace hK := hK.trans hk2; clear hk2)
-- DEF SZ: (apply s_call; (iterate 6 (exact rfl)); exact hsz; rintro _ ⟨z, rfl, hz⟩)
-- DEF SZ2: (apply s_call; (iterate 6 (exact rfl)); exact hsz; rintro _ ⟨z, rfl⟩; by_cases hz3 : z ≤ 3000)
-- DEF NEW1: (apply s_callS; (iterate 6 (exact rfl)); exact b0 _; rintro _ σ1 ⟨locH, rfl, hc⟩; have hH := hc.at'; have oH := hK.out hc; replace hK := hK.fresh hc; clear hc)
-- DEF NEW2: (apply s_callS; (iterate 6 (exact rfl)); exact b1 _; rintro _ σ1 ⟨locR, rfl, hc⟩; have nWR := hc.ne hW; replace hW := hc.keep hW; have hR := hc.at'; have oR := hK.out hc; replace hK := hK.fresh hc; clear hc)
-- DEF MUT1: (apply s_callS; (iterate 6 (exact rfl)); exact m1 _ _ hH; rintro _ σ2 ⟨rfl, hH2, hk2⟩; replace hK := hK.past2 oH hk2; clear hk2; replace hH := hH2; clear hH2)
-- DEF MUT2: (apply s_callS; (iterate 6 (exact rfl)); exact m2 _ _ hH; rintro _ σ2 ⟨rfl, hH2, hk2⟩; replace hK := hK.past2 oH hk2; replace hW := hk2 _ _ nHW.symm hW; clear hk2; replace hH := hH2; clear hH2)
-- DEF MUT3: (apply s_callS; (iterate 6 (exact rfl)); exact m3 _ _ hR; rintro _ σ2 ⟨rfl, hR2, hk2⟩; replace hK := hK.past2 oR hk2; replace hW := hk2 _ _ nWR hW; clear hk2; replace hR := hR2; clear hR2)
-- DEF LOOK: (apply s_callS; (iterate 6 (exact rfl)); (first | exact l1 _ _ hH | exact l2 _ _ hH | exact l3 _ _ hH | exact l4 _ _ hR | exact l5 _ _ hR); rintro _ σ2 ⟨rfl, rfl⟩)
-- DEF LW: (apply s_ldF tab_ok; (iterate 5 (exact rfl)); exact hW; exact rfl)
-- DEF AW: (apply s_allocF tabZ_ok (d := 8); (iterate 6 (exact rfl)); intro locW σ hc; have hW := hc.at'; have nHW := hc.ne hH; replace hH := hc.keep hH; have oW := hK.out hc; replace hK := hK.fresh hc; clear hc)
-- DEF SW: (apply s_storeF tab_ok; (iterate 7 (exact rfl)); exact hW; (iterate 2 (exact rfl)); intro σ hc; replace hW := hc.at'; (try (replace hH := hc.keep (by first | assumption | (apply Ne.symm; assumption)) hH)); (try (replace hR := hc.keep (by first | assumption | (apply Ne.symm; assumption)) hR)); replace hK := hK.chg oW hc; clear hc)
-- DEF WQ: (apply s_wEq_t .zero .zero; (iterate 6 (exact rfl)))
-- DEF REM: (apply s_remV r; (iterate 5 (exact rfl)); exact ⟨by omega, hr⟩)
-- DEF KEEP: (refine keepA 8 [1, 2, 4, 5, 6, 7] rfl rfl ?_) || (refine keepA 9 [1, 2, 4, 5, 6, 7, 8, 9] rfl rfl ?_) || (refine keepA 11 [1, 2, 4, 5, 6, 8, 7] rfl rfl ?_) || (refine keepA 12 [1, 2, 4, 5, 6, 8, 7, 9] rfl rfl ?_) || (refine keepA 14 [1, 2, 4, 5, 8] rfl rfl ?_) || (refine keepA 16 [1, 2, 4, 5, 8] rfl rfl ?_) || (refine keepA 17 [1, 2, 4, 8, 6, 7] rfl rfl ?_) || (refine keepA 18 [4, 6, 7, 8, 9] rfl rfl ?_)
namespace Go.Proofs.Ytciciaikajdenaa
open Go.RowKit

section
variable {vk vn : Int} {vs : ByteArray} {vl : List Val} {less : Int}
set_option maxRecDepth 100000 in
set_option maxHeartbeats 8000000 in
theorem rooms_big (kn : Known) (hsz : RunsP Try.prog 43 [.agg [DV.v (.int .u8 vk), DV.v (.int .i64 vn), DV.v (.string vs), DV.lst 4 (valR vl)], .v (.int .i64 0)] (fun v => ∃ z : Int, v = .v (.int .i64 z) ∧ 3000 < z)) :
    RunsP Try.prog 9 [.agg [DV.v (.int .u8 vk), DV.v (.int .i64 vn), DV.v (.string vs), DV.lst 4 (valR vl)], .v (.int .i64 less)] (fun r => r = .v (.bool true)) := by
  unfold Known at kn
  have hK := KeptP.refl (fun _ => True) ([] : List AObj)
  refine enterPB 112 tab_ok Try.func9 rfl (by kernel_rfl) rfl rfl rfl ?_
  repeat' (first
      | refine s_op rfl ?_ | (apply s_skipV; (iterate 2 (exact rfl))) | (apply s_skipU; (iterate 3 (exact rfl))) | (apply s_move; (iterate 4 (exact rfl))) | (apply s_ld_p tab_ok; (iterate 7 (exact rfl)))
      | (apply s_ld_f tab_ok; (iterate 6 (exact rfl))) | (apply s_ld_w tab_ok; (iterate 5 (exact rfl)); (first | exact valD_len _ | exact wordD_len _)) | (apply s_assign; (iterate 4 (exact rfl))) | (apply s_pick_t; (iterate 5 (exact rfl))) | (apply s_pick_f; (iterate 5 (exact rfl)))
      | (apply s_ext; (iterate 5 (exact rfl))) | (apply s_build tabZ_ok; (iterate 5 (exact rfl))) | (apply s_alloc tabZ_ok; (iterate 7 (exact rfl))) | (apply s_boxZ; (iterate 5 (exact rfl)); first | exact rfl | exact allD_mapd _) | (apply s_store tab_ok; (iterate 10 (exact rfl)))
      | (apply s_not_t; (iterate 4 (exact rfl))) | (apply s_not_f; (iterate 4 (exact rfl))) | (apply s_not; (iterate 4 (exact rfl))) | (apply s_eql_t; (iterate 5 (exact rfl)); omega) | (apply s_eql_f; (iterate 5 (exact rfl)); omega)
      | (apply s_neq_t; (iterate 5 (exact rfl)); omega) | (apply s_neq_f; (iterate 5 (exact rfl)); omega) | (apply s_lss_t; (iterate 5 (exact rfl)); omega) | (apply s_lss_f; (iterate 5 (exact rfl)); omega) | (apply s_gtr_t; (iterate 5 (exact rfl)); omega)
      | (apply s_gtr_f; (iterate 5 (exact rfl)); omega)
      | (apply s_callS; (iterate 6 (exact rfl)); exact kn _; rintro _ σ1 ⟨rfl, hk2⟩; replace hK := hK.trans hk2; clear hk2)
      | (apply s_call; (iterate 6 (exact rfl)); exact hsz; rintro _ ⟨z, rfl, hz⟩)
      | refine al_nil ?_ | refine q_then_n ?_ | refine q_then_r ?_ | refine aw_seq ?_ | refine aw_reg ?_
      | refine aw_true rfl ?_ | refine aw_false rfl ?_ | refine aw_skip ?_ | refine aw_ret ?_)
  all_goals exact q_retB (resB_1 rfl (resV_t rfl)) ⟨_, rfl, rfl⟩
set_option maxRecDepth 100000 in
set_option maxHeartbeats 8000000 in
theorem rooms_not (kn : Known) (hsz : RunsP Try.prog 43 [.agg [DV.v (.int .u8 vk), DV.v (.int .i64 vn), DV.v (.string vs), DV.lst 4 (valR vl)], .v (.int .i64 0)] (fun v => ∃ z : Int, v = .v (.int .i64 z))) {may : Bool} (hmay : RunsP Try.prog 55 [.agg [DV.v (.int .u8 vk), DV.v (.int .i64 vn), DV.v (.string vs), DV.lst 4 (valR vl)]] (fun v => v = .v (.bool may))) (hno : may = false ∨ less < 0) :
    RunsP Try.prog 9 [.agg [DV.v (.int .u8 vk), DV.v (.int .i64 vn), DV.v (.string vs), DV.lst 4 (valR vl)], .v (.int .i64 less)] (fun r => r = .v (.bool true)) := by
  unfold Known at kn
  have hK := KeptP.refl (fun _ => True) ([] : List AObj)
  cases may
  · refine enterPB 112 tab_ok Try.func9 rfl (by kernel_rfl) rfl rfl rfl ?_
    repeat' (first
      | refine s_op rfl ?_ | (apply s_skipV; (iterate 2 (exact rfl))) | (apply s_skipU; (iterate 3 (exact rfl))) | (apply s_move; (iterate 4 (exact rfl))) | (apply s_ld_p tab_ok; (iterate 7 (exact rfl)))
      | (apply s_ld_f tab_ok; (iterate 6 (exact rfl))) | (apply s_ld_w tab_ok; (iterate 5 (exact rfl)); (first | exact valD_len _ | exact wordD_len _)) | (apply s_assign; (iterate 4 (exact rfl))) | (apply s_pick_t; (iterate 5 (exact rfl))) | (apply s_pick_f; (iterate 5 (exact rfl)))
      | (apply s_ext; (iterate 5 (exact rfl))) | (apply s_build tabZ_ok; (iterate 5 (exact rfl))) | (apply s_alloc tabZ_ok; (iterate 7 (exact rfl))) | (apply s_boxZ; (iterate 5 (exact rfl)); first | exact rfl | exact allD_mapd _) | (apply s_store tab_ok; (iterate 10 (exact rfl)))
      | (apply s_not_t; (iterate 4 (exact rfl))) | (apply s_not_f; (iterate 4 (exact rfl))) | (apply s_not; (iterate 4 (exact rfl))) | (apply s_eql_t; (iterate 5 (exact rfl)); omega) | (apply s_eql_f; (iterate 5 (exact rfl)); omega)
      | (apply s_neq_t; (iterate 5 (exact rfl)); omega) | (apply s_neq_f; (iterate 5 (exact rfl)); omega) | (apply s_lss_t; (iterate 5 (exact rfl)); omega) | (apply s_lss_f; (iterate 5 (exact rfl)); omega) | (apply s_gtr_t; (iterate 5 (exact rfl)); omega)
      | (apply s_gtr_f; (iterate 5 (exact rfl)); omega)
      | (apply s_callS; (iterate 6 (exact rfl)); exact kn _; rintro _ σ1 ⟨rfl, hk2⟩; replace hK := hK.trans hk2; clear hk2)
      | (apply s_call; (iterate 6 (exact rfl)); exact hsz; rintro _ ⟨z, rfl⟩; by_cases hz3 : z ≤ 3000)
      | (apply s_call; (iterate 6 (exact rfl)); first | (exact hmay; rintro _ rfl))
      | refine al_nil ?_ | refine q_then_n ?_ | refine q_then_r ?_ | refine aw_seq ?_ | refine aw_reg ?_
      | refine aw_true rfl ?_ | refine aw_false rfl ?_ | refine aw_skip ?_ | refine aw_ret ?_)
    all_goals exact q_retB (resB_1 rfl (resV_t rfl)) ⟨_, rfl, rfl⟩
  · have hno : less < 0 := by simpa using hno
    refine enterPB 112 tab_ok Try.func9 rfl (by kernel_rfl) rfl rfl rfl ?_
    repeat' (first
      | refine s_op rfl ?_ | (apply s_skipV; (iterate 2 (exact rfl))) | (apply s_skipU; (iterate 3 (exact rfl))) | (apply s_move; (iterate 4 (exact rfl))) | (apply s_ld_p tab_ok; (iterate 7 (exact rfl)))
      | (apply s_ld_f tab_ok; (iterate 6 (exact rfl))) | (apply s_ld_w tab_ok; (iterate 5 (exact rfl)); (first | exact valD_len _ | exact wordD_len _)) | (apply s_assign; (iterate 4 (exact rfl))) | (apply s_pick_t; (iterate 5 (exact rfl))) | (apply s_pick_f; (iterate 5 (exact rfl)))
      | (apply s_ext; (iterate 5 (exact rfl))) | (apply s_build tabZ_ok; (iterate 5 (exact rfl))) | (apply s_alloc tabZ_ok; (iterate 7 (exact rfl))) | (apply s_boxZ; (iterate 5 (exact rfl)); first | exact rfl | exact allD_mapd _) | (apply s_store tab_ok; (iterate 10 (exact rfl)))
      | (apply s_not_t; (iterate 4 (exact rfl))) | (apply s_not_f; (iterate 4 (exact rfl))) | (apply s_not; (iterate 4 (exact rfl))) | (apply s_eql_t; (iterate 5 (exact rfl)); omega) | (apply s_eql_f; (iterate 5 (exact rfl)); omega)
      | (apply s_neq_t; (iterate 5 (exact rfl)); omega) | (apply s_neq_f; (iterate 5 (exact rfl)); omega) | (apply s_lss_t; (iterate 5 (exact rfl)); omega) | (apply s_lss_f; (iterate 5 (exact rfl)); omega) | (apply s_gtr_t; (iterate 5 (exact rfl)); omega)
      | (apply s_gtr_f; (iterate 5 (exact rfl)); omega)
      | (apply s_callS; (iterate 6 (exact rfl)); exact kn _; rintro _ σ1 ⟨rfl, hk2⟩; replace hK := hK.trans hk2; clear hk2)
      | (apply s_call; (iterate 6 (exact rfl)); exact hsz; rintro _ ⟨z, rfl⟩; by_cases hz3 : z ≤ 3000)
      | (apply s_call; (iterate 6 (exact rfl)); first | (exact hmay; rintro _ rfl))
      | refine al_nil ?_ | refine q_then_n ?_ | refine q_then_r ?_ | refine aw_seq ?_ | refine aw_reg ?_
      | refine aw_true rfl ?_ | refine aw_false rfl ?_ | refine aw_skip ?_ | refine aw_ret ?_)
    all_goals exact q_retB (resB_1 rfl (resV_t rfl)) ⟨_, rfl, rfl⟩
end
end Go.Proofs.Ytciciaikajdenaa
