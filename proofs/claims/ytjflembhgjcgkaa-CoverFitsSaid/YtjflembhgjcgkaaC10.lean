/- C10: a signature serves, of the program. -/
import Derived.Test.YtjflembhgjcgkaaC4
import Derived.Test.YtjflembhgjcgkaaM3
set_option linter.unusedSimpArgs false
set_option linter.unusedVariables false
-- ALLUNDEF -- BOXZ
-- DEF LDX: (apply s_ldF tab_ok; (iterate 5 (exact rfl)); exact hX; exact rfl)
-- DEF ALX: (apply s_allocF tabZ_ok; (iterate 6 (exact rfl)); intro locX σ hc; have hX := hc.at'; clear hc)
-- DEF STX: (apply s_storeF tab_ok; (iterate 7 (exact rfl)); exact hX; (iterate 2 (exact rfl)); intro σ hc; replace hX := hc.at'; clear hc)
namespace Go.Proofs.Ytjflembhgjcgkaa
open Go.RowKit

set_option maxRecDepth 100000 in
set_option maxHeartbeats 4000000 in
theorem serves_c (g : Sg) (hs : g.Small) : RunsP Try.prog 67 [.agg (sigD g)] (fun v => v = .v (.bool (servesB g))) := by
  have l1 := hs.cons
  have l2 := hs.datas
  have e1 : (g.cons.map conD).length = g.cons.length := by simp
  have e2 : (g.datas.map dataD).length = g.datas.length := by simp
  refine enterP 86 Try.func67 rfl (by kernel_rfl) rfl rfl rfl ?_
  repeat' (first
      | refine s_op rfl ?_ | (apply s_skipV; (iterate 2 (exact rfl))) | (apply s_skipU; (iterate 3 (exact rfl))) | (apply s_move; (iterate 4 (exact rfl))) | (apply s_fa_p tab_ok; (iterate 5 (exact rfl)))
      | (apply s_fa_f tab_ok; (iterate 6 (exact rfl))) | (apply s_ld_p tab_ok; (iterate 7 (exact rfl))) | (apply s_ld_f tab_ok; (iterate 6 (exact rfl))) | (apply s_ld_w tab_ok; (iterate 5 (exact rfl)); (first | exact patD_len _ | exact valD_len _)) | (apply s_assign; (iterate 4 (exact rfl)))
      | (apply s_pick_t; (iterate 5 (exact rfl))) | (apply s_pick_f; (iterate 5 (exact rfl))) | (apply s_len tab_ok; (iterate 5 (exact rfl))) | (apply s_lens str_ok; (iterate 4 (exact rfl))) | (apply s_idx tab_ok; (iterate 7 (exact rfl)); (first | exact patR_get (by assumption) | exact valR_get (by assumption) | exact row_map (by assumption) | assumption))
      | (apply s_slice tab_ok; (iterate 8 (exact rfl)); (simp; omega)) | (apply s_alloc tabZ_ok; (iterate 7 (exact rfl))) | (apply s_boxZ; (iterate 5 (exact rfl)); first | exact rfl | exact allD_mapd _) | (apply s_store tab_ok; (iterate 10 (exact rfl))) | (apply s_not_t; (iterate 4 (exact rfl)))
      | (apply s_not_f; (iterate 4 (exact rfl))) | (apply s_not; (iterate 4 (exact rfl))) | (apply s_neq_t; (iterate 5 (exact rfl)); omega) | (apply s_neq_f; (iterate 5 (exact rfl)); omega) | (apply s_lss_t; (iterate 5 (exact rfl)); omega)
      | (apply s_lss_f; (iterate 5 (exact rfl)); omega) | (apply s_geq_t; (iterate 5 (exact rfl)); omega) | (apply s_geq_f; (iterate 5 (exact rfl)); omega) | (apply s_add64; (iterate 5 (exact rfl)); omega)
      | refine al_nil ?_ | refine q_then_n ?_ | refine q_blk_n ?_ | refine q_blk_r ?_ | refine q_blk_e ?_
      | refine q_blk_o rfl ?_ | refine q_then_e ?_ | refine aw_block ?_ | refine aw_exit ?_ | refine q_then_r ?_
      | refine aw_seq ?_ | refine aw_reg ?_ | refine aw_true rfl ?_ | refine aw_false rfl ?_ | refine aw_skip ?_
      | refine aw_ret ?_)
  refine w_loop [1, 10, 11, 12] (fun n vs σ => ∃ k : Nat, vs = [.d (.fptr (sigD g)), .d (.lst 4 (g.cons.map conD)), .d (.v (.int .i64 ((g.cons.map conD).length : Int))), .d (.v (.int .i64 (k : Int)))] ∧ k ≤ g.cons.length ∧ n = g.cons.length - k ∧ ∀ i, i < k → conRow g i = true) rfl ⟨0, rfl, by omega, rfl, fun i hi => absurd hi (Nat.not_lt_zero i)⟩ ?_
  rintro n vs σ ⟨k, rfl, hk, rfl, hp⟩ fr hfr
  cases hfr
  by_cases hlt : k < g.cons.length
  · obtain ⟨⟨nm, dt, fs, ms⟩, hq⟩ := getS hlt
    by_cases d0 : dt < 0
    · repeat' (first
      | refine s_op rfl ?_ | (apply s_skipV; (iterate 2 (exact rfl))) | (apply s_skipU; (iterate 3 (exact rfl))) | (apply s_move; (iterate 4 (exact rfl))) | (apply s_fa_p tab_ok; (iterate 5 (exact rfl)))
      | (apply s_fa_f tab_ok; (iterate 6 (exact rfl))) | (apply s_ld_p tab_ok; (iterate 7 (exact rfl))) | (apply s_ld_f tab_ok; (iterate 6 (exact rfl))) | (apply s_ld_w tab_ok; (iterate 5 (exact rfl)); (first | exact patD_len _ | exact valD_len _)) | (apply s_assign; (iterate 4 (exact rfl)))
      | (apply s_pick_t; (iterate 5 (exact rfl))) | (apply s_pick_f; (iterate 5 (exact rfl))) | (apply s_len tab_ok; (iterate 5 (exact rfl))) | (apply s_lens str_ok; (iterate 4 (exact rfl))) | (apply s_idx tab_ok; (iterate 7 (exact rfl)); (first | exact patR_get (by assumption) | exact valR_get (by assumption) | exact row_map (by assumption) | assumption))
      | (apply s_slice tab_ok; (iterate 8 (exact rfl)); (simp; omega)) | (apply s_boxZ; (iterate 5 (exact rfl)); first | exact rfl | exact allD_mapd _) | (apply s_not_t; (iterate 4 (exact rfl))) | (apply s_not_f; (iterate 4 (exact rfl))) | (apply s_not; (iterate 4 (exact rfl)))
      | (apply s_neq_t; (iterate 5 (exact rfl)); omega) | (apply s_neq_f; (iterate 5 (exact rfl)); omega) | (apply s_lss_t; (iterate 5 (exact rfl)); omega) | (apply s_lss_f; (iterate 5 (exact rfl)); omega) | (apply s_geq_t; (iterate 5 (exact rfl)); omega)
      | (apply s_geq_f; (iterate 5 (exact rfl)); omega) | (apply s_add64; (iterate 5 (exact rfl)); omega)
      | (apply s_allocF tabZ_ok; (iterate 6 (exact rfl)); intro locX σ hc; have hX := hc.at'; clear hc)
      | (apply s_storeF tab_ok; (iterate 7 (exact rfl)); exact hX; (iterate 2 (exact rfl)); intro σ hc; replace hX := hc.at'; clear hc)
      | (apply s_ldF tab_ok; (iterate 5 (exact rfl)); exact hX; exact rfl)
      | refine al_nil ?_ | refine q_then_n ?_ | refine q_blk_n ?_ | refine q_blk_r ?_ | refine q_blk_e ?_
      | refine q_blk_o rfl ?_ | refine q_then_e ?_ | refine aw_block ?_ | refine aw_exit ?_ | refine q_then_r ?_
      | refine aw_seq ?_ | refine aw_reg ?_ | refine aw_true rfl ?_ | refine aw_false rfl ?_ | refine aw_skip ?_
      | refine aw_ret ?_)
      exact q_ret rfl ⟨_, rfl, by rw [servesB_con hlt (conRow_neg hq d0)]⟩
    obtain ⟨m, rfl⟩ : ∃ m : Nat, dt = m := ⟨dt.toNat, by omega⟩
    by_cases dm : m < g.datas.length
    · obtain ⟨⟨dn, dp, dc⟩, hd⟩ := getS dm
      have hc := contains_c dc (k : Int) (hs.each _ (List.mem_of_getElem? hd))
      by_cases hm : (k : Int) ∈ dc
      · rw [decide_eq_true hm] at hc
        repeat' (first
      | refine s_op rfl ?_ | (apply s_skipV; (iterate 2 (exact rfl))) | (apply s_skipU; (iterate 3 (exact rfl))) | (apply s_move; (iterate 4 (exact rfl))) | (apply s_fa_p tab_ok; (iterate 5 (exact rfl)))
      | (apply s_fa_f tab_ok; (iterate 6 (exact rfl))) | (apply s_ld_p tab_ok; (iterate 7 (exact rfl))) | (apply s_ld_f tab_ok; (iterate 6 (exact rfl))) | (apply s_ld_w tab_ok; (iterate 5 (exact rfl)); (first | exact patD_len _ | exact valD_len _)) | (apply s_assign; (iterate 4 (exact rfl)))
      | (apply s_pick_t; (iterate 5 (exact rfl))) | (apply s_pick_f; (iterate 5 (exact rfl))) | (apply s_len tab_ok; (iterate 5 (exact rfl))) | (apply s_lens str_ok; (iterate 4 (exact rfl))) | (apply s_idx tab_ok; (iterate 7 (exact rfl)); (first | exact patR_get (by assumption) | exact valR_get (by assumption) | exact row_map (by assumption) | assumption))
      | (apply s_slice tab_ok; (iterate 8 (exact rfl)); (simp; omega)) | (apply s_boxZ; (iterate 5 (exact rfl)); first | exact rfl | exact allD_mapd _) | (apply s_not_t; (iterate 4 (exact rfl))) | (apply s_not_f; (iterate 4 (exact rfl))) | (apply s_not; (iterate 4 (exact rfl)))
      | (apply s_neq_t; (iterate 5 (exact rfl)); omega) | (apply s_neq_f; (iterate 5 (exact rfl)); omega) | (apply s_lss_t; (iterate 5 (exact rfl)); omega) | (apply s_lss_f; (iterate 5 (exact rfl)); omega) | (apply s_geq_t; (iterate 5 (exact rfl)); omega)
      | (apply s_geq_f; (iterate 5 (exact rfl)); omega) | (apply s_add64; (iterate 5 (exact rfl)); omega)
      | (apply s_allocF tabZ_ok; (iterate 6 (exact rfl)); intro locX σ hc; have hX := hc.at'; clear hc)
      | (apply s_storeF tab_ok; (iterate 7 (exact rfl)); exact hX; (iterate 2 (exact rfl)); intro σ hc; replace hX := hc.at'; clear hc)
      | (apply s_ldF tab_ok; (iterate 5 (exact rfl)); exact hX; exact rfl)
      | (apply s_call; (iterate 6 (exact rfl)); first | (exact hc; rintro _ rfl))
      | refine al_nil ?_ | refine q_then_n ?_ | refine q_blk_n ?_ | refine q_blk_r ?_ | refine q_blk_e ?_
      | refine q_blk_o rfl ?_ | refine q_then_e ?_ | refine aw_block ?_ | refine aw_exit ?_ | refine q_then_r ?_
      | refine aw_seq ?_ | refine aw_reg ?_ | refine aw_true rfl ?_ | refine aw_false rfl ?_ | refine aw_skip ?_
      | refine aw_ret ?_)
        exact ⟨_, _, rfl, by omega, k + 1, rfl, by omega, rfl, upto_next hp (by rw [conRow_at hq rfl hd]; simpa using hm)⟩
      · rw [decide_eq_false hm] at hc
        repeat' (first
      | refine s_op rfl ?_ | (apply s_skipV; (iterate 2 (exact rfl))) | (apply s_skipU; (iterate 3 (exact rfl))) | (apply s_move; (iterate 4 (exact rfl))) | (apply s_fa_p tab_ok; (iterate 5 (exact rfl)))
      | (apply s_fa_f tab_ok; (iterate 6 (exact rfl))) | (apply s_ld_p tab_ok; (iterate 7 (exact rfl))) | (apply s_ld_f tab_ok; (iterate 6 (exact rfl))) | (apply s_ld_w tab_ok; (iterate 5 (exact rfl)); (first | exact patD_len _ | exact valD_len _)) | (apply s_assign; (iterate 4 (exact rfl)))
      | (apply s_pick_t; (iterate 5 (exact rfl))) | (apply s_pick_f; (iterate 5 (exact rfl))) | (apply s_len tab_ok; (iterate 5 (exact rfl))) | (apply s_lens str_ok; (iterate 4 (exact rfl))) | (apply s_idx tab_ok; (iterate 7 (exact rfl)); (first | exact patR_get (by assumption) | exact valR_get (by assumption) | exact row_map (by assumption) | assumption))
      | (apply s_slice tab_ok; (iterate 8 (exact rfl)); (simp; omega)) | (apply s_boxZ; (iterate 5 (exact rfl)); first | exact rfl | exact allD_mapd _) | (apply s_not_t; (iterate 4 (exact rfl))) | (apply s_not_f; (iterate 4 (exact rfl))) | (apply s_not; (iterate 4 (exact rfl)))
      | (apply s_neq_t; (iterate 5 (exact rfl)); omega) | (apply s_neq_f; (iterate 5 (exact rfl)); omega) | (apply s_lss_t; (iterate 5 (exact rfl)); omega) | (apply s_lss_f; (iterate 5 (exact rfl)); omega) | (apply s_geq_t; (iterate 5 (exact rfl)); omega)
      | (apply s_geq_f; (iterate 5 (exact rfl)); omega) | (apply s_add64; (iterate 5 (exact rfl)); omega)
      | (apply s_allocF tabZ_ok; (iterate 6 (exact rfl)); intro locX σ hc; have hX := hc.at'; clear hc)
      | (apply s_storeF tab_ok; (iterate 7 (exact rfl)); exact hX; (iterate 2 (exact rfl)); intro σ hc; replace hX := hc.at'; clear hc)
      | (apply s_ldF tab_ok; (iterate 5 (exact rfl)); exact hX; exact rfl)
      | (apply s_call; (iterate 6 (exact rfl)); first | (exact hc; rintro _ rfl))
      | refine al_nil ?_ | refine q_then_n ?_ | refine q_blk_n ?_ | refine q_blk_r ?_ | refine q_blk_e ?_
      | refine q_blk_o rfl ?_ | refine q_then_e ?_ | refine aw_block ?_ | refine aw_exit ?_ | refine q_then_r ?_
      | refine aw_seq ?_ | refine aw_reg ?_ | refine aw_true rfl ?_ | refine aw_false rfl ?_ | refine aw_skip ?_
      | refine aw_ret ?_)
        exact q_ret rfl ⟨_, rfl, by rw [servesB_con hlt (by rw [conRow_at hq rfl hd]; simpa using hm)]⟩
    · repeat' (first
      | refine s_op rfl ?_ | (apply s_skipV; (iterate 2 (exact rfl))) | (apply s_skipU; (iterate 3 (exact rfl))) | (apply s_move; (iterate 4 (exact rfl))) | (apply s_fa_p tab_ok; (iterate 5 (exact rfl)))
      | (apply s_fa_f tab_ok; (iterate 6 (exact rfl))) | (apply s_ld_p tab_ok; (iterate 7 (exact rfl))) | (apply s_ld_f tab_ok; (iterate 6 (exact rfl))) | (apply s_ld_w tab_ok; (iterate 5 (exact rfl)); (first | exact patD_len _ | exact valD_len _)) | (apply s_assign; (iterate 4 (exact rfl)))
      | (apply s_pick_t; (iterate 5 (exact rfl))) | (apply s_pick_f; (iterate 5 (exact rfl))) | (apply s_len tab_ok; (iterate 5 (exact rfl))) | (apply s_lens str_ok; (iterate 4 (exact rfl))) | (apply s_idx tab_ok; (iterate 7 (exact rfl)); (first | exact patR_get (by assumption) | exact valR_get (by assumption) | exact row_map (by assumption) | assumption))
      | (apply s_slice tab_ok; (iterate 8 (exact rfl)); (simp; omega)) | (apply s_boxZ; (iterate 5 (exact rfl)); first | exact rfl | exact allD_mapd _) | (apply s_not_t; (iterate 4 (exact rfl))) | (apply s_not_f; (iterate 4 (exact rfl))) | (apply s_not; (iterate 4 (exact rfl)))
      | (apply s_neq_t; (iterate 5 (exact rfl)); omega) | (apply s_neq_f; (iterate 5 (exact rfl)); omega) | (apply s_lss_t; (iterate 5 (exact rfl)); omega) | (apply s_lss_f; (iterate 5 (exact rfl)); omega) | (apply s_geq_t; (iterate 5 (exact rfl)); omega)
      | (apply s_geq_f; (iterate 5 (exact rfl)); omega) | (apply s_add64; (iterate 5 (exact rfl)); omega)
      | (apply s_allocF tabZ_ok; (iterate 6 (exact rfl)); intro locX σ hc; have hX := hc.at'; clear hc)
      | (apply s_storeF tab_ok; (iterate 7 (exact rfl)); exact hX; (iterate 2 (exact rfl)); intro σ hc; replace hX := hc.at'; clear hc)
      | (apply s_ldF tab_ok; (iterate 5 (exact rfl)); exact hX; exact rfl)
      | refine al_nil ?_ | refine q_then_n ?_ | refine q_blk_n ?_ | refine q_blk_r ?_ | refine q_blk_e ?_
      | refine q_blk_o rfl ?_ | refine q_then_e ?_ | refine aw_block ?_ | refine aw_exit ?_ | refine q_then_r ?_
      | refine aw_seq ?_ | refine aw_reg ?_ | refine aw_true rfl ?_ | refine aw_false rfl ?_ | refine aw_skip ?_
      | refine aw_ret ?_)
      exact q_ret rfl ⟨_, rfl, by rw [servesB_con hlt (conRow_far hq rfl dm)]⟩
  have hk : k = g.cons.length := by omega
  subst hk
  repeat' (first
      | refine s_op rfl ?_ | (apply s_skipV; (iterate 2 (exact rfl))) | (apply s_skipU; (iterate 3 (exact rfl))) | (apply s_move; (iterate 4 (exact rfl))) | (apply s_fa_p tab_ok; (iterate 5 (exact rfl)))
      | (apply s_fa_f tab_ok; (iterate 6 (exact rfl))) | (apply s_ld_p tab_ok; (iterate 7 (exact rfl))) | (apply s_ld_f tab_ok; (iterate 6 (exact rfl))) | (apply s_ld_w tab_ok; (iterate 5 (exact rfl)); (first | exact patD_len _ | exact valD_len _)) | (apply s_assign; (iterate 4 (exact rfl)))
      | (apply s_pick_t; (iterate 5 (exact rfl))) | (apply s_pick_f; (iterate 5 (exact rfl))) | (apply s_len tab_ok; (iterate 5 (exact rfl))) | (apply s_lens str_ok; (iterate 4 (exact rfl))) | (apply s_idx tab_ok; (iterate 7 (exact rfl)); (first | exact patR_get (by assumption) | exact valR_get (by assumption) | exact row_map (by assumption) | assumption))
      | (apply s_slice tab_ok; (iterate 8 (exact rfl)); (simp; omega)) | (apply s_alloc tabZ_ok; (iterate 7 (exact rfl))) | (apply s_boxZ; (iterate 5 (exact rfl)); first | exact rfl | exact allD_mapd _) | (apply s_store tab_ok; (iterate 10 (exact rfl))) | (apply s_not_t; (iterate 4 (exact rfl)))
      | (apply s_not_f; (iterate 4 (exact rfl))) | (apply s_not; (iterate 4 (exact rfl))) | (apply s_neq_t; (iterate 5 (exact rfl)); omega) | (apply s_neq_f; (iterate 5 (exact rfl)); omega) | (apply s_lss_t; (iterate 5 (exact rfl)); omega)
      | (apply s_lss_f; (iterate 5 (exact rfl)); omega) | (apply s_geq_t; (iterate 5 (exact rfl)); omega) | (apply s_geq_f; (iterate 5 (exact rfl)); omega) | (apply s_add64; (iterate 5 (exact rfl)); omega)
      | refine al_nil ?_ | refine q_then_n ?_ | refine q_blk_n ?_ | refine q_blk_r ?_ | refine q_blk_e ?_
      | refine q_blk_o rfl ?_ | refine q_then_e ?_ | refine aw_block ?_ | refine aw_exit ?_ | refine q_then_r ?_
      | refine aw_seq ?_ | refine aw_reg ?_ | refine aw_true rfl ?_ | refine aw_false rfl ?_ | refine aw_skip ?_
      | refine aw_ret ?_)
  clear hlt
  refine w_loop [1, 42, 43, 44] (fun n vs σ => ∃ k : Nat, vs = [.d (.fptr (sigD g)), .d (.lst 3 (g.datas.map dataD)), .d (.v (.int .i64 ((g.datas.map dataD).length : Int))), .d (.v (.int .i64 (k : Int)))] ∧ k ≤ g.datas.length ∧ n = g.datas.length - k ∧ ∀ i, i < k → datRow g i = true) rfl ⟨0, rfl, by omega, rfl, fun i hi => absurd hi (Nat.not_lt_zero i)⟩ ?_
  rintro n vs σ ⟨k, rfl, hk, rfl, hp2⟩ fr hfr
  cases hfr
  by_cases hlt : k < g.datas.length
  · obtain ⟨⟨dn, dp, dc⟩, hq⟩ := getS hlt
    have l3 : dc.length ≤ 1000000000 := hs.each _ (List.mem_of_getElem? hq)
    have e3 : (dc.map intRow).length = dc.length := by simp
    repeat' (first
      | refine s_op rfl ?_ | (apply s_skipV; (iterate 2 (exact rfl))) | (apply s_skipU; (iterate 3 (exact rfl))) | (apply s_move; (iterate 4 (exact rfl))) | (apply s_fa_p tab_ok; (iterate 5 (exact rfl)))
      | (apply s_fa_f tab_ok; (iterate 6 (exact rfl))) | (apply s_ld_p tab_ok; (iterate 7 (exact rfl))) | (apply s_ld_f tab_ok; (iterate 6 (exact rfl))) | (apply s_ld_w tab_ok; (iterate 5 (exact rfl)); (first | exact patD_len _ | exact valD_len _)) | (apply s_assign; (iterate 4 (exact rfl)))
      | (apply s_pick_t; (iterate 5 (exact rfl))) | (apply s_pick_f; (iterate 5 (exact rfl))) | (apply s_len tab_ok; (iterate 5 (exact rfl))) | (apply s_lens str_ok; (iterate 4 (exact rfl))) | (apply s_idx tab_ok; (iterate 7 (exact rfl)); (first | exact patR_get (by assumption) | exact valR_get (by assumption) | exact row_map (by assumption) | assumption))
      | (apply s_slice tab_ok; (iterate 8 (exact rfl)); (simp; omega)) | (apply s_boxZ; (iterate 5 (exact rfl)); first | exact rfl | exact allD_mapd _) | (apply s_not_t; (iterate 4 (exact rfl))) | (apply s_not_f; (iterate 4 (exact rfl))) | (apply s_not; (iterate 4 (exact rfl)))
      | (apply s_neq_t; (iterate 5 (exact rfl)); omega) | (apply s_neq_f; (iterate 5 (exact rfl)); omega) | (apply s_lss_t; (iterate 5 (exact rfl)); omega) | (apply s_lss_f; (iterate 5 (exact rfl)); omega) | (apply s_geq_t; (iterate 5 (exact rfl)); omega)
      | (apply s_geq_f; (iterate 5 (exact rfl)); omega) | (apply s_add64; (iterate 5 (exact rfl)); omega)
      | (apply s_allocF tabZ_ok; (iterate 6 (exact rfl)); intro locX σ hc; have hX := hc.at'; clear hc)
      | (apply s_storeF tab_ok; (iterate 7 (exact rfl)); exact hX; (iterate 2 (exact rfl)); intro σ hc; replace hX := hc.at'; clear hc)
      | (apply s_ldF tab_ok; (iterate 5 (exact rfl)); exact hX; exact rfl)
      | refine al_nil ?_ | refine q_then_n ?_ | refine q_blk_n ?_ | refine q_blk_r ?_ | refine q_blk_e ?_
      | refine q_blk_o rfl ?_ | refine q_then_e ?_ | refine aw_block ?_ | refine aw_exit ?_ | refine q_then_r ?_
      | refine aw_seq ?_ | refine aw_reg ?_ | refine aw_true rfl ?_ | refine aw_false rfl ?_ | refine aw_skip ?_
      | refine aw_ret ?_)
    refine w_loop [1, 5, 6, 42, 43, 44, 50, 51, 52] (fun n vs σ => ∃ j : Nat, vs = [.d (.fptr (sigD g)), .d (.v (.int .i64 (k : Int))), .ptr locX 0 0, .d (.lst 3 (g.datas.map dataD)), .d (.v (.int .i64 ((g.datas.map dataD).length : Int))), .d (.v (.int .i64 (k : Int))), .d (intsD dc), .d (.v (.int .i64 ((dc.map intRow).length : Int))), .d (.v (.int .i64 (j : Int)))] ∧ σ[locX]? = some (.row 88 ((dataD ⟨dn, dp, dc⟩).map .d)) ∧ j ≤ dc.length ∧ n = dc.length - j ∧ ∀ i, i < j → datIn g k ⟨dn, dp, dc⟩ i = true) rfl ⟨0, rfl, hX, by omega, rfl, fun i hi => absurd hi (Nat.not_lt_zero i)⟩ ?_
    clear hX
    rintro n vs σ ⟨j, rfl, hX, hj, rfl, hp3⟩ fr hfr
    cases hfr
    by_cases hjl : j < dc.length
    · obtain ⟨x, hx⟩ := getS hjl
      by_cases d0 : x < 0
      · repeat' (first
      | refine s_op rfl ?_ | (apply s_skipV; (iterate 2 (exact rfl))) | (apply s_skipU; (iterate 3 (exact rfl))) | (apply s_move; (iterate 4 (exact rfl))) | (apply s_fa_p tab_ok; (iterate 5 (exact rfl)))
      | (apply s_fa_f tab_ok; (iterate 6 (exact rfl))) | (apply s_ld_p tab_ok; (iterate 7 (exact rfl))) | (apply s_ld_f tab_ok; (iterate 6 (exact rfl))) | (apply s_ld_w tab_ok; (iterate 5 (exact rfl)); (first | exact patD_len _ | exact valD_len _)) | (apply s_assign; (iterate 4 (exact rfl)))
      | (apply s_pick_t; (iterate 5 (exact rfl))) | (apply s_pick_f; (iterate 5 (exact rfl))) | (apply s_len tab_ok; (iterate 5 (exact rfl))) | (apply s_lens str_ok; (iterate 4 (exact rfl))) | (apply s_idx tab_ok; (iterate 7 (exact rfl)); (first | exact patR_get (by assumption) | exact valR_get (by assumption) | exact row_map (by assumption) | assumption))
      | (apply s_slice tab_ok; (iterate 8 (exact rfl)); (simp; omega)) | (apply s_alloc tabZ_ok; (iterate 7 (exact rfl))) | (apply s_boxZ; (iterate 5 (exact rfl)); first | exact rfl | exact allD_mapd _) | (apply s_store tab_ok; (iterate 10 (exact rfl))) | (apply s_not_t; (iterate 4 (exact rfl)))
      | (apply s_not_f; (iterate 4 (exact rfl))) | (apply s_not; (iterate 4 (exact rfl))) | (apply s_neq_t; (iterate 5 (exact rfl)); omega) | (apply s_neq_f; (iterate 5 (exact rfl)); omega) | (apply s_lss_t; (iterate 5 (exact rfl)); omega)
      | (apply s_lss_f; (iterate 5 (exact rfl)); omega) | (apply s_geq_t; (iterate 5 (exact rfl)); omega) | (apply s_geq_f; (iterate 5 (exact rfl)); omega) | (apply s_add64; (iterate 5 (exact rfl)); omega)
      | (apply s_ldF tab_ok; (iterate 5 (exact rfl)); exact hX; exact rfl)
      | refine al_nil ?_ | refine q_then_n ?_ | refine q_blk_n ?_ | refine q_blk_r ?_ | refine q_blk_e ?_
      | refine q_blk_o rfl ?_ | refine q_then_e ?_ | refine aw_block ?_ | refine aw_exit ?_ | refine q_then_r ?_
      | refine aw_seq ?_ | refine aw_reg ?_ | refine aw_true rfl ?_ | refine aw_false rfl ?_ | refine aw_skip ?_
      | refine aw_ret ?_)
        exact q_ret rfl ⟨_, rfl, by rw [servesB_dat hq hjl (datIn_neg (g := g) (n := k) (d := ⟨dn, dp, dc⟩) hx d0)]⟩
      obtain ⟨m, rfl⟩ : ∃ m : Nat, x = m := ⟨x.toNat, by omega⟩
      by_cases dm : m < g.cons.length
      · obtain ⟨⟨nm, dt, fs, ms⟩, hcn⟩ := getS dm
        have hin := datIn_at (g := g) (n := k) (d := ⟨dn, dp, dc⟩) hx rfl hcn
        by_cases hdt : dt = k
        · subst hdt
          have hcc := contains_c (dc.take j) (m : Int) (by rw [List.length_take]; omega)
          cases hb : decide ((m : Int) ∈ dc.take j) <;> rw [hb] at hcc
          · repeat' (first
      | refine s_op rfl ?_ | (apply s_skipV; (iterate 2 (exact rfl))) | (apply s_skipU; (iterate 3 (exact rfl))) | (apply s_move; (iterate 4 (exact rfl))) | (apply s_fa_p tab_ok; (iterate 5 (exact rfl)))
      | (apply s_fa_f tab_ok; (iterate 6 (exact rfl))) | (apply s_ld_p tab_ok; (iterate 7 (exact rfl))) | (apply s_ld_f tab_ok; (iterate 6 (exact rfl))) | (apply s_ld_w tab_ok; (iterate 5 (exact rfl)); (first | exact patD_len _ | exact valD_len _)) | (apply s_assign; (iterate 4 (exact rfl)))
      | (apply s_pick_t; (iterate 5 (exact rfl))) | (apply s_pick_f; (iterate 5 (exact rfl))) | (apply s_len tab_ok; (iterate 5 (exact rfl))) | (apply s_lens str_ok; (iterate 4 (exact rfl))) | (apply s_idx tab_ok; (iterate 7 (exact rfl)); (first | exact patR_get (by assumption) | exact valR_get (by assumption) | exact row_map (by assumption) | assumption))
      | (apply s_alloc tabZ_ok; (iterate 7 (exact rfl))) | (apply s_boxZ; (iterate 5 (exact rfl)); first | exact rfl | exact allD_mapd _) | (apply s_store tab_ok; (iterate 10 (exact rfl))) | (apply s_not_t; (iterate 4 (exact rfl))) | (apply s_not_f; (iterate 4 (exact rfl)))
      | (apply s_not; (iterate 4 (exact rfl))) | (apply s_neq_t; (iterate 5 (exact rfl)); omega) | (apply s_neq_f; (iterate 5 (exact rfl)); omega) | (apply s_lss_t; (iterate 5 (exact rfl)); omega) | (apply s_lss_f; (iterate 5 (exact rfl)); omega)
      | (apply s_geq_t; (iterate 5 (exact rfl)); omega) | (apply s_geq_f; (iterate 5 (exact rfl)); omega) | (apply s_add64; (iterate 5 (exact rfl)); omega)
      | (apply s_ldF tab_ok; (iterate 5 (exact rfl)); exact hX; exact rfl)
      | (apply s_sliceE tab_ok (rows' := (dc.take j).map intRow); (iterate 8 (exact rfl)); (simp; omega); (simp))
      | (apply s_call; (iterate 6 (exact rfl)); first | (exact hcc; rintro _ rfl))
      | refine al_nil ?_ | refine q_then_n ?_ | refine q_blk_n ?_ | refine q_blk_r ?_ | refine q_blk_e ?_
      | refine q_blk_o rfl ?_ | refine q_then_e ?_ | refine aw_block ?_ | refine aw_exit ?_ | refine q_then_r ?_
      | refine aw_seq ?_ | refine aw_reg ?_ | refine aw_true rfl ?_ | refine aw_false rfl ?_ | refine aw_skip ?_
      | refine aw_ret ?_)
            exact ⟨_, _, rfl, by omega, j + 1, rfl, hX, by omega, rfl, upto_next hp3 (by rw [hin]; simpa using hb)⟩
          · repeat' (first
      | refine s_op rfl ?_ | (apply s_skipV; (iterate 2 (exact rfl))) | (apply s_skipU; (iterate 3 (exact rfl))) | (apply s_move; (iterate 4 (exact rfl))) | (apply s_fa_p tab_ok; (iterate 5 (exact rfl)))
      | (apply s_fa_f tab_ok; (iterate 6 (exact rfl))) | (apply s_ld_p tab_ok; (iterate 7 (exact rfl))) | (apply s_ld_f tab_ok; (iterate 6 (exact rfl))) | (apply s_ld_w tab_ok; (iterate 5 (exact rfl)); (first | exact patD_len _ | exact valD_len _)) | (apply s_assign; (iterate 4 (exact rfl)))
      | (apply s_pick_t; (iterate 5 (exact rfl))) | (apply s_pick_f; (iterate 5 (exact rfl))) | (apply s_len tab_ok; (iterate 5 (exact rfl))) | (apply s_lens str_ok; (iterate 4 (exact rfl))) | (apply s_idx tab_ok; (iterate 7 (exact rfl)); (first | exact patR_get (by assumption) | exact valR_get (by assumption) | exact row_map (by assumption) | assumption))
      | (apply s_alloc tabZ_ok; (iterate 7 (exact rfl))) | (apply s_boxZ; (iterate 5 (exact rfl)); first | exact rfl | exact allD_mapd _) | (apply s_store tab_ok; (iterate 10 (exact rfl))) | (apply s_not_t; (iterate 4 (exact rfl))) | (apply s_not_f; (iterate 4 (exact rfl)))
      | (apply s_not; (iterate 4 (exact rfl))) | (apply s_neq_t; (iterate 5 (exact rfl)); omega) | (apply s_neq_f; (iterate 5 (exact rfl)); omega) | (apply s_lss_t; (iterate 5 (exact rfl)); omega) | (apply s_lss_f; (iterate 5 (exact rfl)); omega)
      | (apply s_geq_t; (iterate 5 (exact rfl)); omega) | (apply s_geq_f; (iterate 5 (exact rfl)); omega) | (apply s_add64; (iterate 5 (exact rfl)); omega)
      | (apply s_ldF tab_ok; (iterate 5 (exact rfl)); exact hX; exact rfl)
      | (apply s_sliceE tab_ok (rows' := (dc.take j).map intRow); (iterate 8 (exact rfl)); (simp; omega); (simp))
      | (apply s_call; (iterate 6 (exact rfl)); first | (exact hcc; rintro _ rfl))
      | refine al_nil ?_ | refine q_then_n ?_ | refine q_blk_n ?_ | refine q_blk_r ?_ | refine q_blk_e ?_
      | refine q_blk_o rfl ?_ | refine q_then_e ?_ | refine aw_block ?_ | refine aw_exit ?_ | refine q_then_r ?_
      | refine aw_seq ?_ | refine aw_reg ?_ | refine aw_true rfl ?_ | refine aw_false rfl ?_ | refine aw_skip ?_
      | refine aw_ret ?_)
            exact q_ret rfl ⟨_, rfl, by rw [servesB_dat hq hjl (by rw [hin]; simpa using hb)]⟩
        · repeat' (first
      | refine s_op rfl ?_ | (apply s_skipV; (iterate 2 (exact rfl))) | (apply s_skipU; (iterate 3 (exact rfl))) | (apply s_move; (iterate 4 (exact rfl))) | (apply s_fa_p tab_ok; (iterate 5 (exact rfl)))
      | (apply s_fa_f tab_ok; (iterate 6 (exact rfl))) | (apply s_ld_p tab_ok; (iterate 7 (exact rfl))) | (apply s_ld_f tab_ok; (iterate 6 (exact rfl))) | (apply s_ld_w tab_ok; (iterate 5 (exact rfl)); (first | exact patD_len _ | exact valD_len _)) | (apply s_assign; (iterate 4 (exact rfl)))
      | (apply s_pick_t; (iterate 5 (exact rfl))) | (apply s_pick_f; (iterate 5 (exact rfl))) | (apply s_len tab_ok; (iterate 5 (exact rfl))) | (apply s_lens str_ok; (iterate 4 (exact rfl))) | (apply s_idx tab_ok; (iterate 7 (exact rfl)); (first | exact patR_get (by assumption) | exact valR_get (by assumption) | exact row_map (by assumption) | assumption))
      | (apply s_slice tab_ok; (iterate 8 (exact rfl)); (simp; omega)) | (apply s_alloc tabZ_ok; (iterate 7 (exact rfl))) | (apply s_boxZ; (iterate 5 (exact rfl)); first | exact rfl | exact allD_mapd _) | (apply s_store tab_ok; (iterate 10 (exact rfl))) | (apply s_not_t; (iterate 4 (exact rfl)))
      | (apply s_not_f; (iterate 4 (exact rfl))) | (apply s_not; (iterate 4 (exact rfl))) | (apply s_neq_t; (iterate 5 (exact rfl)); omega) | (apply s_neq_f; (iterate 5 (exact rfl)); omega) | (apply s_lss_t; (iterate 5 (exact rfl)); omega)
      | (apply s_lss_f; (iterate 5 (exact rfl)); omega) | (apply s_geq_t; (iterate 5 (exact rfl)); omega) | (apply s_geq_f; (iterate 5 (exact rfl)); omega) | (apply s_add64; (iterate 5 (exact rfl)); omega)
      | (apply s_ldF tab_ok; (iterate 5 (exact rfl)); exact hX; exact rfl)
      | refine al_nil ?_ | refine q_then_n ?_ | refine q_blk_n ?_ | refine q_blk_r ?_ | refine q_blk_e ?_
      | refine q_blk_o rfl ?_ | refine q_then_e ?_ | refine aw_block ?_ | refine aw_exit ?_ | refine q_then_r ?_
      | refine aw_seq ?_ | refine aw_reg ?_ | refine aw_true rfl ?_ | refine aw_false rfl ?_ | refine aw_skip ?_
      | refine aw_ret ?_)
          exact q_ret rfl ⟨_, rfl, by rw [servesB_dat hq hjl (by rw [hin]; simp [hdt])]⟩
      · repeat' (first
      | refine s_op rfl ?_ | (apply s_skipV; (iterate 2 (exact rfl))) | (apply s_skipU; (iterate 3 (exact rfl))) | (apply s_move; (iterate 4 (exact rfl))) | (apply s_fa_p tab_ok; (iterate 5 (exact rfl)))
      | (apply s_fa_f tab_ok; (iterate 6 (exact rfl))) | (apply s_ld_p tab_ok; (iterate 7 (exact rfl))) | (apply s_ld_f tab_ok; (iterate 6 (exact rfl))) | (apply s_ld_w tab_ok; (iterate 5 (exact rfl)); (first | exact patD_len _ | exact valD_len _)) | (apply s_assign; (iterate 4 (exact rfl)))
      | (apply s_pick_t; (iterate 5 (exact rfl))) | (apply s_pick_f; (iterate 5 (exact rfl))) | (apply s_len tab_ok; (iterate 5 (exact rfl))) | (apply s_lens str_ok; (iterate 4 (exact rfl))) | (apply s_idx tab_ok; (iterate 7 (exact rfl)); (first | exact patR_get (by assumption) | exact valR_get (by assumption) | exact row_map (by assumption) | assumption))
      | (apply s_slice tab_ok; (iterate 8 (exact rfl)); (simp; omega)) | (apply s_alloc tabZ_ok; (iterate 7 (exact rfl))) | (apply s_boxZ; (iterate 5 (exact rfl)); first | exact rfl | exact allD_mapd _) | (apply s_store tab_ok; (iterate 10 (exact rfl))) | (apply s_not_t; (iterate 4 (exact rfl)))
      | (apply s_not_f; (iterate 4 (exact rfl))) | (apply s_not; (iterate 4 (exact rfl))) | (apply s_neq_t; (iterate 5 (exact rfl)); omega) | (apply s_neq_f; (iterate 5 (exact rfl)); omega) | (apply s_lss_t; (iterate 5 (exact rfl)); omega)
      | (apply s_lss_f; (iterate 5 (exact rfl)); omega) | (apply s_geq_t; (iterate 5 (exact rfl)); omega) | (apply s_geq_f; (iterate 5 (exact rfl)); omega) | (apply s_add64; (iterate 5 (exact rfl)); omega)
      | (apply s_ldF tab_ok; (iterate 5 (exact rfl)); exact hX; exact rfl)
      | refine al_nil ?_ | refine q_then_n ?_ | refine q_blk_n ?_ | refine q_blk_r ?_ | refine q_blk_e ?_
      | refine q_blk_o rfl ?_ | refine q_then_e ?_ | refine aw_block ?_ | refine aw_exit ?_ | refine q_then_r ?_
      | refine aw_seq ?_ | refine aw_reg ?_ | refine aw_true rfl ?_ | refine aw_false rfl ?_ | refine aw_skip ?_
      | refine aw_ret ?_)
        exact q_ret rfl ⟨_, rfl, by rw [servesB_dat hq hjl (datIn_far (g := g) (n := k) (d := ⟨dn, dp, dc⟩) hx rfl dm)]⟩
    · repeat' (first
      | refine s_op rfl ?_ | (apply s_skipV; (iterate 2 (exact rfl))) | (apply s_skipU; (iterate 3 (exact rfl))) | (apply s_move; (iterate 4 (exact rfl))) | (apply s_fa_p tab_ok; (iterate 5 (exact rfl)))
      | (apply s_fa_f tab_ok; (iterate 6 (exact rfl))) | (apply s_ld_p tab_ok; (iterate 7 (exact rfl))) | (apply s_ld_f tab_ok; (iterate 6 (exact rfl))) | (apply s_ld_w tab_ok; (iterate 5 (exact rfl)); (first | exact patD_len _ | exact valD_len _)) | (apply s_assign; (iterate 4 (exact rfl)))
      | (apply s_pick_t; (iterate 5 (exact rfl))) | (apply s_pick_f; (iterate 5 (exact rfl))) | (apply s_len tab_ok; (iterate 5 (exact rfl))) | (apply s_lens str_ok; (iterate 4 (exact rfl))) | (apply s_idx tab_ok; (iterate 7 (exact rfl)); (first | exact patR_get (by assumption) | exact valR_get (by assumption) | exact row_map (by assumption) | assumption))
      | (apply s_slice tab_ok; (iterate 8 (exact rfl)); (simp; omega)) | (apply s_alloc tabZ_ok; (iterate 7 (exact rfl))) | (apply s_boxZ; (iterate 5 (exact rfl)); first | exact rfl | exact allD_mapd _) | (apply s_store tab_ok; (iterate 10 (exact rfl))) | (apply s_not_t; (iterate 4 (exact rfl)))
      | (apply s_not_f; (iterate 4 (exact rfl))) | (apply s_not; (iterate 4 (exact rfl))) | (apply s_neq_t; (iterate 5 (exact rfl)); omega) | (apply s_neq_f; (iterate 5 (exact rfl)); omega) | (apply s_lss_t; (iterate 5 (exact rfl)); omega)
      | (apply s_lss_f; (iterate 5 (exact rfl)); omega) | (apply s_geq_t; (iterate 5 (exact rfl)); omega) | (apply s_geq_f; (iterate 5 (exact rfl)); omega) | (apply s_add64; (iterate 5 (exact rfl)); omega)
      | refine al_nil ?_ | refine q_then_n ?_ | refine q_blk_n ?_ | refine q_blk_r ?_ | refine q_blk_e ?_
      | refine q_blk_o rfl ?_ | refine q_then_e ?_ | refine aw_block ?_ | refine aw_exit ?_ | refine q_then_r ?_
      | refine aw_seq ?_ | refine aw_reg ?_ | refine aw_true rfl ?_ | refine aw_false rfl ?_ | refine aw_skip ?_
      | refine aw_ret ?_)
      exact ⟨_, _, rfl, by omega, k + 1, rfl, by omega, rfl, upto_next hp2 (datRow_ok hq fun i hi => hp3 i (by simp only at hi; omega))⟩
  · repeat' (first
      | refine s_op rfl ?_ | (apply s_skipV; (iterate 2 (exact rfl))) | (apply s_skipU; (iterate 3 (exact rfl))) | (apply s_move; (iterate 4 (exact rfl))) | (apply s_fa_p tab_ok; (iterate 5 (exact rfl)))
      | (apply s_fa_f tab_ok; (iterate 6 (exact rfl))) | (apply s_ld_p tab_ok; (iterate 7 (exact rfl))) | (apply s_ld_f tab_ok; (iterate 6 (exact rfl))) | (apply s_ld_w tab_ok; (iterate 5 (exact rfl)); (first | exact patD_len _ | exact valD_len _)) | (apply s_assign; (iterate 4 (exact rfl)))
      | (apply s_pick_t; (iterate 5 (exact rfl))) | (apply s_pick_f; (iterate 5 (exact rfl))) | (apply s_len tab_ok; (iterate 5 (exact rfl))) | (apply s_lens str_ok; (iterate 4 (exact rfl))) | (apply s_idx tab_ok; (iterate 7 (exact rfl)); (first | exact patR_get (by assumption) | exact valR_get (by assumption) | exact row_map (by assumption) | assumption))
      | (apply s_slice tab_ok; (iterate 8 (exact rfl)); (simp; omega)) | (apply s_alloc tabZ_ok; (iterate 7 (exact rfl))) | (apply s_boxZ; (iterate 5 (exact rfl)); first | exact rfl | exact allD_mapd _) | (apply s_store tab_ok; (iterate 10 (exact rfl))) | (apply s_not_t; (iterate 4 (exact rfl)))
      | (apply s_not_f; (iterate 4 (exact rfl))) | (apply s_not; (iterate 4 (exact rfl))) | (apply s_neq_t; (iterate 5 (exact rfl)); omega) | (apply s_neq_f; (iterate 5 (exact rfl)); omega) | (apply s_lss_t; (iterate 5 (exact rfl)); omega)
      | (apply s_lss_f; (iterate 5 (exact rfl)); omega) | (apply s_geq_t; (iterate 5 (exact rfl)); omega) | (apply s_geq_f; (iterate 5 (exact rfl)); omega) | (apply s_add64; (iterate 5 (exact rfl)); omega)
      | refine al_nil ?_ | refine q_then_n ?_ | refine q_blk_n ?_ | refine q_blk_r ?_ | refine q_blk_e ?_
      | refine q_blk_o rfl ?_ | refine q_then_e ?_ | refine aw_block ?_ | refine aw_exit ?_ | refine q_then_r ?_
      | refine aw_seq ?_ | refine aw_reg ?_ | refine aw_true rfl ?_ | refine aw_false rfl ?_ | refine aw_skip ?_
      | refine aw_ret ?_)
    exact q_ret rfl ⟨_, rfl, by rw [servesB_ok hp fun i hi => hp2 i (by omega)]⟩
end Go.Proofs.Ytjflembhgjcgkaa
