/- C11: of the document: how often, a signature serves; Kids. -/
import Derived.Test.YtjflembhgjcgkaaXC3C4
import Derived.Test.YtjflembhgjcgkaaXM3C12
set_option linter.unusedSimpArgs false
set_option linter.unusedVariables false
-- ALLUNDEF -- BOXZ
namespace Go.Proofs.Ytjflembhgjcgkaa
open Go.RowKit

theorem count_next {l : List Int} {j : Nat} {y : Int} (x : Int) (hy : l[j]? = some y) : (l.take (j + 1)).count x = (l.take j).count x + (if y = x then 1 else 0) := by
  rw [List.take_add_one, hy, List.count_append]
  simp [List.count_cons]

set_option maxRecDepth 100000 in
theorem times_c (l : List Int) (x : Int) (hl : l.length ≤ 1000000000) : RunsP Try.prog 69 [intsD l, .v (.int .i64 x)] (fun v => v = .v (.int .i64 ((l.count x : Nat) : Int))) := by
  have e1 : (l.map intRow).length = l.length := by simp
  refine enterP 22 Try.func69 rfl (by kernel_rfl) rfl rfl rfl ?_
  repeat' (first | refine s_op rfl ?_ | (apply s_assign; (iterate 4 (exact rfl))) | refine al_nil ?_ | refine q_then_n ?_ | refine aw_block ?_ | refine aw_seq ?_ | refine aw_reg ?_)
  refine w_loop [0, 1, 5, 6] (fun n vs σ => ∃ k : Nat, vs = [.d (intsD l), .d (.v (.int .i64 x)), .d (.v (.int .i64 (((l.take k).count x : Nat) : Int))), .d (.v (.int .i64 (k : Int)))] ∧ σ = [] ∧ k ≤ l.length ∧ n = l.length - k) rfl ⟨0, rfl, rfl, by omega, rfl⟩ ?_
  rintro n vs σ ⟨k, rfl, rfl, hk, rfl⟩ fr hfr
  cases hfr
  have hcl : (l.take k).count x ≤ 1000000000 := Nat.le_trans List.count_le_length (by rw [List.length_take]; omega)
  by_cases hlt : k < l.length
  · obtain ⟨y, hy⟩ := getS hlt
    have hn := count_next x hy
    by_cases hxy : y = x
    · rw [if_pos hxy] at hn
      repeat' (first | refine s_op rfl ?_ | (apply s_move; (iterate 4 (exact rfl))) | (apply s_ld_f tab_ok; (iterate 6 (exact rfl))) | (apply s_assign; (iterate 4 (exact rfl))) | (apply s_len tab_ok; (iterate 5 (exact rfl))) | (apply s_idx tab_ok; (iterate 7 (exact rfl)); (first | exact patR_get (by assumption) | exact valR_get (by assumption) | exact row_map (by assumption) | assumption)) | (apply s_eql_t; (iterate 5 (exact rfl)); omega) | (apply s_lss_t; (iterate 5 (exact rfl)); omega) | (apply s_add64; (iterate 5 (exact rfl)); omega) | refine al_nil ?_ | refine q_then_n ?_ | refine q_blk_n ?_ | refine aw_block ?_ | refine aw_seq ?_ | refine aw_reg ?_ | refine aw_true rfl ?_ | refine aw_skip ?_)
      exact ⟨_, _, rfl, by omega, k + 1, by rw [hn]; rfl, rfl, by omega, rfl⟩
    · rw [if_neg hxy] at hn
      repeat' (first | refine s_op rfl ?_ | (apply s_move; (iterate 4 (exact rfl))) | (apply s_ld_f tab_ok; (iterate 6 (exact rfl))) | (apply s_assign; (iterate 4 (exact rfl))) | (apply s_len tab_ok; (iterate 5 (exact rfl))) | (apply s_idx tab_ok; (iterate 7 (exact rfl)); (first | exact patR_get (by assumption) | exact valR_get (by assumption) | exact row_map (by assumption) | assumption)) | (apply s_eql_f; (iterate 5 (exact rfl)); omega) | (apply s_lss_t; (iterate 5 (exact rfl)); omega) | (apply s_add64; (iterate 5 (exact rfl)); omega) | refine al_nil ?_ | refine q_then_n ?_ | refine q_blk_n ?_ | refine aw_block ?_ | refine aw_seq ?_ | refine aw_reg ?_ | refine aw_true rfl ?_ | refine aw_false rfl ?_ | refine aw_skip ?_)
      exact ⟨_, _, rfl, by omega, k + 1, by rw [hn]; rfl, rfl, by omega, rfl⟩
  · repeat' (first | refine s_op rfl ?_ | (apply s_move; (iterate 4 (exact rfl))) | (apply s_assign; (iterate 4 (exact rfl))) | (apply s_len tab_ok; (iterate 5 (exact rfl))) | (apply s_lss_f; (iterate 5 (exact rfl)); omega) | refine al_nil ?_ | refine q_then_n ?_ | refine q_blk_e ?_ | refine q_then_e ?_ | refine aw_exit ?_ | refine aw_seq ?_ | refine aw_reg ?_ | refine aw_false rfl ?_ | refine aw_ret ?_)
    exact q_ret rfl ⟨_, rfl, by rw [List.take_of_length_le (by omega)]⟩

set_option maxRecDepth 100000 in
set_option maxHeartbeats 4000000 in
theorem rserves_c (g : Sg) (hs : g.Small) : RunsP Try.prog 25 [.agg (sigD g)] (fun v => v = .v (.bool (servesB g))) := by
  rw [← servesR_eq]
  have l1 := hs.cons
  have l2 := hs.datas
  have e1 : (g.cons.map conD).length = g.cons.length := by simp
  have e2 : (g.datas.map dataD).length = g.datas.length := by simp
  refine enterP 88 Try.func25 rfl (by kernel_rfl) rfl rfl rfl ?_
  repeat' (first | refine s_op rfl ?_ | (apply s_assign; (iterate 4 (exact rfl))) | (apply s_boxZ; (iterate 5 (exact rfl)); first | exact rfl | exact allD_mapd _) | refine al_nil ?_ | refine q_then_n ?_ | refine aw_block ?_ | refine aw_seq ?_ | refine aw_reg ?_)
  refine w_loop [1, 3] (fun n vs σ => ∃ k : Nat, vs = [.d (.fptr (sigD g)), .d (.v (.int .i64 (k : Int)))] ∧ k ≤ g.cons.length ∧ n = g.cons.length - k ∧ ∀ i, i < k → conRowR g i = true) rfl ⟨0, rfl, by omega, rfl, fun i hi => absurd hi (Nat.not_lt_zero i)⟩ ?_
  rintro n vs σ ⟨k, rfl, hk, rfl, hp⟩ fr hfr
  cases hfr
  by_cases hlt : k < g.cons.length
  · obtain ⟨⟨nm, dt, fs, ms⟩, hq⟩ := getS hlt
    by_cases d0 : dt < 0
    · repeat' (first | refine s_op rfl ?_ | (apply s_skipV; (iterate 2 (exact rfl))) | (apply s_move; (iterate 4 (exact rfl))) | (apply s_fa_f tab_ok; (iterate 6 (exact rfl))) | (apply s_ld_f tab_ok; (iterate 6 (exact rfl))) | (apply s_assign; (iterate 4 (exact rfl))) | (apply s_pick_t; (iterate 5 (exact rfl))) | (apply s_len tab_ok; (iterate 5 (exact rfl))) | (apply s_idx tab_ok; (iterate 7 (exact rfl)); (first | exact patR_get (by assumption) | exact valR_get (by assumption) | exact row_map (by assumption) | assumption)) | (apply s_lss_t; (iterate 5 (exact rfl)); omega) | refine al_nil ?_ | refine q_then_n ?_ | refine q_blk_r ?_ | refine aw_block ?_ | refine q_then_r ?_ | refine aw_seq ?_ | refine aw_reg ?_ | refine aw_true rfl ?_ | refine aw_skip ?_ | refine aw_ret ?_)
      exact q_ret rfl ⟨_, rfl, by rw [servesR_con hlt (conRowR_neg hq d0)]⟩
    obtain ⟨m, rfl⟩ : ∃ m : Nat, dt = m := ⟨dt.toNat, by omega⟩
    by_cases dm : m < g.datas.length
    · obtain ⟨⟨dn, dp, dc⟩, hd⟩ := getS dm
      have hcc := times_c dc (k : Int) (hs.each _ (List.mem_of_getElem? hd))
      by_cases hm : dc.count (k : Int) = 1
      · rw [hm] at hcc
        repeat' (first | refine s_op rfl ?_ | (apply s_move; (iterate 4 (exact rfl))) | (apply s_fa_f tab_ok; (iterate 6 (exact rfl))) | (apply s_ld_f tab_ok; (iterate 6 (exact rfl))) | (apply s_assign; (iterate 4 (exact rfl))) | (apply s_pick_f; (iterate 5 (exact rfl))) | (apply s_len tab_ok; (iterate 5 (exact rfl))) | (apply s_idx tab_ok; (iterate 7 (exact rfl)); (first | exact patR_get (by assumption) | exact valR_get (by assumption) | exact row_map (by assumption) | assumption)) | (apply s_neq_f; (iterate 5 (exact rfl)); omega) | (apply s_lss_t; (iterate 5 (exact rfl)); omega) | (apply s_lss_f; (iterate 5 (exact rfl)); omega) | (apply s_geq_f; (iterate 5 (exact rfl)); omega) | (apply s_add64; (iterate 5 (exact rfl)); omega) | (apply s_call; (iterate 6 (exact rfl)); first | (exact hcc; rintro _ rfl)) | refine al_nil ?_ | refine q_then_n ?_ | refine q_blk_n ?_ | refine aw_block ?_ | refine aw_seq ?_ | refine aw_reg ?_ | refine aw_true rfl ?_ | refine aw_false rfl ?_ | refine aw_skip ?_)
        exact ⟨_, _, rfl, by omega, k + 1, rfl, by omega, rfl, upto_next hp (by rw [conRowR_at hq rfl hd]; simp [hm])⟩
      · repeat' (first | refine s_op rfl ?_ | (apply s_move; (iterate 4 (exact rfl))) | (apply s_fa_f tab_ok; (iterate 6 (exact rfl))) | (apply s_ld_f tab_ok; (iterate 6 (exact rfl))) | (apply s_assign; (iterate 4 (exact rfl))) | (apply s_pick_f; (iterate 5 (exact rfl))) | (apply s_len tab_ok; (iterate 5 (exact rfl))) | (apply s_idx tab_ok; (iterate 7 (exact rfl)); (first | exact patR_get (by assumption) | exact valR_get (by assumption) | exact row_map (by assumption) | assumption)) | (apply s_neq_t; (iterate 5 (exact rfl)); omega) | (apply s_lss_t; (iterate 5 (exact rfl)); omega) | (apply s_lss_f; (iterate 5 (exact rfl)); omega) | (apply s_geq_f; (iterate 5 (exact rfl)); omega) | (apply s_call; (iterate 6 (exact rfl)); first | (exact hcc; rintro _ rfl)) | refine al_nil ?_ | refine q_then_n ?_ | refine q_blk_r ?_ | refine aw_block ?_ | refine q_then_r ?_ | refine aw_seq ?_ | refine aw_reg ?_ | refine aw_true rfl ?_ | refine aw_skip ?_ | refine aw_ret ?_)
        exact q_ret rfl ⟨_, rfl, by rw [servesR_con hlt (by rw [conRowR_at hq rfl hd]; simp [hm])]⟩
    · repeat' (first | refine s_op rfl ?_ | (apply s_skipV; (iterate 2 (exact rfl))) | (apply s_move; (iterate 4 (exact rfl))) | (apply s_fa_f tab_ok; (iterate 6 (exact rfl))) | (apply s_ld_f tab_ok; (iterate 6 (exact rfl))) | (apply s_assign; (iterate 4 (exact rfl))) | (apply s_pick_t; (iterate 5 (exact rfl))) | (apply s_pick_f; (iterate 5 (exact rfl))) | (apply s_len tab_ok; (iterate 5 (exact rfl))) | (apply s_idx tab_ok; (iterate 7 (exact rfl)); (first | exact patR_get (by assumption) | exact valR_get (by assumption) | exact row_map (by assumption) | assumption)) | (apply s_lss_t; (iterate 5 (exact rfl)); omega) | (apply s_lss_f; (iterate 5 (exact rfl)); omega) | (apply s_geq_t; (iterate 5 (exact rfl)); omega) | refine al_nil ?_ | refine q_then_n ?_ | refine q_blk_r ?_ | refine aw_block ?_ | refine q_then_r ?_ | refine aw_seq ?_ | refine aw_reg ?_ | refine aw_true rfl ?_ | refine aw_skip ?_ | refine aw_ret ?_)
      exact q_ret rfl ⟨_, rfl, by rw [servesR_con hlt (conRowR_far hq rfl dm)]⟩
  have hk : k = g.cons.length := by omega
  subst hk
  repeat' (first | refine s_op rfl ?_ | (apply s_move; (iterate 4 (exact rfl))) | (apply s_fa_f tab_ok; (iterate 6 (exact rfl))) | (apply s_ld_f tab_ok; (iterate 6 (exact rfl))) | (apply s_assign; (iterate 4 (exact rfl))) | (apply s_len tab_ok; (iterate 5 (exact rfl))) | (apply s_lss_f; (iterate 5 (exact rfl)); omega) | refine al_nil ?_ | refine q_then_n ?_ | refine q_blk_e ?_ | refine q_then_e ?_ | refine aw_block ?_ | refine aw_exit ?_ | refine aw_seq ?_ | refine aw_reg ?_ | refine aw_false rfl ?_)
  clear hlt
  refine w_loop [1, 5] (fun n vs σ => ∃ k : Nat, vs = [.d (.fptr (sigD g)), .d (.v (.int .i64 (k : Int)))] ∧ k ≤ g.datas.length ∧ n = g.datas.length - k ∧ ∀ i, i < k → datRowR g i = true) rfl ⟨0, rfl, by omega, rfl, fun i hi => absurd hi (Nat.not_lt_zero i)⟩ ?_
  rintro n vs σ ⟨k, rfl, hk, rfl, hp2⟩ fr hfr
  cases hfr
  by_cases hlt : k < g.datas.length
  · obtain ⟨⟨dn, dp, dc⟩, hq⟩ := getS hlt
    have l3 : dc.length ≤ 1000000000 := hs.each _ (List.mem_of_getElem? hq)
    have e3 : (dc.map intRow).length = dc.length := by simp
    repeat' (first | refine s_op rfl ?_ | (apply s_move; (iterate 4 (exact rfl))) | (apply s_fa_f tab_ok; (iterate 6 (exact rfl))) | (apply s_ld_f tab_ok; (iterate 6 (exact rfl))) | (apply s_assign; (iterate 4 (exact rfl))) | (apply s_len tab_ok; (iterate 5 (exact rfl))) | (apply s_idx tab_ok; (iterate 7 (exact rfl)); (first | exact patR_get (by assumption) | exact valR_get (by assumption) | exact row_map (by assumption) | assumption)) | (apply s_lss_t; (iterate 5 (exact rfl)); omega) | refine al_nil ?_ | refine q_then_n ?_ | refine aw_block ?_ | refine aw_seq ?_ | refine aw_reg ?_ | refine aw_true rfl ?_ | refine aw_skip ?_)
    refine w_loop [1, 5, 6, 7] (fun n vs σ => ∃ j : Nat, vs = [.d (.fptr (sigD g)), .d (.v (.int .i64 (k : Int))), .d (intsD dc), .d (.v (.int .i64 (j : Int)))] ∧ j ≤ dc.length ∧ n = dc.length - j ∧ ∀ i, i < j → datInR g k ⟨dn, dp, dc⟩ i = true) rfl ⟨0, rfl, by omega, rfl, fun i hi => absurd hi (Nat.not_lt_zero i)⟩ ?_
    rintro n vs σ ⟨j, rfl, hj, rfl, hp3⟩ fr hfr
    cases hfr
    by_cases hjl : j < dc.length
    · obtain ⟨x, hx⟩ := getS hjl
      by_cases d0 : x < 0
      · repeat' (first | refine s_op rfl ?_ | (apply s_skipV; (iterate 2 (exact rfl))) | (apply s_move; (iterate 4 (exact rfl))) | (apply s_ld_f tab_ok; (iterate 6 (exact rfl))) | (apply s_assign; (iterate 4 (exact rfl))) | (apply s_pick_t; (iterate 5 (exact rfl))) | (apply s_len tab_ok; (iterate 5 (exact rfl))) | (apply s_idx tab_ok; (iterate 7 (exact rfl)); (first | exact patR_get (by assumption) | exact valR_get (by assumption) | exact row_map (by assumption) | assumption)) | (apply s_lss_t; (iterate 5 (exact rfl)); omega) | refine al_nil ?_ | refine q_then_n ?_ | refine q_blk_r ?_ | refine aw_block ?_ | refine q_then_r ?_ | refine aw_seq ?_ | refine aw_reg ?_ | refine aw_true rfl ?_ | refine aw_skip ?_ | refine aw_ret ?_ | refine aw_draws (id := 14) (trO [0, 1, 2, 3, 4, 5, 6, 7, 8, 9, 10, 11, 12, 13, 14, 15, 16, 17, 18, 19, 20, 21, 22, 23, 24, 25, 26, 27] .nil) [] [] mixed_ok (by kernel_rfl) ?_)
        exact q_ret rfl ⟨_, rfl, by rw [servesR_dat hq hjl (datInR_neg (g := g) (n := k) (d := ⟨dn, dp, dc⟩) hx d0)]⟩
      obtain ⟨m, rfl⟩ : ∃ m : Nat, x = m := ⟨x.toNat, by omega⟩
      by_cases dm : m < g.cons.length
      · obtain ⟨⟨nm, dt, fs, ms⟩, hcn⟩ := getS dm
        have hin := datInR_at (g := g) (n := k) (d := ⟨dn, dp, dc⟩) hx rfl hcn
        by_cases hdt : dt = k
        · subst hdt
          repeat' (first | refine s_op rfl ?_ | (apply s_move; (iterate 4 (exact rfl))) | (apply s_fa_f tab_ok; (iterate 6 (exact rfl))) | (apply s_ld_f tab_ok; (iterate 6 (exact rfl))) | (apply s_assign; (iterate 4 (exact rfl))) | (apply s_pick_f; (iterate 5 (exact rfl))) | (apply s_len tab_ok; (iterate 5 (exact rfl))) | (apply s_idx tab_ok; (iterate 7 (exact rfl)); (first | exact patR_get (by assumption) | exact valR_get (by assumption) | exact row_map (by assumption) | assumption)) | (apply s_neq_f; (iterate 5 (exact rfl)); omega) | (apply s_lss_t; (iterate 5 (exact rfl)); omega) | (apply s_lss_f; (iterate 5 (exact rfl)); omega) | (apply s_geq_f; (iterate 5 (exact rfl)); omega) | (apply s_add64; (iterate 5 (exact rfl)); omega) | refine al_nil ?_ | refine q_then_n ?_ | refine q_blk_n ?_ | refine aw_block ?_ | refine aw_seq ?_ | refine aw_reg ?_ | refine aw_true rfl ?_ | refine aw_false rfl ?_ | refine aw_skip ?_ | refine aw_draws (id := 14) (trO [0, 1, 2, 3, 4, 5, 6, 7, 8, 9, 10, 11, 12, 13, 14, 15, 16, 17, 18, 19, 20, 21, 22, 23, 24, 25, 26, 27] .nil) [] [] mixed_ok (by kernel_rfl) ?_)
          exact ⟨_, _, rfl, by omega, j + 1, rfl, by omega, rfl, upto_next hp3 (by rw [hin]; simp)⟩
        · repeat' (first | refine s_op rfl ?_ | (apply s_move; (iterate 4 (exact rfl))) | (apply s_fa_f tab_ok; (iterate 6 (exact rfl))) | (apply s_ld_f tab_ok; (iterate 6 (exact rfl))) | (apply s_assign; (iterate 4 (exact rfl))) | (apply s_pick_f; (iterate 5 (exact rfl))) | (apply s_len tab_ok; (iterate 5 (exact rfl))) | (apply s_idx tab_ok; (iterate 7 (exact rfl)); (first | exact patR_get (by assumption) | exact valR_get (by assumption) | exact row_map (by assumption) | assumption)) | (apply s_neq_t; (iterate 5 (exact rfl)); omega) | (apply s_lss_t; (iterate 5 (exact rfl)); omega) | (apply s_lss_f; (iterate 5 (exact rfl)); omega) | (apply s_geq_f; (iterate 5 (exact rfl)); omega) | refine al_nil ?_ | refine q_then_n ?_ | refine q_blk_r ?_ | refine aw_block ?_ | refine q_then_r ?_ | refine aw_seq ?_ | refine aw_reg ?_ | refine aw_true rfl ?_ | refine aw_skip ?_ | refine aw_ret ?_ | refine aw_draws (id := 14) (trO [0, 1, 2, 3, 4, 5, 6, 7, 8, 9, 10, 11, 12, 13, 14, 15, 16, 17, 18, 19, 20, 21, 22, 23, 24, 25, 26, 27] .nil) [] [] mixed_ok (by kernel_rfl) ?_)
          exact q_ret rfl ⟨_, rfl, by rw [servesR_dat hq hjl (by rw [hin]; simp [hdt])]⟩
      · repeat' (first | refine s_op rfl ?_ | (apply s_skipV; (iterate 2 (exact rfl))) | (apply s_move; (iterate 4 (exact rfl))) | (apply s_fa_f tab_ok; (iterate 6 (exact rfl))) | (apply s_ld_f tab_ok; (iterate 6 (exact rfl))) | (apply s_assign; (iterate 4 (exact rfl))) | (apply s_pick_t; (iterate 5 (exact rfl))) | (apply s_pick_f; (iterate 5 (exact rfl))) | (apply s_len tab_ok; (iterate 5 (exact rfl))) | (apply s_idx tab_ok; (iterate 7 (exact rfl)); (first | exact patR_get (by assumption) | exact valR_get (by assumption) | exact row_map (by assumption) | assumption)) | (apply s_lss_t; (iterate 5 (exact rfl)); omega) | (apply s_lss_f; (iterate 5 (exact rfl)); omega) | (apply s_geq_t; (iterate 5 (exact rfl)); omega) | refine al_nil ?_ | refine q_then_n ?_ | refine q_blk_r ?_ | refine aw_block ?_ | refine q_then_r ?_ | refine aw_seq ?_ | refine aw_reg ?_ | refine aw_true rfl ?_ | refine aw_skip ?_ | refine aw_ret ?_ | refine aw_draws (id := 14) (trO [0, 1, 2, 3, 4, 5, 6, 7, 8, 9, 10, 11, 12, 13, 14, 15, 16, 17, 18, 19, 20, 21, 22, 23, 24, 25, 26, 27] .nil) [] [] mixed_ok (by kernel_rfl) ?_)
        exact q_ret rfl ⟨_, rfl, by rw [servesR_dat hq hjl (datInR_far (g := g) (n := k) (d := ⟨dn, dp, dc⟩) hx rfl dm)]⟩
    · repeat' (first | refine s_op rfl ?_ | (apply s_move; (iterate 4 (exact rfl))) | (apply s_assign; (iterate 4 (exact rfl))) | (apply s_len tab_ok; (iterate 5 (exact rfl))) | (apply s_lss_f; (iterate 5 (exact rfl)); omega) | (apply s_add64; (iterate 5 (exact rfl)); omega) | refine al_nil ?_ | refine q_then_n ?_ | refine q_blk_n ?_ | refine q_blk_e ?_ | refine q_then_e ?_ | refine aw_exit ?_ | refine aw_seq ?_ | refine aw_reg ?_ | refine aw_false rfl ?_)
      exact ⟨_, _, rfl, by omega, k + 1, rfl, by omega, rfl, upto_next hp2 (datRowR_ok hq fun i hi => hp3 i (by simp only at hi; omega))⟩
  · repeat' (first | refine s_op rfl ?_ | (apply s_move; (iterate 4 (exact rfl))) | (apply s_fa_f tab_ok; (iterate 6 (exact rfl))) | (apply s_ld_f tab_ok; (iterate 6 (exact rfl))) | (apply s_assign; (iterate 4 (exact rfl))) | (apply s_len tab_ok; (iterate 5 (exact rfl))) | (apply s_lss_f; (iterate 5 (exact rfl)); omega) | refine al_nil ?_ | refine q_then_n ?_ | refine q_blk_e ?_ | refine q_then_e ?_ | refine aw_exit ?_ | refine aw_seq ?_ | refine aw_reg ?_ | refine aw_false rfl ?_ | refine aw_ret ?_)
    exact q_ret rfl ⟨_, rfl, by rw [servesR_ok hp fun i hi => hp2 i (by omega)]⟩

end Go.Proofs.Ytjflembhgjcgkaa
