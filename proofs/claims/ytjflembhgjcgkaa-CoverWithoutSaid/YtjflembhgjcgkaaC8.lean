/- C8: Apart, of the document. -/
import Derived.Test.YtjflembhgjcgkaaXC3C4
set_option linter.unusedSimpArgs false
set_option linter.unusedVariables false
-- ALLUNDEF -- BOXZ
namespace Go.Proofs.Ytjflembhgjcgkaa
open Go.RowKit

section
variable {k n i a b c k' n' i' a' b' c' : Int} {s s' : ByteArray} {l l' : List Pat}

set_option maxRecDepth 100000 in
theorem rapart1_c (s1 : RunsP Try.prog 79 [.agg (patD (.mk k n i s a b c l))] (fun v => v = .v (.bool false))) : RunsP Try.prog 35 [.agg (patD (.mk k n i s a b c l)), .agg (patD (.mk k' n' i' s' a' b' c' l'))] (fun r => r = .v (.bool true)) := by
  refine enterP 73 Try.func35 rfl (by kernel_rfl) rfl rfl rfl ?_
  repeat' (first | refine s_op rfl ?_ | (apply s_skipV; (iterate 2 (exact rfl))) | (apply s_move; (iterate 4 (exact rfl))) | (apply s_ld_f tab_ok; (iterate 6 (exact rfl))) | (apply s_assign; (iterate 4 (exact rfl))) | (apply s_pick_t; (iterate 5 (exact rfl))) | (apply s_boxZ; (iterate 5 (exact rfl)); first | exact rfl | exact allD_mapd _) | (apply s_not_f; (iterate 4 (exact rfl))) | (apply s_call; (iterate 6 (exact rfl)); first | (exact s1; rintro _ rfl)) | refine al_nil ?_ | refine q_then_n ?_ | refine q_then_r ?_ | refine aw_seq ?_ | refine aw_reg ?_ | refine aw_true rfl ?_ | refine aw_ret ?_)
  exact q_ret rfl ⟨_, rfl, rfl⟩

set_option maxRecDepth 100000 in
theorem rapart2_c (s1 : RunsP Try.prog 79 [.agg (patD (.mk k n i s a b c l))] (fun v => v = .v (.bool true))) (s2 : RunsP Try.prog 79 [.agg (patD (.mk k' n' i' s' a' b' c' l'))] (fun v => v = .v (.bool false))) : RunsP Try.prog 35 [.agg (patD (.mk k n i s a b c l)), .agg (patD (.mk k' n' i' s' a' b' c' l'))] (fun r => r = .v (.bool true)) := by
  refine enterP 73 Try.func35 rfl (by kernel_rfl) rfl rfl rfl ?_
  repeat' (first | refine s_op rfl ?_ | (apply s_move; (iterate 4 (exact rfl))) | (apply s_ld_f tab_ok; (iterate 6 (exact rfl))) | (apply s_assign; (iterate 4 (exact rfl))) | (apply s_pick_f; (iterate 5 (exact rfl))) | (apply s_boxZ; (iterate 5 (exact rfl)); first | exact rfl | exact allD_mapd _) | (apply s_not_t; (iterate 4 (exact rfl))) | (apply s_not_f; (iterate 4 (exact rfl))) | (apply s_call; (iterate 6 (exact rfl)); first | (exact s1; rintro _ rfl) | (exact s2; rintro _ rfl)) | refine al_nil ?_ | refine q_then_n ?_ | refine q_then_r ?_ | refine aw_seq ?_ | refine aw_reg ?_ | refine aw_true rfl ?_ | refine aw_ret ?_)
  exact q_ret rfl ⟨_, rfl, rfl⟩

set_option maxRecDepth 100000 in
theorem rapart3_c (s1 : RunsP Try.prog 79 [.agg (patD (.mk k n i s a b c l))] (fun v => v = .v (.bool true))) (s2 : RunsP Try.prog 79 [.agg (patD (.mk k' n' i' s' a' b' c' l'))] (fun v => v = .v (.bool true))) (o1 : RunsP Try.prog 75 [.agg (patD (.mk k n i s a b c l))] (fun v => v = .v (.bool true))) : RunsP Try.prog 35 [.agg (patD (.mk k n i s a b c l)), .agg (patD (.mk k' n' i' s' a' b' c' l'))] (fun r => r = .v (.bool false)) := by
  refine enterP 73 Try.func35 rfl (by kernel_rfl) rfl rfl rfl ?_
  repeat' (first | refine s_op rfl ?_ | (apply s_skipV; (iterate 2 (exact rfl))) | (apply s_move; (iterate 4 (exact rfl))) | (apply s_ld_f tab_ok; (iterate 6 (exact rfl))) | (apply s_assign; (iterate 4 (exact rfl))) | (apply s_pick_t; (iterate 5 (exact rfl))) | (apply s_pick_f; (iterate 5 (exact rfl))) | (apply s_boxZ; (iterate 5 (exact rfl)); first | exact rfl | exact allD_mapd _) | (apply s_not_t; (iterate 4 (exact rfl))) | (apply s_call; (iterate 6 (exact rfl)); first | (exact s1; rintro _ rfl) | (exact s2; rintro _ rfl) | (exact o1; rintro _ rfl)) | refine al_nil ?_ | refine q_then_n ?_ | refine q_then_r ?_ | refine aw_seq ?_ | refine aw_reg ?_ | refine aw_true rfl ?_ | refine aw_false rfl ?_ | refine aw_skip ?_ | refine aw_ret ?_)
  exact q_ret rfl ⟨_, rfl, rfl⟩

set_option maxRecDepth 100000 in
theorem rapart4_c (s1 : RunsP Try.prog 79 [.agg (patD (.mk k n i s a b c l))] (fun v => v = .v (.bool true))) (s2 : RunsP Try.prog 79 [.agg (patD (.mk k' n' i' s' a' b' c' l'))] (fun v => v = .v (.bool true))) (o1 : RunsP Try.prog 75 [.agg (patD (.mk k n i s a b c l))] (fun v => v = .v (.bool false))) (o2 : RunsP Try.prog 75 [.agg (patD (.mk k' n' i' s' a' b' c' l'))] (fun v => v = .v (.bool true))) : RunsP Try.prog 35 [.agg (patD (.mk k n i s a b c l)), .agg (patD (.mk k' n' i' s' a' b' c' l'))] (fun r => r = .v (.bool false)) := by
  refine enterP 73 Try.func35 rfl (by kernel_rfl) rfl rfl rfl ?_
  repeat' (first | refine s_op rfl ?_ | (apply s_move; (iterate 4 (exact rfl))) | (apply s_ld_f tab_ok; (iterate 6 (exact rfl))) | (apply s_assign; (iterate 4 (exact rfl))) | (apply s_pick_f; (iterate 5 (exact rfl))) | (apply s_boxZ; (iterate 5 (exact rfl)); first | exact rfl | exact allD_mapd _) | (apply s_not_t; (iterate 4 (exact rfl))) | (apply s_call; (iterate 6 (exact rfl)); first | (exact s1; rintro _ rfl) | (exact s2; rintro _ rfl) | (exact o1; rintro _ rfl) | (exact o2; rintro _ rfl)) | refine al_nil ?_ | refine q_then_n ?_ | refine q_then_r ?_ | refine aw_seq ?_ | refine aw_reg ?_ | refine aw_true rfl ?_ | refine aw_false rfl ?_ | refine aw_skip ?_ | refine aw_ret ?_)
  exact q_ret rfl ⟨_, rfl, rfl⟩

set_option maxRecDepth 100000 in
theorem rapart5_c (s1 : RunsP Try.prog 79 [.agg (patD (.mk k n i s a b c l))] (fun v => v = .v (.bool true))) (s2 : RunsP Try.prog 79 [.agg (patD (.mk k' n' i' s' a' b' c' l'))] (fun v => v = .v (.bool true))) (o1 : RunsP Try.prog 75 [.agg (patD (.mk k n i s a b c l))] (fun v => v = .v (.bool false))) (o2 : RunsP Try.prog 75 [.agg (patD (.mk k' n' i' s' a' b' c' l'))] (fun v => v = .v (.bool false))) (hk : k ≠ k') : RunsP Try.prog 35 [.agg (patD (.mk k n i s a b c l)), .agg (patD (.mk k' n' i' s' a' b' c' l'))] (fun r => r = .v (.bool true)) := by
  refine enterP 73 Try.func35 rfl (by kernel_rfl) rfl rfl rfl ?_
  repeat' (first | refine s_op rfl ?_ | (apply s_move; (iterate 4 (exact rfl))) | (apply s_fa_f tab_ok; (iterate 6 (exact rfl))) | (apply s_ld_f tab_ok; (iterate 6 (exact rfl))) | (apply s_assign; (iterate 4 (exact rfl))) | (apply s_pick_f; (iterate 5 (exact rfl))) | (apply s_boxZ; (iterate 5 (exact rfl)); first | exact rfl | exact allD_mapd _) | (apply s_not_t; (iterate 4 (exact rfl))) | (apply s_neq_t; (iterate 5 (exact rfl)); omega) | (apply s_call; (iterate 6 (exact rfl)); first | (exact s1; rintro _ rfl) | (exact s2; rintro _ rfl) | (exact o1; rintro _ rfl) | (exact o2; rintro _ rfl)) | refine al_nil ?_ | refine q_then_n ?_ | refine q_then_r ?_ | refine aw_seq ?_ | refine aw_reg ?_ | refine aw_true rfl ?_ | refine aw_false rfl ?_ | refine aw_skip ?_ | refine aw_ret ?_)
  exact q_ret rfl ⟨_, rfl, rfl⟩

set_option maxRecDepth 100000 in
theorem rapart6a_c (s1 : RunsP Try.prog 79 [.agg (patD (.mk k n i s a b c l))] (fun v => v = .v (.bool true))) (s2 : RunsP Try.prog 79 [.agg (patD (.mk k' n' i' s' a' b' c' l'))] (fun v => v = .v (.bool true))) (o1 : RunsP Try.prog 75 [.agg (patD (.mk k n i s a b c l))] (fun v => v = .v (.bool false))) (o2 : RunsP Try.prog 75 [.agg (patD (.mk k' n' i' s' a' b' c' l'))] (fun v => v = .v (.bool false))) (hk : k = k') (h3 : k = 3) (hi : i ≠ i') : RunsP Try.prog 35 [.agg (patD (.mk k n i s a b c l)), .agg (patD (.mk k' n' i' s' a' b' c' l'))] (fun r => r = .v (.bool true)) := by
  refine enterP 73 Try.func35 rfl (by kernel_rfl) rfl rfl rfl ?_
  repeat' (first | refine s_op rfl ?_ | (apply s_move; (iterate 4 (exact rfl))) | (apply s_fa_f tab_ok; (iterate 6 (exact rfl))) | (apply s_ld_f tab_ok; (iterate 6 (exact rfl))) | (apply s_assign; (iterate 4 (exact rfl))) | (apply s_pick_f; (iterate 5 (exact rfl))) | (apply s_boxZ; (iterate 5 (exact rfl)); first | exact rfl | exact allD_mapd _) | (apply s_not_t; (iterate 4 (exact rfl))) | (apply s_eql_t; (iterate 5 (exact rfl)); omega) | (apply s_neq_t; (iterate 5 (exact rfl)); omega) | (apply s_neq_f; (iterate 5 (exact rfl)); omega) | (apply s_call; (iterate 6 (exact rfl)); first | (exact s1; rintro _ rfl) | (exact s2; rintro _ rfl) | (exact o1; rintro _ rfl) | (exact o2; rintro _ rfl)) | refine al_nil ?_ | refine q_then_n ?_ | refine q_blk_r ?_ | refine aw_block ?_ | refine q_then_r ?_ | refine aw_seq ?_ | refine aw_reg ?_ | refine aw_true rfl ?_ | refine aw_false rfl ?_ | refine aw_skip ?_ | refine aw_ret ?_)
  exact q_ret rfl ⟨_, rfl, rfl⟩

set_option maxRecDepth 100000 in
theorem rapart6b_c (s1 : RunsP Try.prog 79 [.agg (patD (.mk k n i s a b c l))] (fun v => v = .v (.bool true))) (s2 : RunsP Try.prog 79 [.agg (patD (.mk k' n' i' s' a' b' c' l'))] (fun v => v = .v (.bool true))) (o1 : RunsP Try.prog 75 [.agg (patD (.mk k n i s a b c l))] (fun v => v = .v (.bool false))) (o2 : RunsP Try.prog 75 [.agg (patD (.mk k' n' i' s' a' b' c' l'))] (fun v => v = .v (.bool false))) (hk : k = k') (h3 : k = 3) (hi : i = i') : RunsP Try.prog 35 [.agg (patD (.mk k n i s a b c l)), .agg (patD (.mk k' n' i' s' a' b' c' l'))] (fun r => r = .v (.bool false)) := by
  refine enterP 73 Try.func35 rfl (by kernel_rfl) rfl rfl rfl ?_
  repeat' (first | refine s_op rfl ?_ | (apply s_move; (iterate 4 (exact rfl))) | (apply s_fa_f tab_ok; (iterate 6 (exact rfl))) | (apply s_ld_f tab_ok; (iterate 6 (exact rfl))) | (apply s_assign; (iterate 4 (exact rfl))) | (apply s_pick_f; (iterate 5 (exact rfl))) | (apply s_boxZ; (iterate 5 (exact rfl)); first | exact rfl | exact allD_mapd _) | (apply s_not_t; (iterate 4 (exact rfl))) | (apply s_eql_t; (iterate 5 (exact rfl)); omega) | (apply s_neq_f; (iterate 5 (exact rfl)); omega) | (apply s_call; (iterate 6 (exact rfl)); first | (exact s1; rintro _ rfl) | (exact s2; rintro _ rfl) | (exact o1; rintro _ rfl) | (exact o2; rintro _ rfl)) | refine al_nil ?_ | refine q_then_n ?_ | refine q_blk_r ?_ | refine aw_block ?_ | refine q_then_r ?_ | refine aw_seq ?_ | refine aw_reg ?_ | refine aw_true rfl ?_ | refine aw_false rfl ?_ | refine aw_skip ?_ | refine aw_ret ?_)
  exact q_ret rfl ⟨_, rfl, rfl⟩

set_option maxRecDepth 100000 in
theorem rapart7a_c (s1 : RunsP Try.prog 79 [.agg (patD (.mk k n i s a b c l))] (fun v => v = .v (.bool true))) (s2 : RunsP Try.prog 79 [.agg (patD (.mk k' n' i' s' a' b' c' l'))] (fun v => v = .v (.bool true))) (o1 : RunsP Try.prog 75 [.agg (patD (.mk k n i s a b c l))] (fun v => v = .v (.bool false))) (o2 : RunsP Try.prog 75 [.agg (patD (.mk k' n' i' s' a' b' c' l'))] (fun v => v = .v (.bool false))) (hk : k = k') (h3 : k = 4) (hi : s ≠ s') : RunsP Try.prog 35 [.agg (patD (.mk k n i s a b c l)), .agg (patD (.mk k' n' i' s' a' b' c' l'))] (fun r => r = .v (.bool true)) := by
  refine enterP 73 Try.func35 rfl (by kernel_rfl) rfl rfl rfl ?_
  repeat' (first | refine s_op rfl ?_ | (apply s_move; (iterate 4 (exact rfl))) | (apply s_fa_f tab_ok; (iterate 6 (exact rfl))) | (apply s_ld_f tab_ok; (iterate 6 (exact rfl))) | (apply s_assign; (iterate 4 (exact rfl))) | (apply s_pick_f; (iterate 5 (exact rfl))) | (apply s_boxZ; (iterate 5 (exact rfl)); first | exact rfl | exact allD_mapd _) | (apply s_not_t; (iterate 4 (exact rfl))) | (apply s_eql_t; (iterate 5 (exact rfl)); omega) | (apply s_eql_f; (iterate 5 (exact rfl)); omega) | (apply s_neq_f; (iterate 5 (exact rfl)); omega) | (apply s_strne_t; (iterate 5 (exact rfl)); assumption) | (apply s_call; (iterate 6 (exact rfl)); first | (exact s1; rintro _ rfl) | (exact s2; rintro _ rfl) | (exact o1; rintro _ rfl) | (exact o2; rintro _ rfl)) | refine al_nil ?_ | refine q_then_n ?_ | refine q_blk_r ?_ | refine aw_block ?_ | refine q_then_r ?_ | refine aw_seq ?_ | refine aw_reg ?_ | refine aw_true rfl ?_ | refine aw_false rfl ?_ | refine aw_skip ?_ | refine aw_ret ?_)
  exact q_ret rfl ⟨_, rfl, rfl⟩

set_option maxRecDepth 100000 in
theorem rapart7b_c (s1 : RunsP Try.prog 79 [.agg (patD (.mk k n i s a b c l))] (fun v => v = .v (.bool true))) (s2 : RunsP Try.prog 79 [.agg (patD (.mk k' n' i' s' a' b' c' l'))] (fun v => v = .v (.bool true))) (o1 : RunsP Try.prog 75 [.agg (patD (.mk k n i s a b c l))] (fun v => v = .v (.bool false))) (o2 : RunsP Try.prog 75 [.agg (patD (.mk k' n' i' s' a' b' c' l'))] (fun v => v = .v (.bool false))) (hk : k = k') (h3 : k = 4) (hi : s = s') : RunsP Try.prog 35 [.agg (patD (.mk k n i s a b c l)), .agg (patD (.mk k' n' i' s' a' b' c' l'))] (fun r => r = .v (.bool false)) := by
  refine enterP 73 Try.func35 rfl (by kernel_rfl) rfl rfl rfl ?_
  repeat' (first | refine s_op rfl ?_ | (apply s_move; (iterate 4 (exact rfl))) | (apply s_fa_f tab_ok; (iterate 6 (exact rfl))) | (apply s_ld_f tab_ok; (iterate 6 (exact rfl))) | (apply s_assign; (iterate 4 (exact rfl))) | (apply s_pick_f; (iterate 5 (exact rfl))) | (apply s_boxZ; (iterate 5 (exact rfl)); first | exact rfl | exact allD_mapd _) | (apply s_not_t; (iterate 4 (exact rfl))) | (apply s_eql_t; (iterate 5 (exact rfl)); omega) | (apply s_eql_f; (iterate 5 (exact rfl)); omega) | (apply s_neq_f; (iterate 5 (exact rfl)); omega) | (apply s_strne_f; (iterate 5 (exact rfl)); assumption) | (apply s_call; (iterate 6 (exact rfl)); first | (exact s1; rintro _ rfl) | (exact s2; rintro _ rfl) | (exact o1; rintro _ rfl) | (exact o2; rintro _ rfl)) | refine al_nil ?_ | refine q_then_n ?_ | refine q_blk_r ?_ | refine aw_block ?_ | refine q_then_r ?_ | refine aw_seq ?_ | refine aw_reg ?_ | refine aw_true rfl ?_ | refine aw_false rfl ?_ | refine aw_skip ?_ | refine aw_ret ?_)
  exact q_ret rfl ⟨_, rfl, rfl⟩

set_option maxRecDepth 100000 in
theorem rapart8_c (s1 : RunsP Try.prog 79 [.agg (patD (.mk k n i s a b c l))] (fun v => v = .v (.bool true))) (s2 : RunsP Try.prog 79 [.agg (patD (.mk k' n' i' s' a' b' c' l'))] (fun v => v = .v (.bool true))) (o1 : RunsP Try.prog 75 [.agg (patD (.mk k n i s a b c l))] (fun v => v = .v (.bool false))) (o2 : RunsP Try.prog 75 [.agg (patD (.mk k' n' i' s' a' b' c' l'))] (fun v => v = .v (.bool false))) (hk : k = k') (h3 : k ≠ 3) (h4 : k ≠ 4) (hn : n ≠ n') : RunsP Try.prog 35 [.agg (patD (.mk k n i s a b c l)), .agg (patD (.mk k' n' i' s' a' b' c' l'))] (fun r => r = .v (.bool true)) := by
  refine enterP 73 Try.func35 rfl (by kernel_rfl) rfl rfl rfl ?_
  repeat' (first | refine s_op rfl ?_ | (apply s_skipV; (iterate 2 (exact rfl))) | (apply s_move; (iterate 4 (exact rfl))) | (apply s_fa_f tab_ok; (iterate 6 (exact rfl))) | (apply s_ld_f tab_ok; (iterate 6 (exact rfl))) | (apply s_assign; (iterate 4 (exact rfl))) | (apply s_pick_t; (iterate 5 (exact rfl))) | (apply s_pick_f; (iterate 5 (exact rfl))) | (apply s_boxZ; (iterate 5 (exact rfl)); first | exact rfl | exact allD_mapd _) | (apply s_not_t; (iterate 4 (exact rfl))) | (apply s_eql_f; (iterate 5 (exact rfl)); omega) | (apply s_neq_t; (iterate 5 (exact rfl)); omega) | (apply s_neq_f; (iterate 5 (exact rfl)); omega) | (apply s_call; (iterate 6 (exact rfl)); first | (exact s1; rintro _ rfl) | (exact s2; rintro _ rfl) | (exact o1; rintro _ rfl) | (exact o2; rintro _ rfl)) | refine al_nil ?_ | refine q_then_n ?_ | refine q_blk_n ?_ | refine aw_block ?_ | refine q_then_r ?_ | refine aw_seq ?_ | refine aw_reg ?_ | refine aw_true rfl ?_ | refine aw_false rfl ?_ | refine aw_skip ?_ | refine aw_ret ?_)
  exact q_ret rfl ⟨_, rfl, rfl⟩

set_option maxRecDepth 100000 in
theorem rapart9_c (s1 : RunsP Try.prog 79 [.agg (patD (.mk k n i s a b c l))] (fun v => v = .v (.bool true))) (s2 : RunsP Try.prog 79 [.agg (patD (.mk k' n' i' s' a' b' c' l'))] (fun v => v = .v (.bool true))) (o1 : RunsP Try.prog 75 [.agg (patD (.mk k n i s a b c l))] (fun v => v = .v (.bool false))) (o2 : RunsP Try.prog 75 [.agg (patD (.mk k' n' i' s' a' b' c' l'))] (fun v => v = .v (.bool false))) (hk : k = k') (h3 : k ≠ 3) (h4 : k ≠ 4) (hn : n = n') (hne : l.length ≠ l'.length) (hl : l.length ≤ 9223372036854775807) (hl2 : l'.length ≤ 9223372036854775807) : RunsP Try.prog 35 [.agg (patD (.mk k n i s a b c l)), .agg (patD (.mk k' n' i' s' a' b' c' l'))] (fun r => r = .v (.bool true)) := by
  have e1 := patR_len l
  have e2 := patR_len l'
  refine enterP 73 Try.func35 rfl (by kernel_rfl) rfl rfl rfl ?_
  repeat' (first | refine s_op rfl ?_ | (apply s_move; (iterate 4 (exact rfl))) | (apply s_fa_f tab_ok; (iterate 6 (exact rfl))) | (apply s_ld_f tab_ok; (iterate 6 (exact rfl))) | (apply s_assign; (iterate 4 (exact rfl))) | (apply s_pick_f; (iterate 5 (exact rfl))) | (apply s_len tab_ok; (iterate 5 (exact rfl))) | (apply s_boxZ; (iterate 5 (exact rfl)); first | exact rfl | exact allD_mapd _) | (apply s_not_t; (iterate 4 (exact rfl))) | (apply s_eql_f; (iterate 5 (exact rfl)); omega) | (apply s_neq_t; (iterate 5 (exact rfl)); omega) | (apply s_neq_f; (iterate 5 (exact rfl)); omega) | (apply s_call; (iterate 6 (exact rfl)); first | (exact s1; rintro _ rfl) | (exact s2; rintro _ rfl) | (exact o1; rintro _ rfl) | (exact o2; rintro _ rfl)) | refine al_nil ?_ | refine q_then_n ?_ | refine q_blk_n ?_ | refine aw_block ?_ | refine q_then_r ?_ | refine aw_seq ?_ | refine aw_reg ?_ | refine aw_true rfl ?_ | refine aw_false rfl ?_ | refine aw_skip ?_ | refine aw_ret ?_)
  exact q_ret rfl ⟨_, rfl, rfl⟩

set_option maxRecDepth 100000 in
theorem rapart10_c (s1 : RunsP Try.prog 79 [.agg (patD (.mk k n i s a b c l))] (fun v => v = .v (.bool true))) (s2 : RunsP Try.prog 79 [.agg (patD (.mk k' n' i' s' a' b' c' l'))] (fun v => v = .v (.bool true))) (o1 : RunsP Try.prog 75 [.agg (patD (.mk k n i s a b c l))] (fun v => v = .v (.bool false))) (o2 : RunsP Try.prog 75 [.agg (patD (.mk k' n' i' s' a' b' c' l'))] (fun v => v = .v (.bool false))) (hk : k = k') (h3 : k ≠ 3) (h4 : k ≠ 4) (hn : n = n') (he : l.length = l'.length) (hl : l.length ≤ 9223372036854775807) (hl2 : l'.length ≤ 9223372036854775807)
    (ih : ∀ p ∈ l, ∀ q ∈ l', RunsP Try.prog 35 [.agg (patD p), .agg (patD q)] (fun r => r = .v (.bool (apartB p q)))) : RunsP Try.prog 35 [.agg (patD (.mk k n i s a b c l)), .agg (patD (.mk k' n' i' s' a' b' c' l'))] (fun r => r = .v (.bool (apartL l l'))) := by
  have e1 := patR_len l
  have e2 := patR_len l'
  refine enterP 73 Try.func35 rfl (by kernel_rfl) rfl rfl rfl ?_
  repeat' (first | refine s_op rfl ?_ | (apply s_move; (iterate 4 (exact rfl))) | (apply s_fa_f tab_ok; (iterate 6 (exact rfl))) | (apply s_ld_f tab_ok; (iterate 6 (exact rfl))) | (apply s_assign; (iterate 4 (exact rfl))) | (apply s_pick_f; (iterate 5 (exact rfl))) | (apply s_len tab_ok; (iterate 5 (exact rfl))) | (apply s_boxZ; (iterate 5 (exact rfl)); first | exact rfl | exact allD_mapd _) | (apply s_not_t; (iterate 4 (exact rfl))) | (apply s_eql_f; (iterate 5 (exact rfl)); omega) | (apply s_neq_f; (iterate 5 (exact rfl)); omega) | (apply s_call; (iterate 6 (exact rfl)); first | (exact s1; rintro _ rfl) | (exact s2; rintro _ rfl) | (exact o1; rintro _ rfl) | (exact o2; rintro _ rfl)) | refine al_nil ?_ | refine q_then_n ?_ | refine q_blk_n ?_ | refine aw_block ?_ | refine aw_seq ?_ | refine aw_reg ?_ | refine aw_false rfl ?_ | refine aw_skip ?_)
  refine w_loop [2, 3, 5] (fun n0 vs' σ => ∃ j : Nat, vs' = [.d (.fptr (patD (.mk k n i s a b c l))), .d (.fptr (patD (.mk k' n' i' s' a' b' c' l'))), .d (.v (.int .i64 (j : Int)))] ∧ j ≤ l.length ∧ n0 = l.length - j ∧ apartL l l' = apartL (l.drop j) (l'.drop j)) rfl ⟨0, rfl, by omega, rfl, rfl⟩ ?_
  rintro n0 vs' σ ⟨j, rfl, hj, rfl, hs⟩ fr hfr
  cases hfr
  by_cases hlt : j < l.length
  · obtain ⟨q, hq⟩ := getS hlt
    obtain ⟨u, hu⟩ : ∃ u, l'[j]? = some u := getS (by omega)
    have hr := ih q (List.mem_of_getElem? hq) u (List.mem_of_getElem? hu)
    rw [apartL_drop hq hu] at hs
    cases hb2 : apartB q u <;> rw [hb2] at hr hs
    · repeat' (first | refine s_op rfl ?_ | (apply s_move; (iterate 4 (exact rfl))) | (apply s_fa_f tab_ok; (iterate 6 (exact rfl))) | (apply s_ld_f tab_ok; (iterate 6 (exact rfl))) | (apply s_ld_w tab_ok; (iterate 5 (exact rfl)); (first | exact patD_len _ | exact valD_len _)) | (apply s_assign; (iterate 4 (exact rfl))) | (apply s_len tab_ok; (iterate 5 (exact rfl))) | (apply s_idx tab_ok; (iterate 7 (exact rfl)); (first | exact patR_get (by assumption) | exact valR_get (by assumption) | exact row_map (by assumption) | assumption)) | (apply s_lss_t; (iterate 5 (exact rfl)); omega) | (apply s_add64; (iterate 5 (exact rfl)); omega) | (apply s_call; (iterate 6 (exact rfl)); first | (exact hr; rintro _ rfl)) | refine al_nil ?_ | refine q_then_n ?_ | refine q_blk_n ?_ | refine aw_block ?_ | refine aw_seq ?_ | refine aw_reg ?_ | refine aw_true rfl ?_ | refine aw_false rfl ?_ | refine aw_skip ?_ | refine aw_draws (id := 17) (trO [0, 1, 2, 3, 4, 5, 6, 7, 8, 9, 10] .nil) [10] [] mixed_ok (by kernel_rfl) ?_)
      exact ⟨_, _, rfl, by omega, j + 1, rfl, by omega, rfl, by simpa using hs⟩
    · repeat' (first | refine s_op rfl ?_ | (apply s_move; (iterate 4 (exact rfl))) | (apply s_fa_f tab_ok; (iterate 6 (exact rfl))) | (apply s_ld_f tab_ok; (iterate 6 (exact rfl))) | (apply s_ld_w tab_ok; (iterate 5 (exact rfl)); (first | exact patD_len _ | exact valD_len _)) | (apply s_assign; (iterate 4 (exact rfl))) | (apply s_len tab_ok; (iterate 5 (exact rfl))) | (apply s_idx tab_ok; (iterate 7 (exact rfl)); (first | exact patR_get (by assumption) | exact valR_get (by assumption) | exact row_map (by assumption) | assumption)) | (apply s_lss_t; (iterate 5 (exact rfl)); omega) | (apply s_call; (iterate 6 (exact rfl)); first | (exact hr; rintro _ rfl)) | refine al_nil ?_ | refine q_then_n ?_ | refine q_blk_r ?_ | refine aw_block ?_ | refine q_then_r ?_ | refine aw_seq ?_ | refine aw_reg ?_ | refine aw_true rfl ?_ | refine aw_skip ?_ | refine aw_ret ?_ | refine aw_draws (id := 17) (trO [0, 1, 2, 3, 4, 5, 6, 7, 8, 9, 10] .nil) [10] [] mixed_ok (by kernel_rfl) ?_)
      exact q_ret rfl ⟨_, rfl, by simp [hs]⟩
  · have : l.drop j = [] := List.drop_eq_nil_of_le (by omega)
    rw [this] at hs
    repeat' (first | refine s_op rfl ?_ | (apply s_move; (iterate 4 (exact rfl))) | (apply s_fa_f tab_ok; (iterate 6 (exact rfl))) | (apply s_ld_f tab_ok; (iterate 6 (exact rfl))) | (apply s_assign; (iterate 4 (exact rfl))) | (apply s_len tab_ok; (iterate 5 (exact rfl))) | (apply s_lss_f; (iterate 5 (exact rfl)); omega) | refine al_nil ?_ | refine q_then_n ?_ | refine q_blk_e ?_ | refine q_then_e ?_ | refine aw_exit ?_ | refine aw_seq ?_ | refine aw_reg ?_ | refine aw_false rfl ?_ | refine aw_ret ?_)
    exact q_ret rfl ⟨_, rfl, by simp [hs, apartL]⟩
end

theorem rapart_c (m : Nat) (hm : m ≤ 9223372036854775807) : ∀ p : Pat, p.small m → ∀ q : Pat, q.small m → RunsP Try.prog 35 [.agg (patD p), .agg (patD q)] (fun r => r = .v (.bool (apartB p q))) := by
  refine rec_pat fun k n i s a b c l ih hp q hq => ?_
  obtain ⟨k', n', i', s', a', b', c', l'⟩ := q
  have hl : l.length ≤ m := hp.1
  have hl' : l'.length ≤ m := hq.1
  have s1 := some_c m hm _ hp
  have s2 := some_c m hm _ hq
  have o1 := open_c (.mk k n i s a b c l)
  have o2 := open_c (.mk k' n' i' s' a' b' c' l')
  simp only [apartB]
  cases hs1 : someB (.mk k n i s a b c l) <;> rw [hs1] at s1
  · rw [if_pos (.inl rfl)]; exact rapart1_c s1
  cases hs2 : someB (.mk k' n' i' s' a' b' c' l') <;> rw [hs2] at s2
  · rw [if_pos (.inr rfl)]; exact rapart2_c s1 s2
  rw [if_neg (by simp)]
  by_cases h1 : k = 1 ∨ k = 2
  · rw [if_pos (.inl h1)]
    rw [show openB (.mk k n i s a b c l) = true from decide_eq_true h1] at o1
    exact rapart3_c s1 s2 o1
  rw [show openB (.mk k n i s a b c l) = false from decide_eq_false h1] at o1
  by_cases h2 : k' = 1 ∨ k' = 2
  · rw [if_pos (.inr h2)]
    rw [show openB (.mk k' n' i' s' a' b' c' l') = true from decide_eq_true h2] at o2
    exact rapart4_c s1 s2 o1 o2
  rw [show openB (.mk k' n' i' s' a' b' c' l') = false from decide_eq_false h2] at o2
  rw [if_neg (by simp only [h1, h2, or_self, not_false_eq_true])]
  by_cases hk : k = k'
  · rw [if_neg (by omega)]
    by_cases h3 : k = 3
    · rw [if_pos h3]
      by_cases hi : i = i'
      · rw [decide_eq_false (by simpa using hi)]; exact rapart6b_c s1 s2 o1 o2 hk h3 hi
      · rw [decide_eq_true hi]; exact rapart6a_c s1 s2 o1 o2 hk h3 hi
    rw [if_neg h3]
    by_cases h4 : k = 4
    · rw [if_pos h4]
      by_cases hi : s = s'
      · rw [decide_eq_false (by simpa using hi)]; exact rapart7b_c s1 s2 o1 o2 hk h4 hi
      · rw [decide_eq_true hi]; exact rapart7a_c s1 s2 o1 o2 hk h4 hi
    rw [if_neg h4]
    by_cases hn : n = n'
    · by_cases he : l.length = l'.length
      · rw [if_neg (by omega)]
        exact rapart10_c s1 s2 o1 o2 hk h3 h4 hn he (by omega) (by omega) fun p hp' q hq' => ih p hp' (Pat.smallL_mem hp.2.2 p hp') q (Pat.smallL_mem hq.2.2 q hq')
      · rw [if_pos (.inr he)]; exact rapart9_c s1 s2 o1 o2 hk h3 h4 hn he (by omega) (by omega)
    · rw [if_pos (.inl hn)]; exact rapart8_c s1 s2 o1 o2 hk h3 h4 hn
  · rw [if_pos hk]; exact rapart5_c s1 s2 o1 o2 hk
end Go.Proofs.Ytjflembhgjcgkaa

