/- C5: Fits, of the program. -/
import Derived.Test.YtjflembhgjcgkaaTP10XC3C4
set_option linter.unusedSimpArgs false
set_option linter.unusedVariables false
namespace Go.Proofs.Ytjflembhgjcgkaa
open Go.RowKit

theorem fitsL_eq {k n i a b c vk vn : Int} {s vs : ByteArray} {l : List Pat} {vl : List Val} (h5 : k = 5) (w1 : vk = 11 ∨ (vk = 4 ∧ vl.length = 0)) (w3 : vn = n) (w4 : vl.length = l.length) : fitsB (.mk k n i s a b c l) (.mk vk vn vs vl) = fitsL l vl := by
  simp only [fitsB]
  rw [if_neg (by omega), if_neg (by omega), if_neg (by omega), if_neg (by omega)]
theorem fitsF_eq {k n i a b c vk vn : Int} {s vs : ByteArray} {l : List Pat} {vl : List Val} (h5 : k = 5) (w : ¬ ((vk = 11 ∨ (vk = 4 ∧ vl.length = 0)) ∧ vn = n ∧ vl.length = l.length)) : fitsB (.mk k n i s a b c l) (.mk vk vn vs vl) = false := by
  simp only [fitsB]
  rw [if_neg (by omega), if_neg (by omega), if_neg (by omega), if_pos (by omega)]

set_option maxRecDepth 100000 in
theorem fits1_c (m : Nat) (hm : m ≤ 9223372036854775807) (k n i : Int) (s : ByteArray) (a b c : Int) (l : List Pat) (vk vn : Int) (vs : ByteArray) (vl : List Val) (hl : l.length ≤ m) (hvl : vl.length ≤ m) (h1 : k = 1) : RunsP Try.prog 32 [.agg (patD (.mk k n i s a b c l)), .agg (valD (.mk vk vn vs vl))] (fun r => r = .v (.bool true)) := by
  have e1 := patR_len l
  have e2 := valR_len vl
  refine enterP 85 Try.func32 rfl (by kernel_rfl) rfl rfl rfl ?_
  repeat' (first | refine s_op rfl ?_ | (apply s_fa_f tab_ok; (iterate 6 (exact rfl))) | (apply s_ld_f tab_ok; (iterate 6 (exact rfl))) | (apply s_assign; (iterate 4 (exact rfl))) | (apply s_boxZ; (iterate 5 (exact rfl)); first | exact rfl | exact allD_mapd _) | (apply s_eql_t; (iterate 5 (exact rfl)); omega) | refine al_nil ?_ | refine q_then_n ?_ | refine q_blk_r ?_ | refine aw_block ?_ | refine q_then_r ?_ | refine aw_seq ?_ | refine aw_reg ?_ | refine aw_true rfl ?_ | refine aw_skip ?_ | refine aw_ret ?_)
  exact q_ret rfl ⟨_, rfl, rfl⟩

set_option maxRecDepth 100000 in
theorem fits2_c (m : Nat) (hm : m ≤ 9223372036854775807) (k n i : Int) (s : ByteArray) (a b c : Int) (l : List Pat) (vk vn : Int) (vs : ByteArray) (vl : List Val) (hl : l.length ≤ m) (hvl : vl.length ≤ m) (h2 : k = 2) : RunsP Try.prog 32 [.agg (patD (.mk k n i s a b c l)), .agg (valD (.mk vk vn vs vl))] (fun r => r = .v (.bool true)) := by
  have e1 := patR_len l
  have e2 := valR_len vl
  refine enterP 85 Try.func32 rfl (by kernel_rfl) rfl rfl rfl ?_
  repeat' (first | refine s_op rfl ?_ | (apply s_fa_f tab_ok; (iterate 6 (exact rfl))) | (apply s_ld_f tab_ok; (iterate 6 (exact rfl))) | (apply s_assign; (iterate 4 (exact rfl))) | (apply s_boxZ; (iterate 5 (exact rfl)); first | exact rfl | exact allD_mapd _) | (apply s_eql_t; (iterate 5 (exact rfl)); omega) | (apply s_eql_f; (iterate 5 (exact rfl)); omega) | refine al_nil ?_ | refine q_then_n ?_ | refine q_blk_r ?_ | refine aw_block ?_ | refine q_then_r ?_ | refine aw_seq ?_ | refine aw_reg ?_ | refine aw_true rfl ?_ | refine aw_false rfl ?_ | refine aw_ret ?_)
  exact q_ret rfl ⟨_, rfl, rfl⟩

set_option maxRecDepth 100000 in
theorem fits3a_c (m : Nat) (hm : m ≤ 9223372036854775807) (k n i : Int) (s : ByteArray) (a b c : Int) (l : List Pat) (vk vn : Int) (vs : ByteArray) (vl : List Val) (hl : l.length ≤ m) (hvl : vl.length ≤ m) (h3 : k = 3) (hv1 : vk = 1) (hn : vn = i) : RunsP Try.prog 32 [.agg (patD (.mk k n i s a b c l)), .agg (valD (.mk vk vn vs vl))] (fun r => r = .v (.bool true)) := by
  have e1 := patR_len l
  have e2 := valR_len vl
  refine enterP 85 Try.func32 rfl (by kernel_rfl) rfl rfl rfl ?_
  repeat' (first | refine s_op rfl ?_ | (apply s_move; (iterate 4 (exact rfl))) | (apply s_fa_f tab_ok; (iterate 6 (exact rfl))) | (apply s_ld_f tab_ok; (iterate 6 (exact rfl))) | (apply s_assign; (iterate 4 (exact rfl))) | (apply s_pick_t; (iterate 5 (exact rfl))) | (apply s_boxZ; (iterate 5 (exact rfl)); first | exact rfl | exact allD_mapd _) | (apply s_eql_t; (iterate 5 (exact rfl)); omega) | (apply s_eql_f; (iterate 5 (exact rfl)); omega) | refine al_nil ?_ | refine q_then_n ?_ | refine q_blk_r ?_ | refine aw_block ?_ | refine q_then_r ?_ | refine aw_seq ?_ | refine aw_reg ?_ | refine aw_true rfl ?_ | refine aw_false rfl ?_ | refine aw_ret ?_)
  exact q_ret rfl ⟨_, rfl, rfl⟩

set_option maxRecDepth 100000 in
theorem fits3b_c (m : Nat) (hm : m ≤ 9223372036854775807) (k n i : Int) (s : ByteArray) (a b c : Int) (l : List Pat) (vk vn : Int) (vs : ByteArray) (vl : List Val) (hl : l.length ≤ m) (hvl : vl.length ≤ m) (h3 : k = 3) (hv1 : vk = 1) (hn : vn ≠ i) : RunsP Try.prog 32 [.agg (patD (.mk k n i s a b c l)), .agg (valD (.mk vk vn vs vl))] (fun r => r = .v (.bool false)) := by
  have e1 := patR_len l
  have e2 := valR_len vl
  refine enterP 85 Try.func32 rfl (by kernel_rfl) rfl rfl rfl ?_
  repeat' (first | refine s_op rfl ?_ | (apply s_move; (iterate 4 (exact rfl))) | (apply s_fa_f tab_ok; (iterate 6 (exact rfl))) | (apply s_ld_f tab_ok; (iterate 6 (exact rfl))) | (apply s_assign; (iterate 4 (exact rfl))) | (apply s_pick_t; (iterate 5 (exact rfl))) | (apply s_boxZ; (iterate 5 (exact rfl)); first | exact rfl | exact allD_mapd _) | (apply s_eql_t; (iterate 5 (exact rfl)); omega) | (apply s_eql_f; (iterate 5 (exact rfl)); omega) | refine al_nil ?_ | refine q_then_n ?_ | refine q_blk_r ?_ | refine aw_block ?_ | refine q_then_r ?_ | refine aw_seq ?_ | refine aw_reg ?_ | refine aw_true rfl ?_ | refine aw_false rfl ?_ | refine aw_ret ?_)
  exact q_ret rfl ⟨_, rfl, rfl⟩

set_option maxRecDepth 100000 in
theorem fits3c_c (m : Nat) (hm : m ≤ 9223372036854775807) (k n i : Int) (s : ByteArray) (a b c : Int) (l : List Pat) (vk vn : Int) (vs : ByteArray) (vl : List Val) (hl : l.length ≤ m) (hvl : vl.length ≤ m) (h3 : k = 3) (hv1 : vk ≠ 1) : RunsP Try.prog 32 [.agg (patD (.mk k n i s a b c l)), .agg (valD (.mk vk vn vs vl))] (fun r => r = .v (.bool false)) := by
  have e1 := patR_len l
  have e2 := valR_len vl
  refine enterP 85 Try.func32 rfl (by kernel_rfl) rfl rfl rfl ?_
  repeat' (first | refine s_op rfl ?_ | (apply s_skipV; (iterate 2 (exact rfl))) | (apply s_move; (iterate 4 (exact rfl))) | (apply s_fa_f tab_ok; (iterate 6 (exact rfl))) | (apply s_ld_f tab_ok; (iterate 6 (exact rfl))) | (apply s_assign; (iterate 4 (exact rfl))) | (apply s_pick_f; (iterate 5 (exact rfl))) | (apply s_boxZ; (iterate 5 (exact rfl)); first | exact rfl | exact allD_mapd _) | (apply s_eql_t; (iterate 5 (exact rfl)); omega) | (apply s_eql_f; (iterate 5 (exact rfl)); omega) | refine al_nil ?_ | refine q_then_n ?_ | refine q_blk_r ?_ | refine aw_block ?_ | refine q_then_r ?_ | refine aw_seq ?_ | refine aw_reg ?_ | refine aw_true rfl ?_ | refine aw_false rfl ?_ | refine aw_ret ?_)
  exact q_ret rfl ⟨_, rfl, rfl⟩

set_option maxRecDepth 100000 in
theorem fits4a_c (m : Nat) (hm : m ≤ 9223372036854775807) (k n i : Int) (s : ByteArray) (a b c : Int) (l : List Pat) (vk vn : Int) (vs : ByteArray) (vl : List Val) (hl : l.length ≤ m) (hvl : vl.length ≤ m) (h3 : k = 4) (hv1 : vk = 2) (hn : vs = s) : RunsP Try.prog 32 [.agg (patD (.mk k n i s a b c l)), .agg (valD (.mk vk vn vs vl))] (fun r => r = .v (.bool true)) := by
  have e1 := patR_len l
  have e2 := valR_len vl
  refine enterP 85 Try.func32 rfl (by kernel_rfl) rfl rfl rfl ?_
  repeat' (first | refine s_op rfl ?_ | (apply s_move; (iterate 4 (exact rfl))) | (apply s_fa_f tab_ok; (iterate 6 (exact rfl))) | (apply s_ld_f tab_ok; (iterate 6 (exact rfl))) | (apply s_assign; (iterate 4 (exact rfl))) | (apply s_pick_t; (iterate 5 (exact rfl))) | (apply s_boxZ; (iterate 5 (exact rfl)); first | exact rfl | exact allD_mapd _) | (apply s_eql_t; (iterate 5 (exact rfl)); omega) | (apply s_eql_f; (iterate 5 (exact rfl)); omega) | (apply s_streq_t; (iterate 5 (exact rfl)); assumption) | refine al_nil ?_ | refine q_then_n ?_ | refine q_blk_r ?_ | refine aw_block ?_ | refine q_then_r ?_ | refine aw_seq ?_ | refine aw_reg ?_ | refine aw_true rfl ?_ | refine aw_false rfl ?_ | refine aw_ret ?_)
  exact q_ret rfl ⟨_, rfl, rfl⟩

set_option maxRecDepth 100000 in
theorem fits4b_c (m : Nat) (hm : m ≤ 9223372036854775807) (k n i : Int) (s : ByteArray) (a b c : Int) (l : List Pat) (vk vn : Int) (vs : ByteArray) (vl : List Val) (hl : l.length ≤ m) (hvl : vl.length ≤ m) (h3 : k = 4) (hv1 : vk = 2) (hn : vs ≠ s) : RunsP Try.prog 32 [.agg (patD (.mk k n i s a b c l)), .agg (valD (.mk vk vn vs vl))] (fun r => r = .v (.bool false)) := by
  have e1 := patR_len l
  have e2 := valR_len vl
  refine enterP 85 Try.func32 rfl (by kernel_rfl) rfl rfl rfl ?_
  repeat' (first | refine s_op rfl ?_ | (apply s_move; (iterate 4 (exact rfl))) | (apply s_fa_f tab_ok; (iterate 6 (exact rfl))) | (apply s_ld_f tab_ok; (iterate 6 (exact rfl))) | (apply s_assign; (iterate 4 (exact rfl))) | (apply s_pick_t; (iterate 5 (exact rfl))) | (apply s_boxZ; (iterate 5 (exact rfl)); first | exact rfl | exact allD_mapd _) | (apply s_eql_t; (iterate 5 (exact rfl)); omega) | (apply s_eql_f; (iterate 5 (exact rfl)); omega) | (apply s_streq_f; (iterate 5 (exact rfl)); assumption) | refine al_nil ?_ | refine q_then_n ?_ | refine q_blk_r ?_ | refine aw_block ?_ | refine q_then_r ?_ | refine aw_seq ?_ | refine aw_reg ?_ | refine aw_true rfl ?_ | refine aw_false rfl ?_ | refine aw_ret ?_)
  exact q_ret rfl ⟨_, rfl, rfl⟩

set_option maxRecDepth 100000 in
theorem fits4c_c (m : Nat) (hm : m ≤ 9223372036854775807) (k n i : Int) (s : ByteArray) (a b c : Int) (l : List Pat) (vk vn : Int) (vs : ByteArray) (vl : List Val) (hl : l.length ≤ m) (hvl : vl.length ≤ m) (h3 : k = 4) (hv1 : vk ≠ 2) : RunsP Try.prog 32 [.agg (patD (.mk k n i s a b c l)), .agg (valD (.mk vk vn vs vl))] (fun r => r = .v (.bool false)) := by
  have e1 := patR_len l
  have e2 := valR_len vl
  refine enterP 85 Try.func32 rfl (by kernel_rfl) rfl rfl rfl ?_
  repeat' (first | refine s_op rfl ?_ | (apply s_skipV; (iterate 2 (exact rfl))) | (apply s_move; (iterate 4 (exact rfl))) | (apply s_fa_f tab_ok; (iterate 6 (exact rfl))) | (apply s_ld_f tab_ok; (iterate 6 (exact rfl))) | (apply s_assign; (iterate 4 (exact rfl))) | (apply s_pick_f; (iterate 5 (exact rfl))) | (apply s_boxZ; (iterate 5 (exact rfl)); first | exact rfl | exact allD_mapd _) | (apply s_eql_t; (iterate 5 (exact rfl)); omega) | (apply s_eql_f; (iterate 5 (exact rfl)); omega) | refine al_nil ?_ | refine q_then_n ?_ | refine q_blk_r ?_ | refine aw_block ?_ | refine q_then_r ?_ | refine aw_seq ?_ | refine aw_reg ?_ | refine aw_true rfl ?_ | refine aw_false rfl ?_ | refine aw_ret ?_)
  exact q_ret rfl ⟨_, rfl, rfl⟩

set_option maxRecDepth 100000 in
theorem fits6_c (m : Nat) (hm : m ≤ 9223372036854775807) (k n i : Int) (s : ByteArray) (a b c : Int) (l : List Pat) (vk vn : Int) (vs : ByteArray) (vl : List Val) (hl : l.length ≤ m) (hvl : vl.length ≤ m) (h1 : k ≠ 1) (h2 : k ≠ 2) (h3 : k ≠ 3) (h4 : k ≠ 4) (h5 : k ≠ 5) : RunsP Try.prog 32 [.agg (patD (.mk k n i s a b c l)), .agg (valD (.mk vk vn vs vl))] (fun r => r = .v (.bool false)) := by
  have e1 := patR_len l
  have e2 := valR_len vl
  refine enterP 85 Try.func32 rfl (by kernel_rfl) rfl rfl rfl ?_
  repeat' (first | refine s_op rfl ?_ | (apply s_fa_f tab_ok; (iterate 6 (exact rfl))) | (apply s_ld_f tab_ok; (iterate 6 (exact rfl))) | (apply s_assign; (iterate 4 (exact rfl))) | (apply s_boxZ; (iterate 5 (exact rfl)); first | exact rfl | exact allD_mapd _) | (apply s_eql_f; (iterate 5 (exact rfl)); omega) | refine al_nil ?_ | refine q_then_n ?_ | refine q_blk_n ?_ | refine aw_block ?_ | refine aw_seq ?_ | refine aw_reg ?_ | refine aw_false rfl ?_ | refine aw_skip ?_ | refine aw_ret ?_)
  exact q_ret rfl ⟨_, rfl, rfl⟩

set_option maxRecDepth 100000 in
theorem fits5a_c (m : Nat) (hm : m ≤ 9223372036854775807) (k n i : Int) (s : ByteArray) (a b c : Int) (l : List Pat) (vk vn : Int) (vs : ByteArray) (vl : List Val) (hl : l.length ≤ m) (hvl : vl.length ≤ m) (h5 : k = 5) (w1 : vk ≠ 11) (w2 : vk ≠ 4) : RunsP Try.prog 32 [.agg (patD (.mk k n i s a b c l)), .agg (valD (.mk vk vn vs vl))] (fun r => r = .v (.bool false)) := by
  have e1 := patR_len l
  have e2 := valR_len vl
  refine enterP 85 Try.func32 rfl (by kernel_rfl) rfl rfl rfl ?_
  repeat' (first | refine s_op rfl ?_ | (apply s_skipV; (iterate 2 (exact rfl))) | (apply s_move; (iterate 4 (exact rfl))) | (apply s_fa_f tab_ok; (iterate 6 (exact rfl))) | (apply s_ld_f tab_ok; (iterate 6 (exact rfl))) | (apply s_assign; (iterate 4 (exact rfl))) | (apply s_pick_t; (iterate 5 (exact rfl))) | (apply s_boxZ; (iterate 5 (exact rfl)); first | exact rfl | exact allD_mapd _) | (apply s_eql_t; (iterate 5 (exact rfl)); omega) | (apply s_eql_f; (iterate 5 (exact rfl)); omega) | (apply s_neq_t; (iterate 5 (exact rfl)); omega) | refine al_nil ?_ | refine q_then_n ?_ | refine q_blk_r ?_ | refine aw_block ?_ | refine q_then_r ?_ | refine aw_seq ?_ | refine aw_reg ?_ | refine aw_true rfl ?_ | refine aw_false rfl ?_ | refine aw_ret ?_)
  exact q_ret rfl ⟨_, rfl, rfl⟩

set_option maxRecDepth 100000 in
theorem fits5b_c (m : Nat) (hm : m ≤ 9223372036854775807) (k n i : Int) (s : ByteArray) (a b c : Int) (l : List Pat) (vk vn : Int) (vs : ByteArray) (vl : List Val) (hl : l.length ≤ m) (hvl : vl.length ≤ m) (h5 : k = 5) (w2 : vk = 4) (w3 : 0 < vl.length) : RunsP Try.prog 32 [.agg (patD (.mk k n i s a b c l)), .agg (valD (.mk vk vn vs vl))] (fun r => r = .v (.bool false)) := by
  have e1 := patR_len l
  have e2 := valR_len vl
  refine enterP 85 Try.func32 rfl (by kernel_rfl) rfl rfl rfl ?_
  repeat' (first | refine s_op rfl ?_ | (apply s_skipV; (iterate 2 (exact rfl))) | (apply s_move; (iterate 4 (exact rfl))) | (apply s_fa_f tab_ok; (iterate 6 (exact rfl))) | (apply s_ld_f tab_ok; (iterate 6 (exact rfl))) | (apply s_assign; (iterate 4 (exact rfl))) | (apply s_pick_t; (iterate 5 (exact rfl))) | (apply s_pick_f; (iterate 5 (exact rfl))) | (apply s_len tab_ok; (iterate 5 (exact rfl))) | (apply s_boxZ; (iterate 5 (exact rfl)); first | exact rfl | exact allD_mapd _) | (apply s_eql_t; (iterate 5 (exact rfl)); omega) | (apply s_eql_f; (iterate 5 (exact rfl)); omega) | (apply s_neq_t; (iterate 5 (exact rfl)); omega) | (apply s_neq_f; (iterate 5 (exact rfl)); omega) | (apply s_gtr_t; (iterate 5 (exact rfl)); omega) | refine al_nil ?_ | refine q_then_n ?_ | refine q_blk_r ?_ | refine aw_block ?_ | refine q_then_r ?_ | refine aw_seq ?_ | refine aw_reg ?_ | refine aw_true rfl ?_ | refine aw_false rfl ?_ | refine aw_ret ?_)
  exact q_ret rfl ⟨_, rfl, rfl⟩

set_option maxRecDepth 100000 in
theorem fits5c_c (m : Nat) (hm : m ≤ 9223372036854775807) (k n i : Int) (s : ByteArray) (a b c : Int) (l : List Pat) (vk vn : Int) (vs : ByteArray) (vl : List Val) (hl : l.length ≤ m) (hvl : vl.length ≤ m) (h5 : k = 5) (w2 : vk = 11) (w3 : vn ≠ n) : RunsP Try.prog 32 [.agg (patD (.mk k n i s a b c l)), .agg (valD (.mk vk vn vs vl))] (fun r => r = .v (.bool false)) := by
  have e1 := patR_len l
  have e2 := valR_len vl
  refine enterP 85 Try.func32 rfl (by kernel_rfl) rfl rfl rfl ?_
  repeat' (first | refine s_op rfl ?_ | (apply s_skipV; (iterate 2 (exact rfl))) | (apply s_skipU; (iterate 3 (exact rfl))) | (apply s_move; (iterate 4 (exact rfl))) | (apply s_fa_f tab_ok; (iterate 6 (exact rfl))) | (apply s_ld_f tab_ok; (iterate 6 (exact rfl))) | (apply s_assign; (iterate 4 (exact rfl))) | (apply s_pick_t; (iterate 5 (exact rfl))) | (apply s_pick_f; (iterate 5 (exact rfl))) | (apply s_boxZ; (iterate 5 (exact rfl)); first | exact rfl | exact allD_mapd _) | (apply s_eql_t; (iterate 5 (exact rfl)); omega) | (apply s_eql_f; (iterate 5 (exact rfl)); omega) | (apply s_neq_t; (iterate 5 (exact rfl)); omega) | (apply s_neq_f; (iterate 5 (exact rfl)); omega) | refine al_nil ?_ | refine q_then_n ?_ | refine q_blk_r ?_ | refine aw_block ?_ | refine q_then_r ?_ | refine aw_seq ?_ | refine aw_reg ?_ | refine aw_true rfl ?_ | refine aw_false rfl ?_ | refine aw_ret ?_)
  exact q_ret rfl ⟨_, rfl, rfl⟩

set_option maxRecDepth 100000 in
theorem fits5d_c (m : Nat) (hm : m ≤ 9223372036854775807) (k n i : Int) (s : ByteArray) (a b c : Int) (l : List Pat) (vk vn : Int) (vs : ByteArray) (vl : List Val) (hl : l.length ≤ m) (hvl : vl.length ≤ m) (h5 : k = 5) (w2 : vk = 4) (w4 : vl.length = 0) (w3 : vn ≠ n) : RunsP Try.prog 32 [.agg (patD (.mk k n i s a b c l)), .agg (valD (.mk vk vn vs vl))] (fun r => r = .v (.bool false)) := by
  have e1 := patR_len l
  have e2 := valR_len vl
  refine enterP 85 Try.func32 rfl (by kernel_rfl) rfl rfl rfl ?_
  repeat' (first | refine s_op rfl ?_ | (apply s_skipV; (iterate 2 (exact rfl))) | (apply s_move; (iterate 4 (exact rfl))) | (apply s_fa_f tab_ok; (iterate 6 (exact rfl))) | (apply s_ld_f tab_ok; (iterate 6 (exact rfl))) | (apply s_assign; (iterate 4 (exact rfl))) | (apply s_pick_t; (iterate 5 (exact rfl))) | (apply s_pick_f; (iterate 5 (exact rfl))) | (apply s_len tab_ok; (iterate 5 (exact rfl))) | (apply s_boxZ; (iterate 5 (exact rfl)); first | exact rfl | exact allD_mapd _) | (apply s_eql_t; (iterate 5 (exact rfl)); omega) | (apply s_eql_f; (iterate 5 (exact rfl)); omega) | (apply s_neq_t; (iterate 5 (exact rfl)); omega) | (apply s_neq_f; (iterate 5 (exact rfl)); omega) | (apply s_gtr_f; (iterate 5 (exact rfl)); omega) | refine al_nil ?_ | refine q_then_n ?_ | refine q_blk_r ?_ | refine aw_block ?_ | refine q_then_r ?_ | refine aw_seq ?_ | refine aw_reg ?_ | refine aw_true rfl ?_ | refine aw_false rfl ?_ | refine aw_ret ?_)
  exact q_ret rfl ⟨_, rfl, rfl⟩

set_option maxRecDepth 100000 in
theorem fits5e_c (m : Nat) (hm : m ≤ 9223372036854775807) (k n i : Int) (s : ByteArray) (a b c : Int) (l : List Pat) (vk vn : Int) (vs : ByteArray) (vl : List Val) (hl : l.length ≤ m) (hvl : vl.length ≤ m) (h5 : k = 5) (w2 : vk = 11) (w3 : vn = n) (w4 : vl.length ≠ l.length) : RunsP Try.prog 32 [.agg (patD (.mk k n i s a b c l)), .agg (valD (.mk vk vn vs vl))] (fun r => r = .v (.bool false)) := by
  have e1 := patR_len l
  have e2 := valR_len vl
  refine enterP 85 Try.func32 rfl (by kernel_rfl) rfl rfl rfl ?_
  repeat' (first | refine s_op rfl ?_ | (apply s_skipV; (iterate 2 (exact rfl))) | (apply s_skipU; (iterate 3 (exact rfl))) | (apply s_move; (iterate 4 (exact rfl))) | (apply s_fa_f tab_ok; (iterate 6 (exact rfl))) | (apply s_ld_f tab_ok; (iterate 6 (exact rfl))) | (apply s_assign; (iterate 4 (exact rfl))) | (apply s_pick_f; (iterate 5 (exact rfl))) | (apply s_len tab_ok; (iterate 5 (exact rfl))) | (apply s_boxZ; (iterate 5 (exact rfl)); first | exact rfl | exact allD_mapd _) | (apply s_eql_t; (iterate 5 (exact rfl)); omega) | (apply s_eql_f; (iterate 5 (exact rfl)); omega) | (apply s_neq_t; (iterate 5 (exact rfl)); omega) | (apply s_neq_f; (iterate 5 (exact rfl)); omega) | refine al_nil ?_ | refine q_then_n ?_ | refine q_blk_r ?_ | refine aw_block ?_ | refine q_then_r ?_ | refine aw_seq ?_ | refine aw_reg ?_ | refine aw_true rfl ?_ | refine aw_false rfl ?_ | refine aw_ret ?_)
  exact q_ret rfl ⟨_, rfl, rfl⟩

set_option maxRecDepth 100000 in
theorem fits5f_c (m : Nat) (hm : m ≤ 9223372036854775807) (k n i : Int) (s : ByteArray) (a b c : Int) (l : List Pat) (vk vn : Int) (vs : ByteArray) (vl : List Val) (hl : l.length ≤ m) (hvl : vl.length ≤ m) (h5 : k = 5) (w2 : vk = 4) (w5 : vl.length = 0) (w3 : vn = n) (w4 : vl.length ≠ l.length) : RunsP Try.prog 32 [.agg (patD (.mk k n i s a b c l)), .agg (valD (.mk vk vn vs vl))] (fun r => r = .v (.bool false)) := by
  have e1 := patR_len l
  have e2 := valR_len vl
  refine enterP 85 Try.func32 rfl (by kernel_rfl) rfl rfl rfl ?_
  repeat' (first | refine s_op rfl ?_ | (apply s_move; (iterate 4 (exact rfl))) | (apply s_fa_f tab_ok; (iterate 6 (exact rfl))) | (apply s_ld_f tab_ok; (iterate 6 (exact rfl))) | (apply s_assign; (iterate 4 (exact rfl))) | (apply s_pick_t; (iterate 5 (exact rfl))) | (apply s_pick_f; (iterate 5 (exact rfl))) | (apply s_len tab_ok; (iterate 5 (exact rfl))) | (apply s_boxZ; (iterate 5 (exact rfl)); first | exact rfl | exact allD_mapd _) | (apply s_eql_t; (iterate 5 (exact rfl)); omega) | (apply s_eql_f; (iterate 5 (exact rfl)); omega) | (apply s_neq_t; (iterate 5 (exact rfl)); omega) | (apply s_neq_f; (iterate 5 (exact rfl)); omega) | (apply s_gtr_f; (iterate 5 (exact rfl)); omega) | refine al_nil ?_ | refine q_then_n ?_ | refine q_blk_r ?_ | refine aw_block ?_ | refine q_then_r ?_ | refine aw_seq ?_ | refine aw_reg ?_ | refine aw_true rfl ?_ | refine aw_false rfl ?_ | refine aw_ret ?_)
  exact q_ret rfl ⟨_, rfl, rfl⟩

set_option maxRecDepth 100000 in
theorem fits5g_c (m : Nat) (hm : m ≤ 9223372036854775807) (k n i : Int) (s : ByteArray) (a b c : Int) (l : List Pat) (vk vn : Int) (vs : ByteArray) (vl : List Val) (hl : l.length ≤ m) (hvl : vl.length ≤ m) (h5 : k = 5) (w2 : vk = 11) (w3 : vn = n) (w4 : vl.length = l.length) (ih : ∀ p ∈ l, ∀ v ∈ vl, RunsP Try.prog 32 [.agg (patD p), .agg (valD v)] (fun r => r = .v (.bool (fitsB p v)))) : RunsP Try.prog 32 [.agg (patD (.mk k n i s a b c l)), .agg (valD (.mk vk vn vs vl))] (fun r => r = .v (.bool (fitsL l vl))) := by
  have e1 := patR_len l
  have e2 := valR_len vl
  refine enterP 85 Try.func32 rfl (by kernel_rfl) rfl rfl rfl ?_
  repeat' (first | refine s_op rfl ?_ | (apply s_skipV; (iterate 2 (exact rfl))) | (apply s_skipU; (iterate 3 (exact rfl))) | (apply s_move; (iterate 4 (exact rfl))) | (apply s_fa_f tab_ok; (iterate 6 (exact rfl))) | (apply s_ld_f tab_ok; (iterate 6 (exact rfl))) | (apply s_assign; (iterate 4 (exact rfl))) | (apply s_pick_f; (iterate 5 (exact rfl))) | (apply s_len tab_ok; (iterate 5 (exact rfl))) | (apply s_boxZ; (iterate 5 (exact rfl)); first | exact rfl | exact allD_mapd _) | (apply s_eql_t; (iterate 5 (exact rfl)); omega) | (apply s_eql_f; (iterate 5 (exact rfl)); omega) | (apply s_neq_f; (iterate 5 (exact rfl)); omega) | refine al_nil ?_ | refine q_then_n ?_ | refine aw_block ?_ | refine aw_seq ?_ | refine aw_reg ?_ | refine aw_true rfl ?_ | refine aw_false rfl ?_ | refine aw_skip ?_)
  refine w_loop [2, 3, 69, 70, 71] (fun n' vs' σ => ∃ j : Nat, vs' = [.d (.fptr (patD (.mk k n i s a b c l))), .d (.fptr (valD (.mk vk vn vs vl))), .d (.lst 8 (patR l)), .d (.v (.int .i64 ((patR l).length : Int))), .d (.v (.int .i64 (j : Int)))] ∧ j ≤ l.length ∧ n' = l.length - j ∧ fitsL l vl = fitsL (l.drop j) (vl.drop j)) rfl ⟨0, rfl, by omega, rfl, rfl⟩ ?_
  rintro n' vs' σ ⟨j, rfl, hj, rfl, hs⟩ fr hfr
  cases hfr
  by_cases hlt : j < l.length
  · obtain ⟨⟨qk, qn, qi, qs, qa, qb, qc, ql⟩, hq⟩ := getS hlt
    obtain ⟨u, hu⟩ : ∃ u, vl[j]? = some u := getS (by omega)
    have hr := ih _ (List.mem_of_getElem? hq) u (List.mem_of_getElem? hu)
    rw [fitsL_drop hq hu] at hs
    cases hb : fitsB (.mk qk qn qi qs qa qb qc ql) u <;> rw [hb] at hr hs
    · repeat' (first | refine s_op rfl ?_ | (apply s_move; (iterate 4 (exact rfl))) | (apply s_fa_f tab_ok; (iterate 6 (exact rfl))) | (apply s_ld_f tab_ok; (iterate 6 (exact rfl))) | (apply s_ld_w tab_ok; (iterate 5 (exact rfl)); (first | exact patD_len _ | exact valD_len _)) | (apply s_assign; (iterate 4 (exact rfl))) | (apply s_idx tab_ok; (iterate 7 (exact rfl)); (first | exact patR_get (by assumption) | exact valR_get (by assumption) | exact row_map (by assumption) | assumption)) | (apply s_not_f; (iterate 4 (exact rfl))) | (apply s_lss_t; (iterate 5 (exact rfl)); omega) | (apply s_allocF tabZ_ok; (iterate 6 (exact rfl)); intro locX σ hc; have hX := hc.at'; clear hc) | (apply s_storeF tab_ok; (iterate 7 (exact rfl)); exact hX; (iterate 2 (exact rfl)); intro σ hc; replace hX := hc.at'; clear hc) | (apply s_ldF tab_ok; (iterate 5 (exact rfl)); exact hX; exact rfl) | (apply s_call; (iterate 6 (exact rfl)); first | (exact hr; rintro _ rfl)) | refine al_nil ?_ | refine q_then_n ?_ | refine q_blk_r ?_ | refine aw_block ?_ | refine q_then_r ?_ | refine aw_seq ?_ | refine aw_reg ?_ | refine aw_true rfl ?_ | refine aw_skip ?_ | refine aw_ret ?_ | refine aw_draws (id := 15) (trO [0, 1, 2, 3, 4, 5, 6, 7] .nil) [6] [] mixed_ok (by kernel_rfl) ?_)
      exact q_ret rfl ⟨_, rfl, by simp [hs]⟩
    · repeat' (first | refine s_op rfl ?_ | (apply s_move; (iterate 4 (exact rfl))) | (apply s_fa_f tab_ok; (iterate 6 (exact rfl))) | (apply s_ld_f tab_ok; (iterate 6 (exact rfl))) | (apply s_ld_w tab_ok; (iterate 5 (exact rfl)); (first | exact patD_len _ | exact valD_len _)) | (apply s_assign; (iterate 4 (exact rfl))) | (apply s_idx tab_ok; (iterate 7 (exact rfl)); (first | exact patR_get (by assumption) | exact valR_get (by assumption) | exact row_map (by assumption) | assumption)) | (apply s_not_t; (iterate 4 (exact rfl))) | (apply s_lss_t; (iterate 5 (exact rfl)); omega) | (apply s_add64; (iterate 5 (exact rfl)); omega) | (apply s_allocF tabZ_ok; (iterate 6 (exact rfl)); intro locX σ hc; have hX := hc.at'; clear hc) | (apply s_storeF tab_ok; (iterate 7 (exact rfl)); exact hX; (iterate 2 (exact rfl)); intro σ hc; replace hX := hc.at'; clear hc) | (apply s_ldF tab_ok; (iterate 5 (exact rfl)); exact hX; exact rfl) | (apply s_call; (iterate 6 (exact rfl)); first | (exact hr; rintro _ rfl)) | refine al_nil ?_ | refine q_then_n ?_ | refine q_blk_n ?_ | refine aw_block ?_ | refine aw_seq ?_ | refine aw_reg ?_ | refine aw_true rfl ?_ | refine aw_false rfl ?_ | refine aw_skip ?_ | refine aw_draws (id := 15) (trO [0, 1, 2, 3, 4, 5, 6, 7] .nil) [6] [] mixed_ok (by kernel_rfl) ?_)
      exact ⟨_, _, rfl, by omega, j + 1, rfl, by omega, rfl, by simpa using hs⟩
  · have : l.drop j = [] := List.drop_eq_nil_of_le (by omega)
    rw [this] at hs
    repeat' (first | refine s_op rfl ?_ | (apply s_assign; (iterate 4 (exact rfl))) | (apply s_lss_f; (iterate 5 (exact rfl)); omega) | refine al_nil ?_ | refine q_then_n ?_ | refine q_blk_r ?_ | refine q_blk_e ?_ | refine q_then_e ?_ | refine aw_exit ?_ | refine q_then_r ?_ | refine aw_seq ?_ | refine aw_reg ?_ | refine aw_false rfl ?_ | refine aw_ret ?_)
    exact q_ret rfl ⟨_, rfl, by simp [hs, fitsL]⟩

set_option maxRecDepth 100000 in
theorem fits5h_c (m : Nat) (hm : m ≤ 9223372036854775807) (k n i : Int) (s : ByteArray) (a b c : Int) (l : List Pat) (vk vn : Int) (vs : ByteArray) (vl : List Val) (hl : l.length ≤ m) (hvl : vl.length ≤ m) (h5 : k = 5) (w2 : vk = 4) (w5 : vl.length = 0) (w3 : vn = n) (w4 : vl.length = l.length) (ih : ∀ p ∈ l, ∀ v ∈ vl, RunsP Try.prog 32 [.agg (patD p), .agg (valD v)] (fun r => r = .v (.bool (fitsB p v)))) : RunsP Try.prog 32 [.agg (patD (.mk k n i s a b c l)), .agg (valD (.mk vk vn vs vl))] (fun r => r = .v (.bool (fitsL l vl))) := by
  have e1 := patR_len l
  have e2 := valR_len vl
  refine enterP 85 Try.func32 rfl (by kernel_rfl) rfl rfl rfl ?_
  repeat' (first | refine s_op rfl ?_ | (apply s_move; (iterate 4 (exact rfl))) | (apply s_fa_f tab_ok; (iterate 6 (exact rfl))) | (apply s_ld_f tab_ok; (iterate 6 (exact rfl))) | (apply s_assign; (iterate 4 (exact rfl))) | (apply s_pick_t; (iterate 5 (exact rfl))) | (apply s_pick_f; (iterate 5 (exact rfl))) | (apply s_len tab_ok; (iterate 5 (exact rfl))) | (apply s_boxZ; (iterate 5 (exact rfl)); first | exact rfl | exact allD_mapd _) | (apply s_eql_t; (iterate 5 (exact rfl)); omega) | (apply s_eql_f; (iterate 5 (exact rfl)); omega) | (apply s_neq_t; (iterate 5 (exact rfl)); omega) | (apply s_neq_f; (iterate 5 (exact rfl)); omega) | (apply s_gtr_f; (iterate 5 (exact rfl)); omega) | refine al_nil ?_ | refine q_then_n ?_ | refine aw_block ?_ | refine aw_seq ?_ | refine aw_reg ?_ | refine aw_true rfl ?_ | refine aw_false rfl ?_ | refine aw_skip ?_)
  refine w_loop [2, 3, 69, 70, 71] (fun n' vs' σ => ∃ j : Nat, vs' = [.d (.fptr (patD (.mk k n i s a b c l))), .d (.fptr (valD (.mk vk vn vs vl))), .d (.lst 8 (patR l)), .d (.v (.int .i64 ((patR l).length : Int))), .d (.v (.int .i64 (j : Int)))] ∧ j ≤ l.length ∧ n' = l.length - j ∧ fitsL l vl = fitsL (l.drop j) (vl.drop j)) rfl ⟨0, rfl, by omega, rfl, rfl⟩ ?_
  rintro n' vs' σ ⟨j, rfl, hj, rfl, hs⟩ fr hfr
  cases hfr
  by_cases hlt : j < l.length
  · obtain ⟨⟨qk, qn, qi, qs, qa, qb, qc, ql⟩, hq⟩ := getS hlt
    obtain ⟨u, hu⟩ : ∃ u, vl[j]? = some u := getS (by omega)
    have hr := ih _ (List.mem_of_getElem? hq) u (List.mem_of_getElem? hu)
    rw [fitsL_drop hq hu] at hs
    cases hb : fitsB (.mk qk qn qi qs qa qb qc ql) u <;> rw [hb] at hr hs
    · repeat' (first | refine s_op rfl ?_ | (apply s_move; (iterate 4 (exact rfl))) | (apply s_fa_f tab_ok; (iterate 6 (exact rfl))) | (apply s_ld_f tab_ok; (iterate 6 (exact rfl))) | (apply s_ld_w tab_ok; (iterate 5 (exact rfl)); (first | exact patD_len _ | exact valD_len _)) | (apply s_assign; (iterate 4 (exact rfl))) | (apply s_idx tab_ok; (iterate 7 (exact rfl)); (first | exact patR_get (by assumption) | exact valR_get (by assumption) | exact row_map (by assumption) | assumption)) | (apply s_not_f; (iterate 4 (exact rfl))) | (apply s_lss_t; (iterate 5 (exact rfl)); omega) | (apply s_allocF tabZ_ok; (iterate 6 (exact rfl)); intro locX σ hc; have hX := hc.at'; clear hc) | (apply s_storeF tab_ok; (iterate 7 (exact rfl)); exact hX; (iterate 2 (exact rfl)); intro σ hc; replace hX := hc.at'; clear hc) | (apply s_ldF tab_ok; (iterate 5 (exact rfl)); exact hX; exact rfl) | (apply s_call; (iterate 6 (exact rfl)); first | (exact hr; rintro _ rfl)) | refine al_nil ?_ | refine q_then_n ?_ | refine q_blk_r ?_ | refine aw_block ?_ | refine q_then_r ?_ | refine aw_seq ?_ | refine aw_reg ?_ | refine aw_true rfl ?_ | refine aw_skip ?_ | refine aw_ret ?_ | refine aw_draws (id := 15) (trO [0, 1, 2, 3, 4, 5, 6, 7] .nil) [6] [] mixed_ok (by kernel_rfl) ?_)
      exact q_ret rfl ⟨_, rfl, by simp [hs]⟩
    · repeat' (first | refine s_op rfl ?_ | (apply s_move; (iterate 4 (exact rfl))) | (apply s_fa_f tab_ok; (iterate 6 (exact rfl))) | (apply s_ld_f tab_ok; (iterate 6 (exact rfl))) | (apply s_ld_w tab_ok; (iterate 5 (exact rfl)); (first | exact patD_len _ | exact valD_len _)) | (apply s_assign; (iterate 4 (exact rfl))) | (apply s_idx tab_ok; (iterate 7 (exact rfl)); (first | exact patR_get (by assumption) | exact valR_get (by assumption) | exact row_map (by assumption) | assumption)) | (apply s_not_t; (iterate 4 (exact rfl))) | (apply s_lss_t; (iterate 5 (exact rfl)); omega) | (apply s_add64; (iterate 5 (exact rfl)); omega) | (apply s_allocF tabZ_ok; (iterate 6 (exact rfl)); intro locX σ hc; have hX := hc.at'; clear hc) | (apply s_storeF tab_ok; (iterate 7 (exact rfl)); exact hX; (iterate 2 (exact rfl)); intro σ hc; replace hX := hc.at'; clear hc) | (apply s_ldF tab_ok; (iterate 5 (exact rfl)); exact hX; exact rfl) | (apply s_call; (iterate 6 (exact rfl)); first | (exact hr; rintro _ rfl)) | refine al_nil ?_ | refine q_then_n ?_ | refine q_blk_n ?_ | refine aw_block ?_ | refine aw_seq ?_ | refine aw_reg ?_ | refine aw_true rfl ?_ | refine aw_false rfl ?_ | refine aw_skip ?_ | refine aw_draws (id := 15) (trO [0, 1, 2, 3, 4, 5, 6, 7] .nil) [6] [] mixed_ok (by kernel_rfl) ?_)
      exact ⟨_, _, rfl, by omega, j + 1, rfl, by omega, rfl, by simpa using hs⟩
  · have : l.drop j = [] := List.drop_eq_nil_of_le (by omega)
    rw [this] at hs
    repeat' (first | refine s_op rfl ?_ | (apply s_assign; (iterate 4 (exact rfl))) | (apply s_lss_f; (iterate 5 (exact rfl)); omega) | refine al_nil ?_ | refine q_then_n ?_ | refine q_blk_r ?_ | refine q_blk_e ?_ | refine q_then_e ?_ | refine aw_exit ?_ | refine q_then_r ?_ | refine aw_seq ?_ | refine aw_reg ?_ | refine aw_false rfl ?_ | refine aw_ret ?_)
    exact q_ret rfl ⟨_, rfl, by simp [hs, fitsL]⟩

theorem fits_c (m : Nat) (hm : m ≤ 9223372036854775807) : ∀ p : Pat, p.small m → ∀ v : Val, v.small m → RunsP Try.prog 32 [.agg (patD p), .agg (valD v)] (fun r => r = .v (.bool (fitsB p v))) := by
  refine rec_pat fun k n i s a b c l ih hp v hv => ?_
  obtain ⟨vk, vn, vs, vl⟩ := v
  have hl : l.length ≤ m := hp.1
  have hvl : vl.length ≤ m := hv.1
  by_cases h1 : k = 1
  · rw [show fitsB (.mk k n i s a b c l) (.mk vk vn vs vl) = true by simp [fitsB, h1]]
    exact fits1_c m hm k n i s a b c l vk vn vs vl hl hvl h1
  by_cases h2 : k = 2
  · rw [show fitsB (.mk k n i s a b c l) (.mk vk vn vs vl) = true by simp [fitsB, h2]]
    exact fits2_c m hm k n i s a b c l vk vn vs vl hl hvl h2
  by_cases h3 : k = 3
  · by_cases hv1 : vk = 1
    · by_cases hn : vn = i
      · rw [show fitsB (.mk k n i s a b c l) (.mk vk vn vs vl) = true by simp [fitsB, h3, hv1, hn]]
        exact fits3a_c m hm k n i s a b c l vk vn vs vl hl hvl h3 hv1 hn
      · rw [show fitsB (.mk k n i s a b c l) (.mk vk vn vs vl) = false by simp [fitsB, h3, hv1, hn]]
        exact fits3b_c m hm k n i s a b c l vk vn vs vl hl hvl h3 hv1 hn
    · rw [show fitsB (.mk k n i s a b c l) (.mk vk vn vs vl) = false by simp [fitsB, h3, hv1]]
      exact fits3c_c m hm k n i s a b c l vk vn vs vl hl hvl h3 hv1
  by_cases h4 : k = 4
  · by_cases hv1 : vk = 2
    · by_cases hn : vs = s
      · rw [show fitsB (.mk k n i s a b c l) (.mk vk vn vs vl) = true by simp [fitsB, h4, hv1, hn]]
        exact fits4a_c m hm k n i s a b c l vk vn vs vl hl hvl h4 hv1 hn
      · rw [show fitsB (.mk k n i s a b c l) (.mk vk vn vs vl) = false by simp [fitsB, h4, hv1, hn]]
        exact fits4b_c m hm k n i s a b c l vk vn vs vl hl hvl h4 hv1 hn
    · rw [show fitsB (.mk k n i s a b c l) (.mk vk vn vs vl) = false by simp [fitsB, h4, hv1]]
      exact fits4c_c m hm k n i s a b c l vk vn vs vl hl hvl h4 hv1
  by_cases h5 : k = 5
  · have ih' : ∀ p ∈ l, ∀ v ∈ vl, RunsP Try.prog 32 [.agg (patD p), .agg (valD v)] (fun r => r = .v (.bool (fitsB p v))) := fun p hp' v hv' => ih p hp' (Pat.smallL_mem hp.2.2 p hp') v (Val.smallL_mem hv.2.2 v hv')
    by_cases w : (vk = 11 ∨ (vk = 4 ∧ vl.length = 0)) ∧ vn = n ∧ vl.length = l.length
    · obtain ⟨w1, w2, w3⟩ := w
      rw [fitsL_eq h5 w1 w2 w3]
      rcases w1 with w1 | ⟨w1, w4⟩
      · exact fits5g_c m hm k n i s a b c l vk vn vs vl hl hvl h5 w1 w2 w3 ih'
      · exact fits5h_c m hm k n i s a b c l vk vn vs vl hl hvl h5 w1 w4 w2 w3 ih'
    · rw [fitsF_eq h5 w]
      by_cases q1 : vk = 11
      · by_cases q2 : vn = n
        · exact fits5e_c m hm k n i s a b c l vk vn vs vl hl hvl h5 q1 q2 (fun q3 => w ⟨.inl q1, q2, q3⟩)
        · exact fits5c_c m hm k n i s a b c l vk vn vs vl hl hvl h5 q1 q2
      · by_cases q4 : vk = 4
        · by_cases q5 : vl.length = 0
          · by_cases q2 : vn = n
            · exact fits5f_c m hm k n i s a b c l vk vn vs vl hl hvl h5 q4 q5 q2 (fun q3 => w ⟨.inr ⟨q4, q5⟩, q2, q3⟩)
            · exact fits5d_c m hm k n i s a b c l vk vn vs vl hl hvl h5 q4 q5 q2
          · exact fits5b_c m hm k n i s a b c l vk vn vs vl hl hvl h5 q4 (by omega)
        · exact fits5a_c m hm k n i s a b c l vk vn vs vl hl hvl h5 q1 q4
  · rw [show fitsB (.mk k n i s a b c l) (.mk vk vn vs vl) = false by simp [fitsB, h1, h2, h3, h4, h5]]
    exact fits6_c m hm k n i s a b c l vk vn vs vl hl hvl h1 h2 h3 h4 h5
end Go.Proofs.Ytjflembhgjcgkaa

