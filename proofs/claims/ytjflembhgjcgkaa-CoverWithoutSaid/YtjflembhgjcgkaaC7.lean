/- C7: Apart, of the program. -/
import Derived.Test.YtjflembhgjcgkaaXC3C4
set_option linter.unusedSimpArgs false
set_option linter.unusedVariables false
-- ALLUNDEF -- BOXZ
-- DEF LDX: (apply s_ldF tab_ok; (iterate 5 (exact rfl)); exact hX; exact rfl)
-- DEF LDH: (apply s_ldF tab_ok; (iterate 5 (exact rfl)); exact hH; exact rfl)
-- DEF ALX: (apply s_allocF tabZ_ok; (iterate 6 (exact rfl)); intro locX σ hc; have hX := hc.at'; replace hH := hc.keep hH; have nX := hc.ne hH0; clear hc)
-- DEF STX: (apply s_storeF tab_ok; (iterate 7 (exact rfl)); exact hX; (iterate 2 (exact rfl)); intro σ hc; replace hX := hc.at'; replace hH := hc.keep nX hH; clear hc)
-- DEF NET: (apply s_ne127_t (f := h) (g := h'); (iterate 5 (exact rfl)); assumption)
-- DEF NEF: (apply s_ne127_f (f := h) (g := h); (iterate 5 (exact rfl)); exact rfl)
namespace Go.Proofs.Ytjflembhgjcgkaa
open Go.RowKit

section
variable {k n i a b c k' n' i' a' b' c' : Int} {s s' : ByteArray} {l l' : List Pat}

set_option maxRecDepth 100000 in
theorem apart1_c (ha : asksH (.mk k n i s a b c l) = none) (oa : openB (.mk k n i s a b c l) = false) : RunsP Try.prog 34 [.agg (patD (.mk k n i s a b c l)), .agg (patD (.mk k' n' i' s' a' b' c' l'))] (fun r => r = .v (.bool true)) := by
  have h1 := asks_c (.mk k n i s a b c l)
  have h2 := asks_c (.mk k' n' i' s' a' b' c' l')
  have o1 := popen_c (.mk k n i s a b c l)
  rw [ha] at h1
  rw [oa] at o1
  cases hb : asksH (.mk k' n' i' s' a' b' c' l') with
  | none =>
    rw [hb] at h2
    refine enterP 87 Try.func34 rfl (by kernel_rfl) rfl rfl rfl ?_
    repeat' (first | refine s_op rfl ?_ | (apply s_skipV; (iterate 2 (exact rfl))) | (apply s_skipU; (iterate 3 (exact rfl))) | (apply s_move; (iterate 4 (exact rfl))) | (apply s_ld_f tab_ok; (iterate 6 (exact rfl))) | (apply s_assign; (iterate 4 (exact rfl))) | (apply s_pick_t; (iterate 5 (exact rfl))) | (apply s_ext; (iterate 5 (exact rfl))) | (apply s_alloc tabZ_ok; (iterate 7 (exact rfl))) | (apply s_boxZ; (iterate 5 (exact rfl)); first | exact rfl | exact allD_mapd _) | (apply s_store tab_ok; (iterate 10 (exact rfl))) | (apply s_not_f; (iterate 4 (exact rfl))) | (apply s_call; (iterate 6 (exact rfl)); first | (exact h1; rintro _ rfl) | (exact h2; rintro _ rfl) | (exact o1; rintro _ rfl)) | refine al_nil ?_ | refine q_then_n ?_ | refine q_blk_r ?_ | refine aw_block ?_ | refine q_then_r ?_ | refine aw_seq ?_ | refine aw_reg ?_ | refine aw_true rfl ?_ | refine aw_ret ?_)
    exact q_ret rfl ⟨_, rfl, rfl⟩
  | some h =>
    rw [hb] at h2
    refine enterP 87 Try.func34 rfl (by kernel_rfl) rfl rfl rfl ?_
    repeat' (first | refine s_op rfl ?_ | (apply s_skipV; (iterate 2 (exact rfl))) | (apply s_skipU; (iterate 3 (exact rfl))) | (apply s_move; (iterate 4 (exact rfl))) | (apply s_ld_f tab_ok; (iterate 6 (exact rfl))) | (apply s_assign; (iterate 4 (exact rfl))) | (apply s_pick_t; (iterate 5 (exact rfl))) | (apply s_ext; (iterate 5 (exact rfl))) | (apply s_alloc tabZ_ok; (iterate 7 (exact rfl))) | (apply s_boxZ; (iterate 5 (exact rfl)); first | exact rfl | exact allD_mapd _) | (apply s_store tab_ok; (iterate 10 (exact rfl))) | (apply s_not_f; (iterate 4 (exact rfl))) | (apply s_call; (iterate 6 (exact rfl)); first | (exact h1; rintro _ rfl) | (exact h2; rintro _ rfl) | (exact o1; rintro _ rfl)) | refine al_nil ?_ | refine q_then_n ?_ | refine q_blk_r ?_ | refine aw_block ?_ | refine q_then_r ?_ | refine aw_seq ?_ | refine aw_reg ?_ | refine aw_true rfl ?_ | refine aw_ret ?_)
    exact q_ret rfl ⟨_, rfl, rfl⟩

set_option maxRecDepth 100000 in
theorem apart2a_c (ha : asksH (.mk k n i s a b c l) = none) (oa : openB (.mk k n i s a b c l) = true) (hb : asksH (.mk k' n' i' s' a' b' c' l') = none) (ob : openB (.mk k' n' i' s' a' b' c' l') = false) : RunsP Try.prog 34 [.agg (patD (.mk k n i s a b c l)), .agg (patD (.mk k' n' i' s' a' b' c' l'))] (fun r => r = .v (.bool true)) := by
  have h1 := asks_c (.mk k n i s a b c l)
  have h2 := asks_c (.mk k' n' i' s' a' b' c' l')
  have o1 := popen_c (.mk k n i s a b c l)
  have o2 := popen_c (.mk k' n' i' s' a' b' c' l')
  rw [ha] at h1
  rw [oa] at o1
  rw [hb] at h2
  rw [ob] at o2
  refine enterP 87 Try.func34 rfl (by kernel_rfl) rfl rfl rfl ?_
  repeat' (first | refine s_op rfl ?_ | (apply s_move; (iterate 4 (exact rfl))) | (apply s_ld_f tab_ok; (iterate 6 (exact rfl))) | (apply s_assign; (iterate 4 (exact rfl))) | (apply s_pick_t; (iterate 5 (exact rfl))) | (apply s_pick_f; (iterate 5 (exact rfl))) | (apply s_ext; (iterate 5 (exact rfl))) | (apply s_alloc tabZ_ok; (iterate 7 (exact rfl))) | (apply s_boxZ; (iterate 5 (exact rfl)); first | exact rfl | exact allD_mapd _) | (apply s_store tab_ok; (iterate 10 (exact rfl))) | (apply s_not_t; (iterate 4 (exact rfl))) | (apply s_not_f; (iterate 4 (exact rfl))) | (apply s_call; (iterate 6 (exact rfl)); first | (exact h1; rintro _ rfl) | (exact h2; rintro _ rfl) | (exact o1; rintro _ rfl) | (exact o2; rintro _ rfl)) | refine al_nil ?_ | refine q_then_n ?_ | refine q_blk_r ?_ | refine aw_block ?_ | refine q_then_r ?_ | refine aw_seq ?_ | refine aw_reg ?_ | refine aw_true rfl ?_ | refine aw_ret ?_)
  exact q_ret rfl ⟨_, rfl, rfl⟩

set_option maxRecDepth 100000 in
theorem apart2b_c {h : Head} (ha : asksH (.mk k n i s a b c l) = some h) (hb : asksH (.mk k' n' i' s' a' b' c' l') = none) (ob : openB (.mk k' n' i' s' a' b' c' l') = false) : RunsP Try.prog 34 [.agg (patD (.mk k n i s a b c l)), .agg (patD (.mk k' n' i' s' a' b' c' l'))] (fun r => r = .v (.bool true)) := by
  have h1 := asks_c (.mk k n i s a b c l)
  have h2 := asks_c (.mk k' n' i' s' a' b' c' l')
  have o2 := popen_c (.mk k' n' i' s' a' b' c' l')
  rw [ha] at h1
  rw [hb] at h2
  rw [ob] at o2
  refine enterP 87 Try.func34 rfl (by kernel_rfl) rfl rfl rfl ?_
  repeat' (first | refine s_op rfl ?_ | (apply s_skipV; (iterate 2 (exact rfl))) | (apply s_move; (iterate 4 (exact rfl))) | (apply s_ld_f tab_ok; (iterate 6 (exact rfl))) | (apply s_assign; (iterate 4 (exact rfl))) | (apply s_pick_t; (iterate 5 (exact rfl))) | (apply s_pick_f; (iterate 5 (exact rfl))) | (apply s_ext; (iterate 5 (exact rfl))) | (apply s_alloc tabZ_ok; (iterate 7 (exact rfl))) | (apply s_boxZ; (iterate 5 (exact rfl)); first | exact rfl | exact allD_mapd _) | (apply s_store tab_ok; (iterate 10 (exact rfl))) | (apply s_not_t; (iterate 4 (exact rfl))) | (apply s_not_f; (iterate 4 (exact rfl))) | (apply s_call; (iterate 6 (exact rfl)); first | (exact h1; rintro _ rfl) | (exact h2; rintro _ rfl) | (exact o2; rintro _ rfl)) | refine al_nil ?_ | refine q_then_n ?_ | refine q_blk_r ?_ | refine aw_block ?_ | refine q_then_r ?_ | refine aw_seq ?_ | refine aw_reg ?_ | refine aw_true rfl ?_ | refine aw_ret ?_)
  exact q_ret rfl ⟨_, rfl, rfl⟩

set_option maxRecDepth 100000 in
theorem apart3a_c {e : Bool} (ha : asksH (.mk k n i s a b c l) = none) (oa : openB (.mk k n i s a b c l) = true) (hb : asksH (.mk k' n' i' s' a' b' c' l') = none) (ob : openB (.mk k' n' i' s' a' b' c' l') = true) (he : RunsP Try.prog 78 [.agg (patD (.mk k' n' i' s' a' b' c' l'))] (fun v => v = .v (.bool e))) : RunsP Try.prog 34 [.agg (patD (.mk k n i s a b c l)), .agg (patD (.mk k' n' i' s' a' b' c' l'))] (fun r => r = .v (.bool e)) := by
  have h1 := asks_c (.mk k n i s a b c l)
  have h2 := asks_c (.mk k' n' i' s' a' b' c' l')
  have o1 := popen_c (.mk k n i s a b c l)
  have o2 := popen_c (.mk k' n' i' s' a' b' c' l')
  rw [ha] at h1
  rw [oa] at o1
  rw [hb] at h2
  rw [ob] at o2
  refine enterP 87 Try.func34 rfl (by kernel_rfl) rfl rfl rfl ?_
  repeat' (first | refine s_op rfl ?_ | (apply s_move; (iterate 4 (exact rfl))) | (apply s_ld_f tab_ok; (iterate 6 (exact rfl))) | (apply s_assign; (iterate 4 (exact rfl))) | (apply s_pick_t; (iterate 5 (exact rfl))) | (apply s_pick_f; (iterate 5 (exact rfl))) | (apply s_ext; (iterate 5 (exact rfl))) | (apply s_alloc tabZ_ok; (iterate 7 (exact rfl))) | (apply s_boxZ; (iterate 5 (exact rfl)); first | exact rfl | exact allD_mapd _) | (apply s_store tab_ok; (iterate 10 (exact rfl))) | (apply s_not_t; (iterate 4 (exact rfl))) | (apply s_not_f; (iterate 4 (exact rfl))) | (apply s_call; (iterate 6 (exact rfl)); first | (exact h1; rintro _ rfl) | (exact h2; rintro _ rfl) | (exact o1; rintro _ rfl) | (exact o2; rintro _ rfl) | (exact he; rintro _ rfl)) | refine al_nil ?_ | refine q_then_n ?_ | refine q_blk_r ?_ | refine aw_block ?_ | refine q_then_r ?_ | refine aw_seq ?_ | refine aw_reg ?_ | refine aw_true rfl ?_ | refine aw_false rfl ?_ | refine aw_ret ?_)
  exact q_ret rfl ⟨_, rfl, rfl⟩

set_option maxRecDepth 100000 in
theorem apart3b_c {e : Bool} {h : Head} (ha : asksH (.mk k n i s a b c l) = none) (oa : openB (.mk k n i s a b c l) = true) (hb : asksH (.mk k' n' i' s' a' b' c' l') = some h) (he : RunsP Try.prog 78 [.agg (patD (.mk k' n' i' s' a' b' c' l'))] (fun v => v = .v (.bool e))) : RunsP Try.prog 34 [.agg (patD (.mk k n i s a b c l)), .agg (patD (.mk k' n' i' s' a' b' c' l'))] (fun r => r = .v (.bool e)) := by
  have h1 := asks_c (.mk k n i s a b c l)
  have h2 := asks_c (.mk k' n' i' s' a' b' c' l')
  have o1 := popen_c (.mk k n i s a b c l)
  rw [ha] at h1
  rw [oa] at o1
  rw [hb] at h2
  refine enterP 87 Try.func34 rfl (by kernel_rfl) rfl rfl rfl ?_
  repeat' (first | refine s_op rfl ?_ | (apply s_skipV; (iterate 2 (exact rfl))) | (apply s_move; (iterate 4 (exact rfl))) | (apply s_ld_f tab_ok; (iterate 6 (exact rfl))) | (apply s_assign; (iterate 4 (exact rfl))) | (apply s_pick_t; (iterate 5 (exact rfl))) | (apply s_pick_f; (iterate 5 (exact rfl))) | (apply s_ext; (iterate 5 (exact rfl))) | (apply s_alloc tabZ_ok; (iterate 7 (exact rfl))) | (apply s_boxZ; (iterate 5 (exact rfl)); first | exact rfl | exact allD_mapd _) | (apply s_store tab_ok; (iterate 10 (exact rfl))) | (apply s_not_t; (iterate 4 (exact rfl))) | (apply s_not_f; (iterate 4 (exact rfl))) | (apply s_call; (iterate 6 (exact rfl)); first | (exact h1; rintro _ rfl) | (exact h2; rintro _ rfl) | (exact o1; rintro _ rfl) | (exact he; rintro _ rfl)) | refine al_nil ?_ | refine q_then_n ?_ | refine q_blk_r ?_ | refine aw_block ?_ | refine q_then_r ?_ | refine aw_seq ?_ | refine aw_reg ?_ | refine aw_true rfl ?_ | refine aw_false rfl ?_ | refine aw_ret ?_)
  exact q_ret rfl ⟨_, rfl, rfl⟩

set_option maxRecDepth 100000 in
theorem apart4_c {e : Bool} {h : Head} (ha : asksH (.mk k n i s a b c l) = some h) (hb : asksH (.mk k' n' i' s' a' b' c' l') = none) (ob : openB (.mk k' n' i' s' a' b' c' l') = true) (he : RunsP Try.prog 78 [.agg (patD (.mk k n i s a b c l))] (fun v => v = .v (.bool e))) : RunsP Try.prog 34 [.agg (patD (.mk k n i s a b c l)), .agg (patD (.mk k' n' i' s' a' b' c' l'))] (fun r => r = .v (.bool e)) := by
  have h1 := asks_c (.mk k n i s a b c l)
  have h2 := asks_c (.mk k' n' i' s' a' b' c' l')
  have o2 := popen_c (.mk k' n' i' s' a' b' c' l')
  rw [ha] at h1
  rw [hb] at h2
  rw [ob] at o2
  refine enterP 87 Try.func34 rfl (by kernel_rfl) rfl rfl rfl ?_
  repeat' (first | refine s_op rfl ?_ | (apply s_skipV; (iterate 2 (exact rfl))) | (apply s_move; (iterate 4 (exact rfl))) | (apply s_ld_f tab_ok; (iterate 6 (exact rfl))) | (apply s_assign; (iterate 4 (exact rfl))) | (apply s_pick_t; (iterate 5 (exact rfl))) | (apply s_pick_f; (iterate 5 (exact rfl))) | (apply s_ext; (iterate 5 (exact rfl))) | (apply s_alloc tabZ_ok; (iterate 7 (exact rfl))) | (apply s_boxZ; (iterate 5 (exact rfl)); first | exact rfl | exact allD_mapd _) | (apply s_store tab_ok; (iterate 10 (exact rfl))) | (apply s_not_t; (iterate 4 (exact rfl))) | (apply s_not_f; (iterate 4 (exact rfl))) | (apply s_call; (iterate 6 (exact rfl)); first | (exact h1; rintro _ rfl) | (exact h2; rintro _ rfl) | (exact o2; rintro _ rfl) | (exact he; rintro _ rfl)) | refine al_nil ?_ | refine q_then_n ?_ | refine q_blk_r ?_ | refine aw_block ?_ | refine q_then_r ?_ | refine aw_seq ?_ | refine aw_reg ?_ | refine aw_true rfl ?_ | refine aw_false rfl ?_ | refine aw_ret ?_)
  exact q_ret rfl ⟨_, rfl, rfl⟩

set_option maxRecDepth 100000 in
theorem apart5_c {h h' : Head} (ha : asksH (.mk k n i s a b c l) = some h) (hb : asksH (.mk k' n' i' s' a' b' c' l') = some h') (hne : h ≠ h') : RunsP Try.prog 34 [.agg (patD (.mk k n i s a b c l)), .agg (patD (.mk k' n' i' s' a' b' c' l'))] (fun r => r = .v (.bool true)) := by
  have h1 := asks_c (.mk k n i s a b c l)
  have h2 := asks_c (.mk k' n' i' s' a' b' c' l')
  rw [ha] at h1
  rw [hb] at h2
  refine enterP 87 Try.func34 rfl (by kernel_rfl) rfl rfl rfl ?_
  repeat' (first | refine s_op rfl ?_ | (apply s_skipV; (iterate 2 (exact rfl))) | (apply s_skipU; (iterate 3 (exact rfl))) | (apply s_move; (iterate 4 (exact rfl))) | (apply s_ld_p tab_ok; (iterate 7 (exact rfl))) | (apply s_ld_f tab_ok; (iterate 6 (exact rfl))) | (apply s_assign; (iterate 4 (exact rfl))) | (apply s_pick_t; (iterate 5 (exact rfl))) | (apply s_pick_f; (iterate 5 (exact rfl))) | (apply s_ext; (iterate 5 (exact rfl))) | (apply s_alloc tabZ_ok; (iterate 7 (exact rfl))) | (apply s_boxZ; (iterate 5 (exact rfl)); first | exact rfl | exact allD_mapd _) | (apply s_store tab_ok; (iterate 10 (exact rfl))) | (apply s_not_t; (iterate 4 (exact rfl))) | (apply s_ne127_t (f := h) (g := h'); (iterate 5 (exact rfl)); assumption) | (apply s_call; (iterate 6 (exact rfl)); first | (exact h1; rintro _ rfl) | (exact h2; rintro _ rfl)) | refine al_nil ?_ | refine q_then_n ?_ | refine q_blk_r ?_ | refine aw_block ?_ | refine q_then_r ?_ | refine aw_seq ?_ | refine aw_reg ?_ | refine aw_true rfl ?_ | refine aw_false rfl ?_ | refine aw_ret ?_)
  exact q_ret rfl ⟨_, rfl, rfl⟩

set_option maxRecDepth 100000 in
theorem apart6b_c {h : Head} (hl : l.length ≤ 9223372036854775807) (hl' : l'.length ≤ 9223372036854775807) (ha : asksH (.mk k n i s a b c l) = some h) (hb : asksH (.mk k' n' i' s' a' b' c' l') = some h) (h5 : h.kind = 5) (hne : l.length ≠ l'.length) : RunsP Try.prog 34 [.agg (patD (.mk k n i s a b c l)), .agg (patD (.mk k' n' i' s' a' b' c' l'))] (fun r => r = .v (.bool true)) := by
  have h1 := asks_c (.mk k n i s a b c l)
  have h2 := asks_c (.mk k' n' i' s' a' b' c' l')
  have e1 := patR_len l
  have e2 := patR_len l'
  rw [ha] at h1
  rw [hb] at h2
  refine enterP 87 Try.func34 rfl (by kernel_rfl) rfl rfl rfl ?_
  repeat' (first | refine s_op rfl ?_ | (apply s_skipV; (iterate 2 (exact rfl))) | (apply s_move; (iterate 4 (exact rfl))) | (apply s_fa_p tab_ok; (iterate 5 (exact rfl))) | (apply s_fa_f tab_ok; (iterate 6 (exact rfl))) | (apply s_ld_p tab_ok; (iterate 7 (exact rfl))) | (apply s_ld_f tab_ok; (iterate 6 (exact rfl))) | (apply s_assign; (iterate 4 (exact rfl))) | (apply s_pick_t; (iterate 5 (exact rfl))) | (apply s_pick_f; (iterate 5 (exact rfl))) | (apply s_len tab_ok; (iterate 5 (exact rfl))) | (apply s_ext; (iterate 5 (exact rfl))) | (apply s_alloc tabZ_ok; (iterate 7 (exact rfl))) | (apply s_boxZ; (iterate 5 (exact rfl)); first | exact rfl | exact allD_mapd _) | (apply s_store tab_ok; (iterate 10 (exact rfl))) | (apply s_not_t; (iterate 4 (exact rfl))) | (apply s_eql_t; (iterate 5 (exact rfl)); omega) | (apply s_neq_t; (iterate 5 (exact rfl)); omega) | (apply s_ne127_f (f := h) (g := h); (iterate 5 (exact rfl)); exact rfl) | (apply s_call; (iterate 6 (exact rfl)); first | (exact h1; rintro _ rfl) | (exact h2; rintro _ rfl)) | refine al_nil ?_ | refine q_then_n ?_ | refine q_blk_r ?_ | refine aw_block ?_ | refine q_then_r ?_ | refine aw_seq ?_ | refine aw_reg ?_ | refine aw_true rfl ?_ | refine aw_false rfl ?_ | refine aw_ret ?_)
  exact q_ret rfl ⟨_, rfl, rfl⟩

set_option maxRecDepth 100000 in
theorem apart6a_c {h : Head} (hl : l.length ≤ 9223372036854775807) (hl' : l'.length ≤ 9223372036854775807) (ha : asksH (.mk k n i s a b c l) = some h) (hb : asksH (.mk k' n' i' s' a' b' c' l') = some h) (h5 : h.kind ≠ 5) : RunsP Try.prog 34 [.agg (patD (.mk k n i s a b c l)), .agg (patD (.mk k' n' i' s' a' b' c' l'))] (fun r => r = .v (.bool false)) := by
  have h1 := asks_c (.mk k n i s a b c l)
  have h2 := asks_c (.mk k' n' i' s' a' b' c' l')
  have e1 := patR_len l
  have e2 := patR_len l'
  rw [ha] at h1
  rw [hb] at h2
  refine enterP 87 Try.func34 rfl (by kernel_rfl) rfl rfl rfl ?_
  repeat' (first | refine s_op rfl ?_ | (apply s_skipV; (iterate 2 (exact rfl))) | (apply s_move; (iterate 4 (exact rfl))) | (apply s_fa_p tab_ok; (iterate 5 (exact rfl))) | (apply s_fa_f tab_ok; (iterate 6 (exact rfl))) | (apply s_ld_p tab_ok; (iterate 7 (exact rfl))) | (apply s_ld_f tab_ok; (iterate 6 (exact rfl))) | (apply s_assign; (iterate 4 (exact rfl))) | (apply s_pick_f; (iterate 5 (exact rfl))) | (apply s_len tab_ok; (iterate 5 (exact rfl))) | (apply s_ext; (iterate 5 (exact rfl))) | (apply s_alloc tabZ_ok; (iterate 7 (exact rfl))) | (apply s_boxZ; (iterate 5 (exact rfl)); first | exact rfl | exact allD_mapd _) | (apply s_store tab_ok; (iterate 10 (exact rfl))) | (apply s_not_t; (iterate 4 (exact rfl))) | (apply s_eql_f; (iterate 5 (exact rfl)); omega) | (apply s_ne127_f (f := h) (g := h); (iterate 5 (exact rfl)); exact rfl) | (apply s_call; (iterate 6 (exact rfl)); first | (exact h1; rintro _ rfl) | (exact h2; rintro _ rfl)) | refine al_nil ?_ | refine q_then_n ?_ | refine q_blk_n ?_ | refine aw_block ?_ | refine aw_seq ?_ | refine aw_reg ?_ | refine aw_false rfl ?_ | refine aw_skip ?_)
  refine w_loop [3, 5, 67, 68, 69] (fun n0 vs' σ => ∃ j : Nat, vs' = [.d (.fptr (patD (.mk k' n' i' s' a' b' c' l'))), .ptr 0 0 0, .d (.lst 8 (patR l)), .d (.v (.int .i64 ((patR l).length : Int))), .d (.v (.int .i64 (j : Int)))] ∧ σ[0]? = some (.row 127 ((headD h).map .d)) ∧ j ≤ l.length ∧ n0 = l.length - j) rfl ⟨0, rfl, rfl, by omega, rfl⟩ ?_
  rintro n0 vs' σ ⟨j, rfl, hH, hj, rfl⟩ fr hfr
  cases hfr
  have hH0 := hH
  by_cases hlt : j < l.length
  · obtain ⟨⟨qk, qn, qi, qs, qa, qb, qc, ql⟩, hq⟩ := getS hlt
    repeat' (first | refine s_op rfl ?_ | (apply s_skipV; (iterate 2 (exact rfl))) | (apply s_move; (iterate 4 (exact rfl))) | (apply s_fa_p tab_ok; (iterate 5 (exact rfl))) | (apply s_ld_f tab_ok; (iterate 6 (exact rfl))) | (apply s_assign; (iterate 4 (exact rfl))) | (apply s_pick_f; (iterate 5 (exact rfl))) | (apply s_idx tab_ok; (iterate 7 (exact rfl)); (first | exact patR_get (by assumption) | exact valR_get (by assumption) | exact row_map (by assumption) | assumption)) | (apply s_eql_f; (iterate 5 (exact rfl)); omega) | (apply s_lss_t; (iterate 5 (exact rfl)); omega) | (apply s_add64; (iterate 5 (exact rfl)); omega) | (apply s_allocF tabZ_ok; (iterate 6 (exact rfl)); intro locX σ hc; have hX := hc.at'; replace hH := hc.keep hH; have nX := hc.ne hH0; clear hc) | (apply s_storeF tab_ok; (iterate 7 (exact rfl)); exact hX; (iterate 2 (exact rfl)); intro σ hc; replace hX := hc.at'; replace hH := hc.keep nX hH; clear hc) | (apply s_ldF tab_ok; (iterate 5 (exact rfl)); exact hH; exact rfl) | refine al_nil ?_ | refine q_then_n ?_ | refine q_blk_n ?_ | refine aw_block ?_ | refine aw_seq ?_ | refine aw_reg ?_ | refine aw_true rfl ?_ | refine aw_false rfl ?_ | refine aw_skip ?_ | refine aw_draws (id := 14) (trO [0, 1, 2, 3, 4, 5, 6, 7, 8, 9, 10, 11] .nil) [10] [] mixed_ok (by kernel_rfl) ?_)
    exact ⟨_, _, rfl, by omega, j + 1, rfl, hH, by omega, rfl⟩
  · repeat' (first | refine s_op rfl ?_ | (apply s_assign; (iterate 4 (exact rfl))) | (apply s_lss_f; (iterate 5 (exact rfl)); omega) | refine al_nil ?_ | refine q_then_n ?_ | refine q_blk_e ?_ | refine q_then_e ?_ | refine aw_exit ?_ | refine aw_seq ?_ | refine aw_reg ?_ | refine aw_false rfl ?_ | refine aw_ret ?_)
    exact q_ret rfl ⟨_, rfl, rfl⟩

set_option maxRecDepth 100000 in
theorem apart6c_c {h : Head} (hl : l.length ≤ 9223372036854775807) (ha : asksH (.mk k n i s a b c l) = some h) (hb : asksH (.mk k' n' i' s' a' b' c' l') = some h) (h5 : h.kind = 5) (he : l.length = l'.length)
    (ih : ∀ p ∈ l, ∀ q ∈ l', RunsP Try.prog 34 [.agg (patD p), .agg (patD q)] (fun r => r = .v (.bool (apartB p q)))) : RunsP Try.prog 34 [.agg (patD (.mk k n i s a b c l)), .agg (patD (.mk k' n' i' s' a' b' c' l'))] (fun r => r = .v (.bool (apartL l l'))) := by
  have h1 := asks_c (.mk k n i s a b c l)
  have h2 := asks_c (.mk k' n' i' s' a' b' c' l')
  have e1 := patR_len l
  have e2 := patR_len l'
  rw [ha] at h1
  rw [hb] at h2
  refine enterP 87 Try.func34 rfl (by kernel_rfl) rfl rfl rfl ?_
  repeat' (first | refine s_op rfl ?_ | (apply s_skipV; (iterate 2 (exact rfl))) | (apply s_move; (iterate 4 (exact rfl))) | (apply s_fa_p tab_ok; (iterate 5 (exact rfl))) | (apply s_fa_f tab_ok; (iterate 6 (exact rfl))) | (apply s_ld_p tab_ok; (iterate 7 (exact rfl))) | (apply s_ld_f tab_ok; (iterate 6 (exact rfl))) | (apply s_assign; (iterate 4 (exact rfl))) | (apply s_pick_t; (iterate 5 (exact rfl))) | (apply s_pick_f; (iterate 5 (exact rfl))) | (apply s_len tab_ok; (iterate 5 (exact rfl))) | (apply s_ext; (iterate 5 (exact rfl))) | (apply s_alloc tabZ_ok; (iterate 7 (exact rfl))) | (apply s_boxZ; (iterate 5 (exact rfl)); first | exact rfl | exact allD_mapd _) | (apply s_store tab_ok; (iterate 10 (exact rfl))) | (apply s_not_t; (iterate 4 (exact rfl))) | (apply s_eql_t; (iterate 5 (exact rfl)); omega) | (apply s_neq_f; (iterate 5 (exact rfl)); omega) | (apply s_ne127_f (f := h) (g := h); (iterate 5 (exact rfl)); exact rfl) | (apply s_call; (iterate 6 (exact rfl)); first | (exact h1; rintro _ rfl) | (exact h2; rintro _ rfl)) | refine al_nil ?_ | refine q_then_n ?_ | refine q_blk_n ?_ | refine aw_block ?_ | refine aw_seq ?_ | refine aw_reg ?_ | refine aw_false rfl ?_ | refine aw_skip ?_)
  refine w_loop [3, 5, 67, 68, 69] (fun n0 vs' σ => ∃ j : Nat, vs' = [.d (.fptr (patD (.mk k' n' i' s' a' b' c' l'))), .ptr 0 0 0, .d (.lst 8 (patR l)), .d (.v (.int .i64 ((patR l).length : Int))), .d (.v (.int .i64 (j : Int)))] ∧ σ[0]? = some (.row 127 ((headD h).map .d)) ∧ j ≤ l.length ∧ n0 = l.length - j ∧ apartL l l' = apartL (l.drop j) (l'.drop j)) rfl ⟨0, rfl, rfl, by omega, rfl, rfl⟩ ?_
  rintro n0 vs' σ ⟨j, rfl, hH, hj, rfl, hs⟩ fr hfr
  cases hfr
  have hH0 := hH
  by_cases hlt : j < l.length
  · obtain ⟨⟨qk, qn, qi, qs, qa, qb, qc, ql⟩, hq⟩ := getS hlt
    obtain ⟨u, hu⟩ : ∃ u, l'[j]? = some u := getS (by omega)
    have hr := ih _ (List.mem_of_getElem? hq) u (List.mem_of_getElem? hu)
    rw [apartL_drop hq hu] at hs
    cases hb2 : apartB (.mk qk qn qi qs qa qb qc ql) u <;> rw [hb2] at hr hs
    · repeat' (first | refine s_op rfl ?_ | (apply s_move; (iterate 4 (exact rfl))) | (apply s_fa_p tab_ok; (iterate 5 (exact rfl))) | (apply s_fa_f tab_ok; (iterate 6 (exact rfl))) | (apply s_ld_f tab_ok; (iterate 6 (exact rfl))) | (apply s_ld_w tab_ok; (iterate 5 (exact rfl)); (first | exact patD_len _ | exact valD_len _)) | (apply s_assign; (iterate 4 (exact rfl))) | (apply s_pick_t; (iterate 5 (exact rfl))) | (apply s_idx tab_ok; (iterate 7 (exact rfl)); (first | exact patR_get (by assumption) | exact valR_get (by assumption) | exact row_map (by assumption) | assumption)) | (apply s_eql_t; (iterate 5 (exact rfl)); omega) | (apply s_lss_t; (iterate 5 (exact rfl)); omega) | (apply s_add64; (iterate 5 (exact rfl)); omega) | (apply s_allocF tabZ_ok; (iterate 6 (exact rfl)); intro locX σ hc; have hX := hc.at'; replace hH := hc.keep hH; have nX := hc.ne hH0; clear hc) | (apply s_storeF tab_ok; (iterate 7 (exact rfl)); exact hX; (iterate 2 (exact rfl)); intro σ hc; replace hX := hc.at'; replace hH := hc.keep nX hH; clear hc) | (apply s_ldF tab_ok; (iterate 5 (exact rfl)); exact hX; exact rfl) | (apply s_ldF tab_ok; (iterate 5 (exact rfl)); exact hH; exact rfl) | (apply s_call; (iterate 6 (exact rfl)); first | (exact hr; rintro _ rfl)) | refine al_nil ?_ | refine q_then_n ?_ | refine q_blk_n ?_ | refine aw_block ?_ | refine aw_seq ?_ | refine aw_reg ?_ | refine aw_true rfl ?_ | refine aw_false rfl ?_ | refine aw_skip ?_ | refine aw_draws (id := 14) (trO [0, 1, 2, 3, 4, 5, 6, 7, 8, 9, 10, 11] .nil) [10] [] mixed_ok (by kernel_rfl) ?_)
      exact ⟨_, _, rfl, by omega, j + 1, rfl, hH, by omega, rfl, by simpa using hs⟩
    · repeat' (first | refine s_op rfl ?_ | (apply s_move; (iterate 4 (exact rfl))) | (apply s_fa_p tab_ok; (iterate 5 (exact rfl))) | (apply s_fa_f tab_ok; (iterate 6 (exact rfl))) | (apply s_ld_f tab_ok; (iterate 6 (exact rfl))) | (apply s_ld_w tab_ok; (iterate 5 (exact rfl)); (first | exact patD_len _ | exact valD_len _)) | (apply s_assign; (iterate 4 (exact rfl))) | (apply s_pick_t; (iterate 5 (exact rfl))) | (apply s_idx tab_ok; (iterate 7 (exact rfl)); (first | exact patR_get (by assumption) | exact valR_get (by assumption) | exact row_map (by assumption) | assumption)) | (apply s_eql_t; (iterate 5 (exact rfl)); omega) | (apply s_lss_t; (iterate 5 (exact rfl)); omega) | (apply s_allocF tabZ_ok; (iterate 6 (exact rfl)); intro locX σ hc; have hX := hc.at'; replace hH := hc.keep hH; have nX := hc.ne hH0; clear hc) | (apply s_storeF tab_ok; (iterate 7 (exact rfl)); exact hX; (iterate 2 (exact rfl)); intro σ hc; replace hX := hc.at'; replace hH := hc.keep nX hH; clear hc) | (apply s_ldF tab_ok; (iterate 5 (exact rfl)); exact hX; exact rfl) | (apply s_ldF tab_ok; (iterate 5 (exact rfl)); exact hH; exact rfl) | (apply s_call; (iterate 6 (exact rfl)); first | (exact hr; rintro _ rfl)) | refine al_nil ?_ | refine q_then_n ?_ | refine q_blk_r ?_ | refine aw_block ?_ | refine q_then_r ?_ | refine aw_seq ?_ | refine aw_reg ?_ | refine aw_true rfl ?_ | refine aw_skip ?_ | refine aw_ret ?_ | refine aw_draws (id := 14) (trO [0, 1, 2, 3, 4, 5, 6, 7, 8, 9, 10, 11] .nil) [10] [] mixed_ok (by kernel_rfl) ?_)
      exact q_ret rfl ⟨_, rfl, by simp [hs]⟩
  · have : l.drop j = [] := List.drop_eq_nil_of_le (by omega)
    rw [this] at hs
    repeat' (first | refine s_op rfl ?_ | (apply s_assign; (iterate 4 (exact rfl))) | (apply s_lss_f; (iterate 5 (exact rfl)); omega) | refine al_nil ?_ | refine q_then_n ?_ | refine q_blk_e ?_ | refine q_then_e ?_ | refine aw_exit ?_ | refine aw_seq ?_ | refine aw_reg ?_ | refine aw_false rfl ?_ | refine aw_ret ?_)
    exact q_ret rfl ⟨_, rfl, by simp [hs, apartL]⟩
end
end Go.Proofs.Ytjflembhgjcgkaa
