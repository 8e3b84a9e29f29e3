/- strings.HasPrefix, strings.Contains. -/
import Derived.Test.YtlpgekodoiioaaaX2
import Derived.Test.YtlpgekodoiioaaaAf
set_option linter.unusedSimpArgs false
set_option linter.unusedVariables false
namespace Go.Proofs.Ytlpgekodoiioaaa
open Go.RowKit

theorem ix_p (s : ByteArray) (hs : s.size ≤ 4000) : RunsP Try.prog 55 [.v (.string s), .v (.string nl)] (fun v => v = .v (.int .i64 (Lib.indexByte s.data.toList 10))) :=
  runsP_same (by kernel_rfl) (plain_cons (plain_cons plain_nil)) (fun G => ⟨rfl, rfl⟩) fun w => Calls.mono (ix_c s hs) fun e w' ⟨h, q⟩ => ⟨h, by subst q; exact Below.refl _ _⟩

set_option maxRecDepth 100000 in
theorem index_p (s : ByteArray) (hs : s.size ≤ 4000) : RunsP Try.prog 50 [.v (.string s), .v (.string nl)] (fun v => v = .v (.int .i64 (Lib.indexByte s.data.toList 10))) := by
  refine Runs.pure (Runs.mono (post := fun v _ => v = .d (.v (.int .i64 (Lib.indexByte s.data.toList 10)))) ?_ fun v _ h => ⟨_, h, rfl⟩)
  refine enter 8 Try.func50 rfl (by kernel_rfl) rfl rfl rfl ?_
  have hc := ix_p s hs
  repeat' (first
      | refine s_op rfl ?_ | (apply s_move; (iterate 4 (exact rfl))) | (apply s_assign; (iterate 4 (exact rfl)))
      | (apply s_call; (iterate 6 (exact rfl)); first | (exact hc; rintro _ rfl))
      | refine al_nil ?_ | refine q_then_n ?_ | refine q_then_r ?_ | refine aw_seq ?_ | refine aw_reg ?_
      | refine aw_ret ?_)
  exact q_ret rfl rfl

theorem index_nl (s : ByteArray) : decide (Lib.indexByte s.data.toList 10 ≥ 0) = (lineOf s.data.toList).2 := by
  rcases lineOf_index s.data.toList with ⟨h1, h2⟩ | ⟨i, h1, _, h2⟩
  · rw [h1, h2]; rfl
  · rw [h1, h2]; simp

set_option maxRecDepth 100000 in
theorem contains_p (s : ByteArray) (hs : s.size ≤ 4000) : RunsP Try.prog 30 [.v (.string s), .v (.string nl)] (fun v => v = .v (.bool (lineOf s.data.toList).2)) := by
  refine Runs.pure (Runs.mono (post := fun v _ => v = .d (.v (.bool (lineOf s.data.toList).2))) ?_ fun v _ h => ⟨_, h, rfl⟩)
  refine enter 9 Try.func30 rfl (by kernel_rfl) rfl rfl rfl ?_
  have hc := index_p s hs
  rcases lineOf_index s.data.toList with ⟨h1, h2⟩ | ⟨i, h1, _, h2⟩
  · rw [h1] at hc
    rw [h2]
    repeat' (first
      | refine s_op rfl ?_ | (apply s_move; (iterate 4 (exact rfl))) | (apply s_assign; (iterate 4 (exact rfl))) | (apply s_geq_t; (iterate 5 (exact rfl)); omega) | (apply s_geq_f; (iterate 5 (exact rfl)); omega)
      | (apply s_call; (iterate 6 (exact rfl)); first | (exact hc; rintro _ rfl))
      | refine al_nil ?_ | refine q_then_n ?_ | refine q_then_r ?_ | refine aw_seq ?_ | refine aw_reg ?_
      | refine aw_ret ?_)
    exact q_ret rfl rfl
  · rw [h1] at hc
    rw [h2]
    repeat' (first
      | refine s_op rfl ?_ | (apply s_move; (iterate 4 (exact rfl))) | (apply s_assign; (iterate 4 (exact rfl))) | (apply s_geq_t; (iterate 5 (exact rfl)); omega) | (apply s_geq_f; (iterate 5 (exact rfl)); omega)
      | (apply s_call; (iterate 6 (exact rfl)); first | (exact hc; rintro _ rfl))
      | refine al_nil ?_ | refine q_then_n ?_ | refine q_then_r ?_ | refine aw_seq ?_ | refine aw_reg ?_
      | refine aw_ret ?_)
    exact q_ret rfl rfl

set_option maxRecDepth 100000 in
theorem prefix49_p (s p : ByteArray) (hs : s.size ≤ 9223372036854775807) (hp : p.size ≤ 9223372036854775807) : RunsP Try.prog 49 [.v (.string s), .v (.string p)] (fun v => v = .v (.bool (decide (p.size ≤ s.size ∧ s.extract 0 p.size = p)))) := by
  refine Runs.pure (Runs.mono (post := fun v _ => v = .d (.v (.bool (decide (p.size ≤ s.size ∧ s.extract 0 p.size = p))))) ?_ fun v _ h => ⟨_, h, rfl⟩)
  refine enter 18 Try.func49 rfl (by kernel_rfl) rfl rfl rfl ?_
  by_cases h : p.size ≤ s.size
  · generalize hq : s.extract 0 p.size = q
    by_cases he : q = p
    · rw [show decide (p.size ≤ s.size ∧ q = p) = true by simp [h, he]]
      repeat' (first
      | refine s_op rfl ?_ | (apply s_skipV; (iterate 2 (exact rfl))) | (apply s_skipU; (iterate 3 (exact rfl))) | (apply s_move; (iterate 4 (exact rfl))) | (apply s_assign; (iterate 4 (exact rfl)))
      | (apply s_pick_t; (iterate 5 (exact rfl))) | (apply s_pick_f; (iterate 5 (exact rfl))) | (apply s_len tab_ok; (iterate 5 (exact rfl))) | (apply s_lens str_ok; (iterate 4 (exact rfl))) | (apply s_slice tab_ok; (iterate 8 (exact rfl)); (simp; omega))
      | (apply s_eql_t; (iterate 5 (exact rfl)); omega) | (apply s_eql_f; (iterate 5 (exact rfl)); omega) | (apply s_geq_t; (iterate 5 (exact rfl)); omega) | (apply s_geq_f; (iterate 5 (exact rfl)); omega) | (apply s_streq_t; (iterate 5 (exact rfl)); assumption)
      | (apply s_streq_f; (iterate 5 (exact rfl)); assumption)
      | (apply s_sliceSV q str_ok; (iterate 6 (exact rfl)); (simp; omega); (simpa using hq))
      | refine al_nil ?_ | refine q_then_n ?_ | refine q_then_r ?_ | refine aw_seq ?_ | refine aw_reg ?_
      | refine aw_ret ?_)
      exact q_ret rfl rfl
    · rw [show decide (p.size ≤ s.size ∧ q = p) = false by simp [he]]
      repeat' (first
      | refine s_op rfl ?_ | (apply s_skipV; (iterate 2 (exact rfl))) | (apply s_skipU; (iterate 3 (exact rfl))) | (apply s_move; (iterate 4 (exact rfl))) | (apply s_assign; (iterate 4 (exact rfl)))
      | (apply s_pick_t; (iterate 5 (exact rfl))) | (apply s_pick_f; (iterate 5 (exact rfl))) | (apply s_len tab_ok; (iterate 5 (exact rfl))) | (apply s_lens str_ok; (iterate 4 (exact rfl))) | (apply s_slice tab_ok; (iterate 8 (exact rfl)); (simp; omega))
      | (apply s_eql_t; (iterate 5 (exact rfl)); omega) | (apply s_eql_f; (iterate 5 (exact rfl)); omega) | (apply s_geq_t; (iterate 5 (exact rfl)); omega) | (apply s_geq_f; (iterate 5 (exact rfl)); omega) | (apply s_streq_t; (iterate 5 (exact rfl)); assumption)
      | (apply s_streq_f; (iterate 5 (exact rfl)); assumption)
      | (apply s_sliceSV q str_ok; (iterate 6 (exact rfl)); (simp; omega); (simpa using hq))
      | refine al_nil ?_ | refine q_then_n ?_ | refine q_then_r ?_ | refine aw_seq ?_ | refine aw_reg ?_
      | refine aw_ret ?_)
      exact q_ret rfl rfl
  · rw [show decide (p.size ≤ s.size ∧ s.extract 0 p.size = p) = false by simp [h]]
    repeat' (first
      | refine s_op rfl ?_ | (apply s_skipV; (iterate 2 (exact rfl))) | (apply s_skipU; (iterate 3 (exact rfl))) | (apply s_move; (iterate 4 (exact rfl))) | (apply s_assign; (iterate 4 (exact rfl)))
      | (apply s_pick_t; (iterate 5 (exact rfl))) | (apply s_pick_f; (iterate 5 (exact rfl))) | (apply s_len tab_ok; (iterate 5 (exact rfl))) | (apply s_lens str_ok; (iterate 4 (exact rfl))) | (apply s_slice tab_ok; (iterate 8 (exact rfl)); (simp; omega))
      | (apply s_eql_t; (iterate 5 (exact rfl)); omega) | (apply s_eql_f; (iterate 5 (exact rfl)); omega) | (apply s_geq_t; (iterate 5 (exact rfl)); omega) | (apply s_geq_f; (iterate 5 (exact rfl)); omega) | (apply s_streq_t; (iterate 5 (exact rfl)); assumption)
      | (apply s_streq_f; (iterate 5 (exact rfl)); assumption)
      | refine al_nil ?_ | refine q_then_n ?_ | refine q_then_r ?_ | refine aw_seq ?_ | refine aw_reg ?_
      | refine aw_ret ?_)
    exact q_ret rfl rfl

set_option maxRecDepth 100000 in
theorem prefix_p (s p : ByteArray) (hs : s.size ≤ 9223372036854775807) (hp : p.size ≤ 9223372036854775807) : RunsP Try.prog 29 [.v (.string s), .v (.string p)] (fun v => v = .v (.bool (decide (p.size ≤ s.size ∧ s.extract 0 p.size = p)))) := by
  refine Runs.pure (Runs.mono (post := fun v _ => v = .d (.v (.bool (decide (p.size ≤ s.size ∧ s.extract 0 p.size = p))))) ?_ fun v _ h => ⟨_, h, rfl⟩)
  refine enter 8 Try.func29 rfl (by kernel_rfl) rfl rfl rfl ?_
  have hc := prefix49_p s p hs hp
  repeat' (first
      | refine s_op rfl ?_ | (apply s_move; (iterate 4 (exact rfl))) | (apply s_assign; (iterate 4 (exact rfl)))
      | (apply s_call; (iterate 6 (exact rfl)); first | (exact hc; rintro _ rfl))
      | refine al_nil ?_ | refine q_then_n ?_ | refine q_then_r ?_ | refine aw_seq ?_ | refine aw_reg ?_
      | refine aw_ret ?_)
  exact q_ret rfl rfl
end Go.Proofs.Ytlpgekodoiioaaa
