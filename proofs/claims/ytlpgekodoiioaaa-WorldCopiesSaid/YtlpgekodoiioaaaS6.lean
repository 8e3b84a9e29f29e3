/- WorldCopies: the walk. -/
import Derived.Test.YtlpgekodoiioaaaV2
set_option linter.unusedSimpArgs false
set_option linter.unusedVariables false
namespace Go.Proofs.Ytlpgekodoiioaaa
open Go.RowKit

set_option maxRecDepth 100000 in
set_option maxHeartbeats 8000000 in
theorem copies_c (files : List AFile) (fails : List Bool) (script more instead : List ADo) (hf : files.length ≤ 9223372036854775807) (hs1 : script.length ≤ 9223372036854775807) (hs2 : more.length ≤ 9223372036854775807) (hs3 : instead.length ≤ 9223372036854775807)
    (hx1 : ∀ x ∈ script, x.s.size ≤ maxLen) (hx2 : ∀ x ∈ more, x.s.size ≤ maxLen) (hx3 : ∀ x ∈ instead, x.s.size ≤ maxLen) :
    Runs Try.prog 6 [.d (filesD files), .d (boolsD fails), .d (dosD script), .d (dosD more), .d (dosD instead)] [] (fun v _ => v = .d (.v (.bool true))) := by
  refine enter 120 Try.func6 rfl (by kernel_rfl) rfl rfl rfl ?_
  by_cases hb : fails.length ≤ 10000 ∧ script.length ≤ 300 ∧ more.length ≤ 300 ∧ instead.length ≤ 300
  · obtain ⟨hb1, hb2, hb3, hb4⟩ := hb
    by_cases hok : NewOk files
    · have cn := fun σ => new_f (σ := σ) files fails (by omega) hok
      have ok0 := ok_new (fails := fails) hok
      have hW0 : (⟨files, fails, [], []⟩ : AW).fails.length ≤ 10000 := hb1
      generalize (⟨files, fails, [], []⟩ : AW) = W0 at cn ok0 hW0
      obtain ⟨W1, hW1⟩ : ∃ W1, runW W0 script = W1 := ⟨_, rfl⟩
      have ok1 := ok_run (n := 0) (l := script) ok0
      have fl1 := run_fails script W0
      rw [hW1] at ok1 fl1
      have c1 := fun σ loc hA => run_w (σ := σ) (loc := loc) script hA ok0 (by omega) hx1
      rw [hW1] at c1
      have cc := fun σ loc hA => copy_f (σ := σ) (loc := loc) hA ok1 (by omega) (by omega)
      obtain ⟨W2, hW2⟩ : ∃ W2, runW W1 more = W2 := ⟨_, rfl⟩
      have ok2 := ok_run (n := 0) (l := more) ok1
      rw [hW2] at ok2
      have c2 := fun σ loc hA => run_w (σ := σ) (loc := loc) more hA ok1 (by omega) hx2
      rw [hW2] at c2
      obtain ⟨W3, hW3⟩ : ∃ W3, runW W1 instead = W3 := ⟨_, rfl⟩
      have ok3 := ok_run (n := 0) (l := instead) ok1
      rw [hW3] at ok3
      have c3 := fun σ loc hA => run_w (σ := σ) (loc := loc) instead hA ok1 (by omega) hx3
      rw [hW3] at c3
      have f2 := fun σ loc hA => files_w (σ := σ) (loc := loc) hA ok2
      have f3 := fun σ loc hA => files_w (σ := σ) (loc := loc) hA ok3
      have t2 := fun σ loc hA => trace_w (σ := σ) (loc := loc) hA ok2 (by omega)
      have t3 := fun σ loc hA => trace_w (σ := σ) (loc := loc) hA ok3 (by omega)
      have h2 := fun σ loc hA => handles_w (σ := σ) (loc := loc) hA ok2 (by omega)
      have sf2 : RunsP Try.prog 25 [filesD W2.files, filesD W2.files] (fun v => v = .v (.bool true)) := by
        have := sameFiles_c W2.files W2.files (Nat.le_trans ok2.few (by omega)); simpa using this
      have sf3 : RunsP Try.prog 25 [filesD W3.files, filesD W3.files] (fun v => v = .v (.bool true)) := by
        have := sameFiles_c W3.files W3.files (Nat.le_trans ok3.few (by omega)); simpa using this
      have st2 : RunsP Try.prog 27 [traceD W2.trace, traceD W2.trace] (fun v => v = .v (.bool true)) := by
        have := sameTrace_c W2.trace W2.trace (Nat.le_trans ok2.trace (by omega)); simpa using this
      have st3 : RunsP Try.prog 27 [traceD W3.trace, traceD W3.trace] (fun v => v = .v (.bool true)) := by
        have := sameTrace_c W3.trace W3.trace (Nat.le_trans ok3.trace (by omega)); simpa using this
      repeat' (first
      | refine s_op rfl ?_ | (apply s_skipV; (iterate 2 (exact rfl))) | (apply s_skipU; (iterate 3 (exact rfl))) | (apply s_move; (iterate 4 (exact rfl))) | (apply s_assign; (iterate 4 (exact rfl)))
      | (apply s_pick_t; (iterate 5 (exact rfl))) | (apply s_pick_f; (iterate 5 (exact rfl))) | (apply s_len tab_ok; (iterate 5 (exact rfl))) | (apply s_lens str_ok; (iterate 4 (exact rfl))) | (apply s_ext; (iterate 5 (exact rfl)))
      | (apply s_not_t; (iterate 4 (exact rfl))) | (apply s_not_f; (iterate 4 (exact rfl))) | (apply s_not; (iterate 4 (exact rfl))) | (apply s_eql_t; (iterate 5 (exact rfl)); omega) | (apply s_eql_f; (iterate 5 (exact rfl)); omega)
      | (apply s_neq_t; (iterate 5 (exact rfl)); omega) | (apply s_neq_f; (iterate 5 (exact rfl)); omega)
      | (apply s_call; (iterate 6 (exact rfl)); first | (exact known_p; rintro _ rfl) | (exact great_p _ _ (by assumption); rintro _ (rfl | ⟨rfl, hg⟩) <;> (try (exfalso; omega))) | (exact heavy_p _ (by assumption); rintro _ (rfl | ⟨rfl, hg⟩) <;> (try (exfalso; omega))))
      | refine al_nil ?_ | refine q_then_n ?_ | refine q_then_r ?_ | refine aw_seq ?_ | refine aw_reg ?_
      | refine aw_true rfl ?_ | refine aw_false rfl ?_ | refine aw_skip ?_ | refine aw_ret ?_)
      any_goals exact q_ret rfl rfl
      skip
      refine o_keep [0, 1, 2, 3, 4, 10, 36, 37] rfl rfl ?_
      repeat' (first
      | refine s_op rfl ?_ | (apply s_skipV; (iterate 2 (exact rfl))) | (apply s_skipU; (iterate 3 (exact rfl))) | (apply s_move; (iterate 4 (exact rfl))) | (apply s_assign; (iterate 4 (exact rfl)))
      | (apply s_pick_t; (iterate 5 (exact rfl))) | (apply s_pick_f; (iterate 5 (exact rfl))) | (apply s_len tab_ok; (iterate 5 (exact rfl))) | (apply s_lens str_ok; (iterate 4 (exact rfl))) | (apply s_ext; (iterate 5 (exact rfl)))
      | (apply s_not_t; (iterate 4 (exact rfl))) | (apply s_not_f; (iterate 4 (exact rfl))) | (apply s_not; (iterate 4 (exact rfl))) | (apply s_eql_t; (iterate 5 (exact rfl)); omega) | (apply s_eql_f; (iterate 5 (exact rfl)); omega)
      | (apply s_neq_t; (iterate 5 (exact rfl)); omega) | (apply s_neq_f; (iterate 5 (exact rfl)); omega)
      | (apply s_callS; (iterate 6 (exact rfl)); first | (exact cn _; rintro _ σ ⟨locB, rfl, hc⟩; have hB := hc.at'; have nAB := hc.ne hA; replace hA := hc.keep hA; clear hc) | (exact cn _; rintro _ σ ⟨locA, rfl, hc⟩; have hA := hc.at'; clear hc) | (exact c1 _ _ hA; rintro _ σ ⟨rfl, hc⟩; replace hA := hc.at'; replace hB := hc.keep (by first | assumption | (apply Ne.symm; assumption)) hB; clear hc) | (exact c1 _ _ hB; rintro _ σ ⟨rfl, hc⟩; replace hB := hc.at'; replace hA := hc.keep (by first | assumption | (apply Ne.symm; assumption)) hA; clear hc))
      | refine al_nil ?_ | refine q_then_n ?_ | refine q_then_r ?_ | refine aw_seq ?_ | refine aw_reg ?_
      | refine aw_true rfl ?_ | refine aw_false rfl ?_ | refine aw_skip ?_ | refine aw_ret ?_)
      refine o_keep [0, 1, 2, 3, 4, 10, 11, 13, 62] rfl rfl ?_
      repeat' (first
      | refine s_op rfl ?_ | (apply s_skipV; (iterate 2 (exact rfl))) | (apply s_skipU; (iterate 3 (exact rfl))) | (apply s_move; (iterate 4 (exact rfl))) | (apply s_assign; (iterate 4 (exact rfl)))
      | (apply s_pick_t; (iterate 5 (exact rfl))) | (apply s_pick_f; (iterate 5 (exact rfl))) | (apply s_len tab_ok; (iterate 5 (exact rfl))) | (apply s_lens str_ok; (iterate 4 (exact rfl))) | (apply s_ext; (iterate 5 (exact rfl)))
      | (apply s_not_t; (iterate 4 (exact rfl))) | (apply s_not_f; (iterate 4 (exact rfl))) | (apply s_not; (iterate 4 (exact rfl))) | (apply s_eql_t; (iterate 5 (exact rfl)); omega) | (apply s_eql_f; (iterate 5 (exact rfl)); omega)
      | (apply s_neq_t; (iterate 5 (exact rfl)); omega) | (apply s_neq_f; (iterate 5 (exact rfl)); omega)
      | (apply s_callS; (iterate 6 (exact rfl)); first | (exact cc _ _ hA; rintro _ σ ⟨locC, rfl, hc⟩; have hC := hc.at'; have nAC := hc.ne hA; replace hA := hc.keep hA; have nBC := hc.ne hB; replace hB := hc.keep hB; clear hc) | (exact c3 _ _ hC; rintro _ σ ⟨rfl, hc⟩; replace hC := hc.at'; replace hA := hc.keep (by first | assumption | (apply Ne.symm; assumption)) hA; replace hB := hc.keep (by first | assumption | (apply Ne.symm; assumption)) hB; clear hc) | (exact c2 _ _ hA; rintro _ σ ⟨rfl, hc⟩; replace hA := hc.at'; replace hB := hc.keep (by first | assumption | (apply Ne.symm; assumption)) hB; replace hC := hc.keep (by first | assumption | (apply Ne.symm; assumption)) hC; clear hc) | (exact c2 _ _ hB; rintro _ σ ⟨rfl, hc⟩; replace hB := hc.at'; replace hA := hc.keep (by first | assumption | (apply Ne.symm; assumption)) hA; replace hC := hc.keep (by first | assumption | (apply Ne.symm; assumption)) hC; clear hc))
      | refine al_nil ?_ | refine q_then_n ?_ | refine q_then_r ?_ | refine aw_seq ?_ | refine aw_reg ?_
      | refine aw_true rfl ?_ | refine aw_false rfl ?_ | refine aw_skip ?_ | refine aw_ret ?_)
      refine o_keep [0, 1, 2, 4, 10, 11, 13, 15, 73] rfl rfl ?_
      clear c2 c3 cc
      repeat' (first
      | refine s_op rfl ?_ | (apply s_skipV; (iterate 2 (exact rfl))) | (apply s_skipU; (iterate 3 (exact rfl))) | (apply s_move; (iterate 4 (exact rfl))) | (apply s_assign; (iterate 4 (exact rfl)))
      | (apply s_pick_t; (iterate 5 (exact rfl))) | (apply s_pick_f; (iterate 5 (exact rfl))) | (apply s_len tab_ok; (iterate 5 (exact rfl))) | (apply s_lens str_ok; (iterate 4 (exact rfl))) | (apply s_ext; (iterate 5 (exact rfl)))
      | (apply s_not_t; (iterate 4 (exact rfl))) | (apply s_not_f; (iterate 4 (exact rfl))) | (apply s_not; (iterate 4 (exact rfl))) | (apply s_eql_t; (iterate 5 (exact rfl)); omega) | (apply s_eql_f; (iterate 5 (exact rfl)); omega)
      | (apply s_neq_t; (iterate 5 (exact rfl)); omega) | (apply s_neq_f; (iterate 5 (exact rfl)); omega)
      | (apply s_call; (iterate 6 (exact rfl)); first | (exact sf2; rintro _ rfl) | (exact st2; rintro _ rfl))
      | (apply s_callS; (iterate 6 (exact rfl)); first | (exact f2 _ _ hA; rintro _ _ ⟨rfl, rfl⟩) | (exact f2 _ _ hB; rintro _ _ ⟨rfl, rfl⟩) | (exact t2 _ _ hA; rintro _ _ ⟨rfl, rfl⟩) | (exact t2 _ _ hB; rintro _ _ ⟨rfl, rfl⟩) | (exact h2 _ _ hA; rintro _ _ ⟨rfl, rfl⟩) | (exact h2 _ _ hB; rintro _ _ ⟨rfl, rfl⟩))
      | refine al_nil ?_ | refine q_then_n ?_ | refine q_then_r ?_ | refine aw_seq ?_ | refine aw_reg ?_
      | refine aw_true rfl ?_ | refine aw_false rfl ?_ | refine aw_skip ?_ | refine aw_ret ?_)
      refine o_keep [0, 1, 2, 4, 10, 15, 97, 98] rfl rfl ?_
      clear f2 t2 h2 sf2 st2 hA hB nAB
      have c3 := fun σ loc hA => run_w (σ := σ) (loc := loc) instead hA ok1 (by omega) hx3
      rw [hW3] at c3
      repeat' (first
      | refine s_op rfl ?_ | (apply s_skipV; (iterate 2 (exact rfl))) | (apply s_skipU; (iterate 3 (exact rfl))) | (apply s_move; (iterate 4 (exact rfl))) | (apply s_assign; (iterate 4 (exact rfl)))
      | (apply s_pick_t; (iterate 5 (exact rfl))) | (apply s_pick_f; (iterate 5 (exact rfl))) | (apply s_len tab_ok; (iterate 5 (exact rfl))) | (apply s_lens str_ok; (iterate 4 (exact rfl))) | (apply s_ext; (iterate 5 (exact rfl)))
      | (apply s_not_t; (iterate 4 (exact rfl))) | (apply s_not_f; (iterate 4 (exact rfl))) | (apply s_not; (iterate 4 (exact rfl))) | (apply s_eql_t; (iterate 5 (exact rfl)); omega) | (apply s_eql_f; (iterate 5 (exact rfl)); omega)
      | (apply s_neq_t; (iterate 5 (exact rfl)); omega) | (apply s_neq_f; (iterate 5 (exact rfl)); omega)
      | (apply s_call; (iterate 6 (exact rfl)); first | (exact sf3; rintro _ rfl) | (exact st3; rintro _ rfl))
      | (apply s_callS; (iterate 6 (exact rfl)); first | (exact cn _; rintro _ σ ⟨locD, rfl, hc⟩; have hD := hc.at'; have nCD := hc.ne hC; replace hC := hc.keep hC; clear hc) | (exact c1 _ _ hD; rintro _ σ ⟨rfl, hc⟩; replace hD := hc.at'; replace hC := hc.keep (by first | assumption | (apply Ne.symm; assumption)) hC; clear hc) | (exact c3 _ _ hD; rintro _ σ ⟨rfl, hc⟩; replace hD := hc.at'; replace hC := hc.keep (by first | assumption | (apply Ne.symm; assumption)) hC; clear hc) | (exact f3 _ _ hC; rintro _ _ ⟨rfl, rfl⟩) | (exact f3 _ _ hD; rintro _ _ ⟨rfl, rfl⟩) | (exact t3 _ _ hC; rintro _ _ ⟨rfl, rfl⟩) | (exact t3 _ _ hD; rintro _ _ ⟨rfl, rfl⟩))
      | refine al_nil ?_ | refine q_then_n ?_ | refine q_then_r ?_ | refine aw_seq ?_ | refine aw_reg ?_
      | refine aw_true rfl ?_ | refine aw_false rfl ?_ | refine aw_skip ?_ | refine aw_ret ?_)
      all_goals exact q_ret rfl rfl
    · have cn := fun σ => new_no (σ := σ) files fails (by omega) hok
      repeat' (first
      | refine s_op rfl ?_ | (apply s_skipV; (iterate 2 (exact rfl))) | (apply s_skipU; (iterate 3 (exact rfl))) | (apply s_move; (iterate 4 (exact rfl))) | (apply s_assign; (iterate 4 (exact rfl)))
      | (apply s_pick_t; (iterate 5 (exact rfl))) | (apply s_pick_f; (iterate 5 (exact rfl))) | (apply s_len tab_ok; (iterate 5 (exact rfl))) | (apply s_lens str_ok; (iterate 4 (exact rfl))) | (apply s_ext; (iterate 5 (exact rfl)))
      | (apply s_not_t; (iterate 4 (exact rfl))) | (apply s_not_f; (iterate 4 (exact rfl))) | (apply s_not; (iterate 4 (exact rfl))) | (apply s_eql_t; (iterate 5 (exact rfl)); omega) | (apply s_eql_f; (iterate 5 (exact rfl)); omega)
      | (apply s_neq_t; (iterate 5 (exact rfl)); omega) | (apply s_neq_f; (iterate 5 (exact rfl)); omega)
      | (apply s_call; (iterate 6 (exact rfl)); first | (exact known_p; rintro _ rfl) | (exact great_p _ _ (by assumption); rintro _ (rfl | ⟨rfl, hg⟩) <;> (try (exfalso; omega))) | (exact heavy_p _ (by assumption); rintro _ (rfl | ⟨rfl, hg⟩) <;> (try (exfalso; omega))))
      | (apply s_callS; (iterate 6 (exact rfl)); first | (exact cn _; rintro _ _ ⟨rfl, rfl⟩))
      | refine al_nil ?_ | refine q_then_n ?_ | refine q_then_r ?_ | refine aw_seq ?_ | refine aw_reg ?_
      | refine aw_true rfl ?_ | refine aw_false rfl ?_ | refine aw_skip ?_ | refine aw_ret ?_)
      all_goals exact q_ret rfl rfl
  · repeat' (first
      | refine s_op rfl ?_ | (apply s_skipV; (iterate 2 (exact rfl))) | (apply s_skipU; (iterate 3 (exact rfl))) | (apply s_move; (iterate 4 (exact rfl))) | (apply s_assign; (iterate 4 (exact rfl)))
      | (apply s_pick_t; (iterate 5 (exact rfl))) | (apply s_pick_f; (iterate 5 (exact rfl))) | (apply s_len tab_ok; (iterate 5 (exact rfl))) | (apply s_lens str_ok; (iterate 4 (exact rfl))) | (apply s_ext; (iterate 5 (exact rfl)))
      | (apply s_not_t; (iterate 4 (exact rfl))) | (apply s_not_f; (iterate 4 (exact rfl))) | (apply s_not; (iterate 4 (exact rfl))) | (apply s_eql_t; (iterate 5 (exact rfl)); omega) | (apply s_eql_f; (iterate 5 (exact rfl)); omega)
      | (apply s_neq_t; (iterate 5 (exact rfl)); omega) | (apply s_neq_f; (iterate 5 (exact rfl)); omega)
      | (apply s_call; (iterate 6 (exact rfl)); first | (exact known_p; rintro _ rfl) | (exact great_p _ _ (by assumption); rintro _ (rfl | ⟨rfl, hg⟩) <;> (try (exfalso; omega))) | (exact heavy_p _ (by assumption); rintro _ (rfl | ⟨rfl, hg⟩) <;> (try (exfalso; omega))))
      | refine al_nil ?_ | refine q_then_n ?_ | refine q_then_r ?_ | refine aw_seq ?_ | refine aw_reg ?_
      | refine aw_true rfl ?_ | refine aw_false rfl ?_ | refine aw_skip ?_ | refine aw_ret ?_)
    all_goals exact q_ret rfl rfl
end Go.Proofs.Ytlpgekodoiioaaa
