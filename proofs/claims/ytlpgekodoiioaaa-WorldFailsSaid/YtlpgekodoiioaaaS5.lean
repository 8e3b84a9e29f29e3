/- WorldFails: the walk. -/
import Derived.Test.YtlpgekodoiioaaaX2
import Derived.Test.YtlpgekodoiioaaaP5
set_option linter.unusedSimpArgs false
set_option linter.unusedVariables false
namespace Go.Proofs.Ytlpgekodoiioaaa
open Go.RowKit

set_option maxRecDepth 100000 in
theorem taken_w {σ : List AObj} {loc n : Nat} {W : AW} (hl : σ[loc]? = some (wo W)) (ok : W.Ok n) (hn : n ≤ 100000) (t : Nat) (ht : W.trace.length = t) :
    Runs Try.prog 24 [.ptr loc 0 0] σ (fun v σ' => v = .d (.v (.int .i64 (t : Int))) ∧ σ' = σ) := by
  have hc := trace_w hl ok hn
  have e : (W.trace.map opD).length = t := by simpa using ht
  refine enter 6 Try.func24 rfl (by kernel_rfl) rfl rfl rfl ?_
  repeat' (first
      | refine s_op rfl ?_ | (apply s_move; (iterate 4 (exact rfl))) | (apply s_assign; (iterate 4 (exact rfl))) | (apply s_len tab_ok; (iterate 5 (exact rfl))) | (apply s_lens str_ok; (iterate 4 (exact rfl)))
      | (apply s_callS; (iterate 6 (exact rfl)); first | (exact hc; rintro _ _ ⟨rfl, rfl⟩))
      | refine al_nil ?_ | refine q_then_n ?_ | refine q_then_r ?_ | refine aw_seq ?_ | refine aw_reg ?_
      | refine aw_ret ?_)
  refine q_ret rfl ⟨?_, rfl⟩
  rw [e]
  rfl

set_option maxRecDepth 100000 in
set_option maxHeartbeats 8000000 in
theorem fails_c (files : List AFile) (fails more : List Bool) (script : List ADo) (hf : files.length ≤ 9223372036854775807) (hs1 : script.length ≤ 9223372036854775807) (hs2 : more.length ≤ 9223372036854775807)
    (hx1 : ∀ x ∈ script, x.s.size ≤ maxLen) :
    Runs Try.prog 5 [.d (filesD files), .d (boolsD fails), .d (boolsD more), .d (dosD script)] [] (fun v _ => v = .d (.v (.bool true))) := by
  refine enter 80 Try.func5 rfl (by kernel_rfl) rfl rfl rfl ?_
  have em : (more.map boolD).length = more.length := by simp
  have ef : (fails.map boolD).length = fails.length := by simp
  by_cases hb : fails.length ≤ 10000 ∧ more.length ≤ 10000 ∧ script.length ≤ 300
  · obtain ⟨hb1, hb2, hb3⟩ := hb
    by_cases hok : NewOk files
    · have cn := fun σ => new_f (σ := σ) files fails (by omega) hok
      have ok0 := ok_new (fails := fails) hok
      obtain ⟨W1, hW1⟩ : ∃ W1, runW ⟨files, fails, [], []⟩ script = W1 := ⟨_, rfl⟩
      have ok1 := ok_run (n := 0) (l := script) ok0
      rw [hW1] at ok1
      have c1 := fun σ loc hA => run_w (σ := σ) (loc := loc) script hA ok0 (by omega) hx1
      rw [hW1] at c1
      obtain ⟨t, ht⟩ : ∃ t, W1.trace.length = t := ⟨_, rfl⟩
      obtain ⟨n, hn⟩ : ∃ n, n = min t fails.length := ⟨_, rfl⟩
      have htk := fun σ loc hA => taken_w (σ := σ) (loc := loc) hA ok1 (by omega) t ht
      have ht3 : t ≤ 300 := by have := ok1.trace; omega
      have law := fails_law files fails more script t n (by rw [hW1]; exact ht) hn
      obtain ⟨other, hother⟩ : ∃ other, fails.take n ++ List.replicate (t - n) false = other := ⟨_, rfl⟩
      have hol : other.length = t := by rw [← hother]; simp; omega
      rw [hother] at law
      have ok0' := ok_new (fails := other ++ more) hok
      have cn' := fun σ => new_f (σ := σ) files (other ++ more) (by simp; omega) hok
      obtain ⟨V1, hV1⟩ : ∃ V1, runW ⟨files, other ++ more, [], []⟩ script = V1 := ⟨_, rfl⟩
      have ok1' := ok_run (n := 0) (l := script) ok0'
      have c2 := fun σ loc hA => run_w (σ := σ) (loc := loc) script hA ok0' (by omega) hx1
      rw [hV1] at ok1' law c2
      rw [hW1] at law
      obtain ⟨lf, lt⟩ := law
      generalize (⟨files, fails, [], []⟩ : AW) = W0 at cn c1
      generalize (⟨files, other ++ more, [], []⟩ : AW) = V0 at cn' c2
      have f1 := fun σ loc hA => files_w (σ := σ) (loc := loc) hA ok1
      have f2 := fun σ loc hA => files_w (σ := σ) (loc := loc) hA ok1'
      have t1 := fun σ loc hA => trace_w (σ := σ) (loc := loc) hA ok1 (by omega)
      have t2 := fun σ loc hA => trace_w (σ := σ) (loc := loc) hA ok1' (by omega)
      rw [lf] at f2
      rw [lt] at t2
      have sf2 : RunsP Try.prog 25 [filesD W1.files, filesD W1.files] (fun v => v = .v (.bool true)) := by
        have := sameFiles_c W1.files W1.files (Nat.le_trans ok1.few (by omega)); simpa using this
      have st2 : RunsP Try.prog 27 [traceD W1.trace, traceD W1.trace] (fun v => v = .v (.bool true)) := by
        have := sameTrace_c W1.trace W1.trace (Nat.le_trans ok1.trace (by omega)); simpa using this
      have e1 : ((fails.map boolD).take n) = (fails.take n).map boolD := by rw [List.map_take]
      have e2 : (fails.take n).map boolD ++ List.replicate (t - n) ([Value.bool false].map DV.v) = other.map boolD := by
        rw [← hother, List.map_append, List.map_replicate]; rfl
      have e3 : other.map boolD ++ more.map boolD = (other ++ more).map boolD := by rw [List.map_append]
      have l1 : ((fails.take n).map boolD).length = n := by simp; omega
      have l2 : (other.map boolD).length = t := by simpa using hol
      have l3 : ((other ++ more).map boolD).length = t + more.length := by simp; omega
      repeat' (first
      | refine s_op rfl ?_ | (apply s_skipV; (iterate 2 (exact rfl))) | (apply s_skipU; (iterate 3 (exact rfl))) | (apply s_move; (iterate 4 (exact rfl))) | (apply s_assign; (iterate 4 (exact rfl)))
      | (apply s_pick_t; (iterate 5 (exact rfl))) | (apply s_pick_f; (iterate 5 (exact rfl))) | (apply s_len tab_ok; (iterate 5 (exact rfl))) | (apply s_lens str_ok; (iterate 4 (exact rfl))) | (apply s_slice tab_ok; (iterate 8 (exact rfl)); (simp; omega))
      | (apply s_ext; (iterate 5 (exact rfl))) | (apply s_lit tab_ok tabZ_ok; (iterate 10 (exact rfl))) | (apply s_lit1 tab_ok tabZ_ok; (iterate 9 (exact rfl)); (first | exact patD_len _ | exact valD_len _)) | (apply s_app tab_ok tabZ_ok; (iterate 13 (exact rfl)); (first | (simp; done) | (simp; omega))) | (apply s_not_t; (iterate 4 (exact rfl)))
      | (apply s_not_f; (iterate 4 (exact rfl))) | (apply s_not; (iterate 4 (exact rfl))) | (apply s_neq_t; (iterate 5 (exact rfl)); omega) | (apply s_neq_f; (iterate 5 (exact rfl)); omega) | (apply s_gtr_t; (iterate 5 (exact rfl)); omega)
      | (apply s_gtr_f; (iterate 5 (exact rfl)); omega) | (apply s_sub64; (iterate 5 (exact rfl)); omega)
      | (apply s_call; (iterate 6 (exact rfl)); first | (exact known_p; rintro _ rfl) | (exact great_p _ _ (by assumption); rintro _ (rfl | ⟨rfl, hg⟩) <;> (try (exfalso; omega))) | (exact heavy_p _ (by assumption); rintro _ (rfl | ⟨rfl, hg⟩) <;> (try (exfalso; omega))))
      | refine al_nil ?_ | refine q_then_n ?_ | refine q_then_r ?_ | refine aw_seq ?_ | refine aw_reg ?_
      | refine aw_true rfl ?_ | refine aw_false rfl ?_ | refine aw_skip ?_ | refine aw_ret ?_)
      any_goals exact q_ret rfl rfl
      refine o_keep [0, 1, 2, 3, 8, 29, 30] rfl rfl ?_
      have l0 : ([] : List (List DV)).length = 0 := rfl
      repeat' (first
      | refine s_op rfl ?_ | (apply s_skipV; (iterate 2 (exact rfl))) | (apply s_skipU; (iterate 3 (exact rfl))) | (apply s_move; (iterate 4 (exact rfl))) | (apply s_assign; (iterate 4 (exact rfl)))
      | (apply s_pick_t; (iterate 5 (exact rfl))) | (apply s_pick_f; (iterate 5 (exact rfl))) | (apply s_len tab_ok; (iterate 5 (exact rfl))) | (apply s_lens str_ok; (iterate 4 (exact rfl))) | (apply s_ext; (iterate 5 (exact rfl)))
      | (apply s_app tab_ok tabZ_ok; (iterate 13 (exact rfl)); (first | (simp; done) | (simp; omega))) | (apply s_not_t; (iterate 4 (exact rfl))) | (apply s_not_f; (iterate 4 (exact rfl))) | (apply s_not; (iterate 4 (exact rfl))) | (apply s_neq_t; (iterate 5 (exact rfl)); omega)
      | (apply s_neq_f; (iterate 5 (exact rfl)); omega) | (apply s_gtr_t; (iterate 5 (exact rfl)); omega) | (apply s_gtr_f; (iterate 5 (exact rfl)); omega) | (apply s_sub64; (iterate 5 (exact rfl)); omega)
      | (apply s_minV (n : Int); (iterate 5 (exact rfl)); (split <;> omega))
      | (apply s_lit0 tab_ok tabZ_ok; (iterate 7 (exact rfl)))
      | (apply s_sliceE tab_ok (rows' := (fails.take n).map boolD); (iterate 8 (exact rfl)); (simp; omega); (simp))
      | (refine o_adoptF 44 4 1 rfl ?_; intro locB σ hc; have hB := hc.at'; have nAB := hc.ne hA; replace hA := hc.keep hA; clear hc)
      | (apply s_appF tab_ok tabZ_ok (rows3 := (fails.take n).map boolD) (m := n); (iterate 10 (exact rfl)); exact hB; exact src_of (Tab.slIs tab_ok (t := 23) rfl) (rows_d rfl); exact List.nil_append _; (rw [l1, l0]; omega); intro σ hc; replace hB := hc.at'; replace hA := hc.keep nAB hA; clear hc)
      | (apply s_maxV ((t - n : Nat) : Int); (iterate 5 (exact rfl)); (split <;> omega))
      | (apply s_appF tab_ok tabZ_ok (rows3 := other.map boolD) (m := t); (iterate 10 (exact rfl)); exact hB; exact src_make (k' := .i64) bool_z rfl (by kernel_rfl) (n := t - n) rfl (by omega) bool_ty rfl; exact e2; (rw [l1, List.length_replicate]; omega); intro σ hc; replace hB := hc.at'; replace hA := hc.keep nAB hA; clear hc)
      | (apply s_appF tab_ok tabZ_ok (rows3 := (other ++ more).map boolD) (m := (t + more.length)); (iterate 10 (exact rfl)); exact hB; exact src_of (Tab.slIs tab_ok (t := 23) rfl) (rows_d rfl); exact e3; (rw [l2, em]; omega); intro σ hc; replace hB := hc.at'; replace hA := hc.keep nAB hA; clear hc)
      | (refine o_freezeF 59 rfl hB l3.symm ?_; intro σ hc; replace hA := hc.keep nAB hA; clear hc)
      | (apply s_callS; (iterate 6 (exact rfl)); first | (exact cn _; rintro _ σ ⟨locA, rfl, hc⟩; have hA := hc.at'; clear hc) | (exact c1 _ _ hA; rintro _ σ ⟨rfl, hc⟩; replace hA := hc.at'; clear hc) | (exact htk _ _ hA; rintro _ _ ⟨rfl, rfl⟩))
      | refine al_nil ?_ | refine q_then_n ?_ | refine q_then_r ?_ | refine aw_seq ?_ | refine aw_reg ?_
      | refine aw_true rfl ?_ | refine aw_false rfl ?_ | refine aw_skip ?_ | refine aw_ret ?_)
      refine o_keep [0, 3, 8, 9, 56, 59] rfl rfl ?_
      clear hB nAB cn c1 htk
      repeat' (first
      | refine s_op rfl ?_ | (apply s_skipV; (iterate 2 (exact rfl))) | (apply s_skipU; (iterate 3 (exact rfl))) | (apply s_move; (iterate 4 (exact rfl))) | (apply s_assign; (iterate 4 (exact rfl)))
      | (apply s_pick_t; (iterate 5 (exact rfl))) | (apply s_pick_f; (iterate 5 (exact rfl))) | (apply s_len tab_ok; (iterate 5 (exact rfl))) | (apply s_lens str_ok; (iterate 4 (exact rfl))) | (apply s_slice tab_ok; (iterate 8 (exact rfl)); (simp; omega))
      | (apply s_ext; (iterate 5 (exact rfl))) | (apply s_lit tab_ok tabZ_ok; (iterate 10 (exact rfl))) | (apply s_lit1 tab_ok tabZ_ok; (iterate 9 (exact rfl)); (first | exact patD_len _ | exact valD_len _)) | (apply s_app tab_ok tabZ_ok; (iterate 13 (exact rfl)); (first | (simp; done) | (simp; omega))) | (apply s_not_t; (iterate 4 (exact rfl)))
      | (apply s_not_f; (iterate 4 (exact rfl))) | (apply s_not; (iterate 4 (exact rfl))) | (apply s_neq_t; (iterate 5 (exact rfl)); omega) | (apply s_neq_f; (iterate 5 (exact rfl)); omega) | (apply s_gtr_t; (iterate 5 (exact rfl)); omega)
      | (apply s_gtr_f; (iterate 5 (exact rfl)); omega) | (apply s_sub64; (iterate 5 (exact rfl)); omega)
      | (apply s_call; (iterate 6 (exact rfl)); first | (exact sf2; rintro _ rfl) | (exact st2; rintro _ rfl))
      | (apply s_callS; (iterate 6 (exact rfl)); first | (exact cn' _; rintro _ σ ⟨locD, rfl, hc⟩; have hD := hc.at'; have nAD := hc.ne hA; replace hA := hc.keep hA; clear hc) | (exact c2 _ _ hD; rintro _ σ ⟨rfl, hc⟩; replace hD := hc.at'; replace hA := hc.keep (by first | assumption | (apply Ne.symm; assumption)) hA; clear hc) | (exact f1 _ _ hA; rintro _ _ ⟨rfl, rfl⟩) | (exact f2 _ _ hD; rintro _ _ ⟨rfl, rfl⟩) | (exact t1 _ _ hA; rintro _ _ ⟨rfl, rfl⟩) | (exact t2 _ _ hD; rintro _ _ ⟨rfl, rfl⟩))
      | refine al_nil ?_ | refine q_then_n ?_ | refine q_then_r ?_ | refine aw_seq ?_ | refine aw_reg ?_
      | refine aw_true rfl ?_ | refine aw_false rfl ?_ | refine aw_skip ?_ | refine aw_ret ?_)
      all_goals exact q_ret rfl rfl
    · have cn := fun σ => new_no (σ := σ) files fails (by omega) hok
      repeat' (first
      | refine s_op rfl ?_ | (apply s_skipV; (iterate 2 (exact rfl))) | (apply s_skipU; (iterate 3 (exact rfl))) | (apply s_move; (iterate 4 (exact rfl))) | (apply s_assign; (iterate 4 (exact rfl)))
      | (apply s_pick_t; (iterate 5 (exact rfl))) | (apply s_pick_f; (iterate 5 (exact rfl))) | (apply s_len tab_ok; (iterate 5 (exact rfl))) | (apply s_lens str_ok; (iterate 4 (exact rfl))) | (apply s_slice tab_ok; (iterate 8 (exact rfl)); (simp; omega))
      | (apply s_ext; (iterate 5 (exact rfl))) | (apply s_lit tab_ok tabZ_ok; (iterate 10 (exact rfl))) | (apply s_lit1 tab_ok tabZ_ok; (iterate 9 (exact rfl)); (first | exact patD_len _ | exact valD_len _)) | (apply s_app tab_ok tabZ_ok; (iterate 13 (exact rfl)); (first | (simp; done) | (simp; omega))) | (apply s_not_t; (iterate 4 (exact rfl)))
      | (apply s_not_f; (iterate 4 (exact rfl))) | (apply s_not; (iterate 4 (exact rfl))) | (apply s_neq_t; (iterate 5 (exact rfl)); omega) | (apply s_neq_f; (iterate 5 (exact rfl)); omega) | (apply s_gtr_t; (iterate 5 (exact rfl)); omega)
      | (apply s_gtr_f; (iterate 5 (exact rfl)); omega) | (apply s_sub64; (iterate 5 (exact rfl)); omega)
      | (apply s_call; (iterate 6 (exact rfl)); first | (exact known_p; rintro _ rfl) | (exact great_p _ _ (by assumption); rintro _ (rfl | ⟨rfl, hg⟩) <;> (try (exfalso; omega))) | (exact heavy_p _ (by assumption); rintro _ (rfl | ⟨rfl, hg⟩) <;> (try (exfalso; omega))))
      | (apply s_callS; (iterate 6 (exact rfl)); first | (exact cn _; rintro _ _ ⟨rfl, rfl⟩))
      | refine al_nil ?_ | refine q_then_n ?_ | refine q_then_r ?_ | refine aw_seq ?_ | refine aw_reg ?_
      | refine aw_true rfl ?_ | refine aw_false rfl ?_ | refine aw_skip ?_ | refine aw_ret ?_)
      all_goals exact q_ret rfl rfl
  · by_cases hm : more.length ≤ 10000
    · repeat' (first
      | refine s_op rfl ?_ | (apply s_skipV; (iterate 2 (exact rfl))) | (apply s_skipU; (iterate 3 (exact rfl))) | (apply s_move; (iterate 4 (exact rfl))) | (apply s_assign; (iterate 4 (exact rfl)))
      | (apply s_pick_t; (iterate 5 (exact rfl))) | (apply s_pick_f; (iterate 5 (exact rfl))) | (apply s_len tab_ok; (iterate 5 (exact rfl))) | (apply s_lens str_ok; (iterate 4 (exact rfl))) | (apply s_slice tab_ok; (iterate 8 (exact rfl)); (simp; omega))
      | (apply s_ext; (iterate 5 (exact rfl))) | (apply s_lit tab_ok tabZ_ok; (iterate 10 (exact rfl))) | (apply s_lit1 tab_ok tabZ_ok; (iterate 9 (exact rfl)); (first | exact patD_len _ | exact valD_len _)) | (apply s_app tab_ok tabZ_ok; (iterate 13 (exact rfl)); (first | (simp; done) | (simp; omega))) | (apply s_not_t; (iterate 4 (exact rfl)))
      | (apply s_not_f; (iterate 4 (exact rfl))) | (apply s_not; (iterate 4 (exact rfl))) | (apply s_neq_t; (iterate 5 (exact rfl)); omega) | (apply s_neq_f; (iterate 5 (exact rfl)); omega) | (apply s_gtr_t; (iterate 5 (exact rfl)); omega)
      | (apply s_gtr_f; (iterate 5 (exact rfl)); omega) | (apply s_sub64; (iterate 5 (exact rfl)); omega)
      | (apply s_call; (iterate 6 (exact rfl)); first | (exact known_p; rintro _ rfl) | (exact great_p _ _ (by assumption); rintro _ (rfl | ⟨rfl, hg⟩) <;> (try (exfalso; omega))) | (exact heavy_p _ (by assumption); rintro _ (rfl | ⟨rfl, hg⟩) <;> (try (exfalso; omega))))
      | refine al_nil ?_ | refine q_then_n ?_ | refine q_then_r ?_ | refine aw_seq ?_ | refine aw_reg ?_
      | refine aw_true rfl ?_ | refine aw_false rfl ?_ | refine aw_skip ?_ | refine aw_ret ?_)
      all_goals exact q_ret rfl rfl
    · repeat' (first
      | refine s_op rfl ?_ | (apply s_skipV; (iterate 2 (exact rfl))) | (apply s_skipU; (iterate 3 (exact rfl))) | (apply s_move; (iterate 4 (exact rfl))) | (apply s_assign; (iterate 4 (exact rfl)))
      | (apply s_pick_t; (iterate 5 (exact rfl))) | (apply s_pick_f; (iterate 5 (exact rfl))) | (apply s_len tab_ok; (iterate 5 (exact rfl))) | (apply s_lens str_ok; (iterate 4 (exact rfl))) | (apply s_slice tab_ok; (iterate 8 (exact rfl)); (simp; omega))
      | (apply s_ext; (iterate 5 (exact rfl))) | (apply s_lit tab_ok tabZ_ok; (iterate 10 (exact rfl))) | (apply s_lit1 tab_ok tabZ_ok; (iterate 9 (exact rfl)); (first | exact patD_len _ | exact valD_len _)) | (apply s_app tab_ok tabZ_ok; (iterate 13 (exact rfl)); (first | (simp; done) | (simp; omega))) | (apply s_not_t; (iterate 4 (exact rfl)))
      | (apply s_not_f; (iterate 4 (exact rfl))) | (apply s_not; (iterate 4 (exact rfl))) | (apply s_neq_t; (iterate 5 (exact rfl)); omega) | (apply s_neq_f; (iterate 5 (exact rfl)); omega) | (apply s_gtr_t; (iterate 5 (exact rfl)); omega)
      | (apply s_gtr_f; (iterate 5 (exact rfl)); omega) | (apply s_sub64; (iterate 5 (exact rfl)); omega)
      | (apply s_call; (iterate 6 (exact rfl)); first | (exact known_p; rintro _ rfl) | (exact great_p _ _ (by assumption); rintro _ (rfl | ⟨rfl, hg⟩) <;> (try (exfalso; omega))) | (exact heavy_p _ (by assumption); rintro _ (rfl | ⟨rfl, hg⟩) <;> (try (exfalso; omega))))
      | refine al_nil ?_ | refine q_then_n ?_ | refine q_then_r ?_ | refine aw_seq ?_ | refine aw_reg ?_
      | refine aw_true rfl ?_ | refine aw_false rfl ?_ | refine aw_skip ?_ | refine aw_ret ?_)
      all_goals exact q_ret rfl rfl
end Go.Proofs.Ytlpgekodoiioaaa
