/- known: for the abstract walk. -/
import Derived.Test.YtlpgekodoiioaaaL3
import Derived.Test.YtlpgekodoiioaaaK1
set_option linter.unusedSimpArgs false
set_option linter.unusedVariables false
namespace Go.Proofs.Ytlpgekodoiioaaa
open Go.RowKit

set_option maxRecDepth 100000 in
theorem reads_r {σ σ2 : List AObj} {loc n : Nat} {W W' : AW} {k : Int} {s : ByteArray} (x : Int) (hl : σ[loc]? = some (wo W)) (ok : W.Ok n) (hn : n ≤ 100000) (hq : W.read x = ((k, s, 0), W')) (hσ : seqL (σ.set loc (wo W')) some = some σ2) :
    Runs Try.prog 31 [.ptr loc 0 0, .d (.v (.int .i64 x)), .d (.v (.int .u8 k)), .d (.v (.string s))] σ (fun v σ' => v = .d (.v (.bool true)) ∧ σ' = σ2) := by
  have hr := read_r (σ2 := σ2) x hl ok hn (by rw [hq]; exact hσ)
  rw [hq] at hr
  dsimp only at hr
  have hss : s = s := rfl
  refine enter 31 Try.func31 rfl (by kernel_rfl) rfl rfl rfl ?_
  repeat' (first
      | refine s_op rfl ?_ | (apply s_skip; exact rfl) | (apply s_move; (iterate 4 (exact rfl))) | (apply s_assign; (iterate 4 (exact rfl))) | (apply s_pick_t; (iterate 5 (exact rfl)))
      | (apply s_pick_f; (iterate 5 (exact rfl))) | (apply s_ext; (iterate 5 (exact rfl))) | (apply s_eql_t; (iterate 5 (exact rfl)); omega) | (apply s_eql_f; (iterate 5 (exact rfl)); omega) | (apply s_streq_t; (iterate 5 (exact rfl)); assumption)
      | (apply s_streq_f; (iterate 5 (exact rfl)); assumption)
      | (apply s_callS; (iterate 6 (exact rfl)); first | (exact hr; rintro _ σ ⟨rfl, rfl⟩))
      | refine al_nil ?_ | refine q_then_n ?_ | refine q_then_r ?_ | refine aw_seq ?_ | refine aw_reg ?_
      | refine aw_ret ?_)
  exact q_ret rfl ⟨rfl, rfl⟩

theorem okk0 : k0.Ok 0 := ok_new new_k0
theorem okk1 : k1.Ok 1 := by have := ok_open okk0 bA; rwa [r1] at this
theorem okk2 : k2.Ok 2 := by have := ok_read okk1 0; rwa [r2] at this
theorem okk3 : k3.Ok 3 := by have := ok_read okk2 0; rwa [r3] at this
theorem okk4 : k4.Ok 4 := by have := ok_read okk3 0; rwa [r4] at this
theorem okk5 : k5.Ok 5 := by have := ok_read okk4 0; rwa [r5] at this
theorem okk6 : k6.Ok 6 := by have := ok_write okk5 0 bZ; rwa [r6] at this
theorem okk7 : k7.Ok 7 := by have := ok_read okk6 0; rwa [r7] at this
theorem okk8 : k8.Ok 8 := by have := ok_close okk7 0; rwa [r8] at this
theorem okk9 : k9.Ok 9 := by have := ok_open okk8 bB; rwa [r10] at this

theorem kn : Runs Try.prog 12 [.d (filesD k0.files), .d (boolsD k0.fails)] [] (fun v σ' => v = .tup [.ptr 0 0 0, .d (.v (.int .i64 0))] ∧ σ' = [wo k0]) :=
  (new_r k0.files k0.fails (by decide)).mono fun v σ' h => by
    rcases h with ⟨_, h1, h2⟩ | ⟨no, _⟩
    · exact ⟨h1, h2⟩
    · exact absurd new_k0 no
theorem ko1 : Runs Try.prog 15 [.ptr 0 0 0, .d (.v (.string bA))] [wo k0] (fun v σ' => v = .d (.tup [.v (.int .i64 0), .v (.bool true)]) ∧ σ' = [wo k1]) := by
  have := open_r (σ := [wo k0]) (loc := 0) bA rfl okk0 (by omega) (σ2 := [wo k1]) (by rw [r1]; rfl)
  rwa [r1] at this
theorem ko2 : Runs Try.prog 31 [.ptr 0 0 0, .d (.v (.int .i64 0)), .d (.v (.int .u8 1)), .d (.v (.string bX))] [wo k1] (fun v σ' => v = .d (.v (.bool true)) ∧ σ' = [wo k2]) := reads_r 0 rfl okk1 (by omega) r2 rfl
theorem ko3 : Runs Try.prog 31 [.ptr 0 0 0, .d (.v (.int .i64 0)), .d (.v (.int .u8 1)), .d (.v (.string bY))] [wo k2] (fun v σ' => v = .d (.v (.bool true)) ∧ σ' = [wo k3]) := reads_r 0 rfl okk2 (by omega) r3 rfl
theorem ko4 : Runs Try.prog 31 [.ptr 0 0 0, .d (.v (.int .i64 0)), .d (.v (.int .u8 3)), .d (.v (.string emptyB))] [wo k3] (fun v σ' => v = .d (.v (.bool true)) ∧ σ' = [wo k4]) := reads_r 0 rfl okk3 (by omega) r4 rfl
theorem ko5 : Runs Try.prog 31 [.ptr 0 0 0, .d (.v (.int .i64 0)), .d (.v (.int .u8 2)), .d (.v (.string emptyB))] [wo k4] (fun v σ' => v = .d (.v (.bool true)) ∧ σ' = [wo k5]) := reads_r 0 rfl okk4 (by omega) r5 rfl
theorem ko6 : Runs Try.prog 16 [.ptr 0 0 0, .d (.v (.int .i64 0)), .d (.v (.string bZ))] [wo k5] (fun v σ' => v = .d (.tup [.v (.bool true), .v (.int .i64 0)]) ∧ σ' = [wo k6]) := by
  have := write_r (σ := [wo k5]) (loc := 0) 0 bZ (by decide) rfl okk5 (by omega) (σ2 := [wo k6]) (by rw [r6]; rfl)
  rwa [r6] at this
theorem ko7 : Runs Try.prog 31 [.ptr 0 0 0, .d (.v (.int .i64 0)), .d (.v (.int .u8 1)), .d (.v (.string bZ))] [wo k6] (fun v σ' => v = .d (.v (.bool true)) ∧ σ' = [wo k7]) := reads_r 0 rfl okk6 (by omega) r7 rfl
theorem ko8 : Runs Try.prog 17 [.ptr 0 0 0, .d (.v (.int .i64 0))] [wo k7] (fun v σ' => v = .d (.tup [.v (.bool true), .v (.int .i64 0)]) ∧ σ' = [wo k8]) := by
  have := close_r (σ := [wo k7]) (loc := 0) 0 rfl okk7 (by omega) (σ2 := [wo k8]) (by rw [r8]; rfl)
  rwa [r8] at this
theorem ko9 : Runs Try.prog 23 [.ptr 0 0 0, .d (.v (.int .i64 0))] [wo k8] (fun v σ' => v = .d (.tup [.v (.int .u8 0), .v (.string emptyB), .v (.int .i64 220)]) ∧ σ' = [wo k8]) := by
  have := read_r (σ := [wo k8]) (loc := 0) 0 rfl okk8 (by omega) (σ2 := [wo k8]) (by rw [r9]; rfl)
  rwa [r9] at this
theorem ko10 : Runs Try.prog 15 [.ptr 0 0 0, .d (.v (.string bB))] [wo k8] (fun v σ' => v = .d (.tup [.v (.int .i64 0), .v (.bool false)]) ∧ σ' = [wo k9]) := by
  have := open_r (σ := [wo k8]) (loc := 0) bB rfl okk8 (by omega) (σ2 := [wo k9]) (by rw [r10]; rfl)
  rwa [r10] at this
theorem ko11 : Runs Try.prog 26 [.ptr 0 0 0] [wo k9] (fun v σ' => v = .d (filesD k9.files) ∧ σ' = [wo k9]) := files_r rfl (by decide)
theorem ko12 : Runs Try.prog 23 [.ptr 0 0 0, .d (.v (.int .i64 7))] [wo k9] (fun v σ' => v = .d (.tup [.v (.int .u8 0), .v (.string emptyB), .v (.int .i64 4)]) ∧ σ' = [wo k9]) := by
  have := read_r (σ := [wo k9]) (loc := 0) 7 rfl okk9 (by omega) (σ2 := [wo k9]) (by rw [r11]; rfl)
  rwa [r11] at this
theorem ko13 : Runs Try.prog 28 [.ptr 0 0 0] [wo k9] (fun v σ' => v = .d (natsD []) ∧ σ' = [wo k9]) := handles_r (W := k9) rfl (by decide)
theorem ko14 : Runs Try.prog 21 [.ptr 0 0 0] [wo k9] (fun v σ' => v = .d (traceD k9.trace) ∧ σ' = [wo k9]) := trace_r rfl (by decide)

set_option maxRecDepth 100000 in
set_option maxHeartbeats 8000000 in
theorem known_c : Runs Try.prog 9 [] [] (fun v σ' => v = .d (.v (.bool true))) := by
  have e1 : (List.map fileD k9.files).length = 1 := rfl
  have e2 : (List.map natD []).length = 0 := rfl
  have e3 : (List.map opD k9.trace).length = 9 := rfl
  have e4 : k9.files[0]? = some ⟨bA, bXYZ⟩ := rfl
  have e5 : bXYZ = ⟨#[120, 10, 121, 122]⟩ := rfl
  refine enter 197 Try.func9 rfl (by kernel_rfl) rfl rfl rfl ?_
  repeat' (first
      | refine s_op rfl ?_ | (apply s_skip; exact rfl) | (apply s_move; (iterate 4 (exact rfl))) | (apply s_fa_p tab_ok; (iterate 5 (exact rfl))) | (apply s_fa_f tab_ok; (iterate 6 (exact rfl)))
      | (apply s_ld_p tab_ok; (iterate 7 (exact rfl))) | (apply s_ld_f tab_ok; (iterate 6 (exact rfl))) | (apply s_ld_w tab_ok; (iterate 5 (exact rfl)); (first | exact patD_len _ | exact valD_len _)) | (apply s_assign; (iterate 4 (exact rfl))) | (apply s_pick_t; (iterate 5 (exact rfl)))
      | (apply s_pick_f; (iterate 5 (exact rfl))) | (apply s_len tab_ok; (iterate 5 (exact rfl))) | (apply s_lens str_ok; (iterate 4 (exact rfl))) | (apply s_idx tab_ok; (iterate 7 (exact rfl)); (first | exact patR_get (by assumption) | exact valR_get (by assumption) | exact row_map (by assumption) | assumption)) | (apply s_ext; (iterate 5 (exact rfl)))
      | (apply s_build tabZ_ok; (iterate 5 (exact rfl))) | (apply s_lit tab_ok tabZ_ok; (iterate 10 (exact rfl))) | (apply s_lit1 tab_ok tabZ_ok; (iterate 9 (exact rfl)); (first | exact patD_len _ | exact valD_len _)) | (apply s_not_t; (iterate 4 (exact rfl))) | (apply s_not_f; (iterate 4 (exact rfl)))
      | (apply s_not; (iterate 4 (exact rfl))) | (apply s_eql_t; (iterate 5 (exact rfl)); omega) | (apply s_eql_f; (iterate 5 (exact rfl)); omega) | (apply s_neq_t; (iterate 5 (exact rfl)); omega) | (apply s_neq_f; (iterate 5 (exact rfl)); omega)
      | (apply s_add64; (iterate 5 (exact rfl)); omega) | (apply s_strne_t; (iterate 5 (exact rfl)); assumption) | (apply s_strne_f; (iterate 5 (exact rfl)); assumption)
      | (apply s_pn_t; (iterate 5 (exact rfl)))
      | (apply s_call; (iterate 6 (exact rfl)); first | (exact nil26_r; rintro _ rfl) | (exact nil21_r; rintro _ rfl) | (exact nil28_r; rintro _ rfl) | (exact nil14_r; rintro _ rfl) | (exact nil22_r _; rintro _ rfl) | (exact nil17_r _; rintro _ rfl) | (exact nil16_r _ _; rintro _ rfl) | (exact nil23_r _; rintro _ rfl) | (exact nil15_r _; rintro _ rfl))
      | (apply s_callS; (iterate 6 (exact rfl)); first | (exact kn; rintro _ σ ⟨rfl, rfl⟩) | (exact ko1; rintro _ σ ⟨rfl, rfl⟩) | (exact ko2; rintro _ σ ⟨rfl, rfl⟩) | (exact ko3; rintro _ σ ⟨rfl, rfl⟩) | (exact ko4; rintro _ σ ⟨rfl, rfl⟩) | (exact ko5; rintro _ σ ⟨rfl, rfl⟩) | (exact ko6; rintro _ σ ⟨rfl, rfl⟩) | (exact ko7; rintro _ σ ⟨rfl, rfl⟩) | (exact ko8; rintro _ σ ⟨rfl, rfl⟩) | (exact ko9; rintro _ σ ⟨rfl, rfl⟩) | (exact ko10; rintro _ σ ⟨rfl, rfl⟩) | (exact ko11; rintro _ σ ⟨rfl, rfl⟩) | (exact ko12; rintro _ σ ⟨rfl, rfl⟩) | (exact ko13; rintro _ σ ⟨rfl, rfl⟩) | (exact ko14; rintro _ σ ⟨rfl, rfl⟩))
      | refine al_nil ?_ | refine q_then_n ?_ | refine q_then_r ?_ | refine aw_seq ?_ | refine aw_reg ?_
      | refine aw_true rfl ?_ | refine aw_false rfl ?_ | refine aw_skip ?_ | refine aw_ret ?_)
  exact q_ret rfl rfl
end Go.Proofs.Ytlpgekodoiioaaa
