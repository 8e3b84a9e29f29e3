/- C67: the law's walk: CoverChecks. -/
import Derived.Test.YtjflembhgjcgkaaXC64C65M24
import Derived.Test.YtjflembhgjcgkaaC29
import Derived.Test.YtjflembhgjcgkaaXC32C47
set_option linter.unusedSimpArgs false
set_option linter.unusedVariables false
-- ALLUNDEF -- BOXZ
-- LEN: patD_len
-- ROW: patR_get row_map
-- DEF GRT: (apply s_call; (iterate 6 (exact rfl)); exact hgr; rintro _ ⟨b, rfl, hb⟩; cases b)
-- DEF AL5: (apply s_allocF tabZ_ok (d := 5); (iterate 6 (exact rfl)); intro locX σ hc; have hX := hc.at'; clear hc)
-- DEF AL8: (apply s_allocF tabZ_ok (d := 8); (iterate 6 (exact rfl)); intro locY σ hc; have hY := hc.at'; have nXY := hc.ne hX; replace hX := hc.keep hX; clear hc)
-- DEF STX: (apply s_storeF tab_ok; (iterate 7 (exact rfl)); exact hX; (iterate 2 (exact rfl)); intro σ hc; replace hX := hc.at'; clear hc)
-- DEF STY: (apply s_storeF tab_ok; (iterate 7 (exact rfl)); exact hY; (iterate 2 (exact rfl)); intro σ hc; replace hY := hc.at'; replace hX := hc.keep (by first | assumption | (apply Ne.symm; assumption) | omega) hX; clear hc)
-- DEF LDX: (apply s_ldF tab_ok; (iterate 5 (exact rfl)); exact hX; exact rfl)
-- DEF PEQ: (apply s_posEq; (iterate 5 (exact rfl))) || (apply s_streq_t; (iterate 5 (exact rfl)); exact rfl)
namespace Go.Proofs.Ytjflembhgjcgkaa
open Go.RowKit

mutual
theorem acP_mass : ∀ p : Pat, acP p ≤ massP p
  | .mk k n i s a b c l => by
    have h := acL_mass l
    simp only [acP, massP]
    split <;> omega
theorem acL_mass : ∀ l : List Pat, acL l ≤ massL l
  | [] => Nat.le_refl _
  | p :: l => by
    have h1 := acP_mass p
    have h2 := acL_mass l
    simp only [acL, massL]
    omega
end
section
variable {nt : Nat} {ops : Array Oper} {dr : Bool} {dos ends : List Nat} {i d ty : Nat} {pos : String} {aft : Array Edge} {gd : Option (Nat × Bool)} {l : Trr} {Q : Exit → Fr → List AObj → Prop} {fr : Fr} {σ : List AObj}
theorem s_posEq {a b : Operand} {t' : TypeId} (hp : dr = dr) (hg : guardB ops fr gd = some true) (ht : Nat.blt d nt = true) (ha : aget fr a = .d (.agg [.v (.int .i64 0), .v (.int .i64 0), .v (.int .i64 0)])) (hb : aget fr b = .d (.agg [.v (.int .i64 0), .v (.int .i64 0), .v (.int .i64 0)])) (h : AL Try.prog nt ops dr dos ends l Q ((d, .d (.v (.bool true))) :: fr) σ) : ALo Try.prog nt ops dr dos ends i ⟨some d, .binOp .eql 39 a b t', ty, pos, aft, gd⟩ l Q fr σ :=
  ⟨fun ho => s_read ho hp hg ht (rd_aggEq (xs := [.int .i64 0, .int .i64 0, .int .i64 0]) (ys := [.int .i64 0, .int .i64 0, .int .i64 0]) (r := true) rfl (by kernel_rfl) ha hb (fun w => by kernel_rfl)) h⟩
end

section
variable {g : Sg} {l : List Pat} (hkn : RunsP Try.prog 21 [] (fun v => v = .v (.bool true))) {K : Prop} (hgr : RunsP Try.prog 13 [.agg (sigD g), patsD l] (fun v => ∃ b : Bool, v = .v (.bool b) ∧ (b = false → K)))
include hkn hgr
set_option maxRecDepth 100000 in
set_option maxHeartbeats 8000000 in
theorem cc_miss {p q : Pat} (hc : RunsP Try.prog 22 [.agg (sigD g), patsD l] (fun v => v = resC p 0 150)) (hr : RunsP Try.prog 23 [.agg (sigD g), patsD l] (fun v => v = resC q 0 150)) (h24 : RunsP Try.prog 24 [.agg (sigD g), patsD l] (fun v => v = .v (.int .i64 0)))
    (h25 : RunsP Try.prog 25 [.agg (sigD g)] (fun v => v = .v (.bool true))) (h26 : RunsP Try.prog 26 [.agg (sigD g), patsD l] (fun v => v = .v (.bool true))) (h27 : RunsP Try.prog 27 [.agg (sigD g), patsD l, .agg (patD p)] (fun v => v = .v (.bool true))) :
    RunsP Try.prog 5 [.agg (sigD g), patsD l] (fun v => v = .v (.bool true)) := by
  obtain ⟨pk, pn, pi, ps, pa, pb, pc, pl⟩ := p
  obtain ⟨qk, qn, qi, qs, qa, qb, qc, ql⟩ := q
  refine enterPB 100 tab_ok Try.func5 rfl (by kernel_rfl) rfl rfl rfl ?_
  repeat' (first
      | refine s_op rfl ?_ | (apply s_skipV; (iterate 2 (exact rfl))) | (apply s_skipU; (iterate 3 (exact rfl))) | (apply s_move; (iterate 4 (exact rfl))) | (apply s_fa_p tab_ok; (iterate 5 (exact rfl)))
      | (apply s_fa_f tab_ok; (iterate 6 (exact rfl))) | (apply s_ld_p tab_ok; (iterate 7 (exact rfl))) | (apply s_ld_f tab_ok; (iterate 6 (exact rfl))) | (apply s_ld_w tab_ok; (iterate 5 (exact rfl)); (first | exact patD_len _)) | (apply s_assign; (iterate 4 (exact rfl)))
      | (apply s_pick_t; (iterate 5 (exact rfl))) | (apply s_pick_f; (iterate 5 (exact rfl))) | (apply s_len tab_ok; (iterate 5 (exact rfl))) | (apply s_lens str_ok; (iterate 4 (exact rfl))) | (apply s_ext; (iterate 5 (exact rfl)))
      | (apply s_build tabZ_ok; (iterate 5 (exact rfl))) | (apply s_boxZ; (iterate 5 (exact rfl)); first | exact rfl | exact allD_mapd _) | (apply s_not_t; (iterate 4 (exact rfl))) | (apply s_not_f; (iterate 4 (exact rfl))) | (apply s_not; (iterate 4 (exact rfl)))
      | (apply s_eql_t; (iterate 5 (exact rfl)); omega) | (apply s_eql_f; (iterate 5 (exact rfl)); omega) | (apply s_neq_t; (iterate 5 (exact rfl)); omega) | (apply s_neq_f; (iterate 5 (exact rfl)); omega) | (apply s_streq_t; (iterate 5 (exact rfl)); assumption)
      | (apply s_streq_f; (iterate 5 (exact rfl)); assumption) | (apply s_boolne bool_ok; (iterate 5 (exact rfl)))
      | (apply s_call; (iterate 6 (exact rfl)); exact hgr; rintro _ ⟨b, rfl, hb⟩; cases b)
      | (apply s_allocF tabZ_ok (d := 5); (iterate 6 (exact rfl)); intro locX σ hc; have hX := hc.at'; clear hc)
      | (apply s_allocF tabZ_ok (d := 8); (iterate 6 (exact rfl)); intro locY σ hc; have hY := hc.at'; have nXY := hc.ne hX; replace hX := hc.keep hX; clear hc)
      | (apply s_storeF tab_ok; (iterate 7 (exact rfl)); exact hX; (iterate 2 (exact rfl)); intro σ hc; replace hX := hc.at'; clear hc)
      | (apply s_storeF tab_ok; (iterate 7 (exact rfl)); exact hY; (iterate 2 (exact rfl)); intro σ hc; replace hY := hc.at'; replace hX := hc.keep (by first | assumption | (apply Ne.symm; assumption) | omega) hX; clear hc)
      | (apply s_ldF tab_ok; (iterate 5 (exact rfl)); exact hX; exact rfl)
      | (apply s_call; (iterate 6 (exact rfl)); first | (exact hkn; rintro _ rfl) | (exact hc; rintro _ rfl) | (exact hr; rintro _ rfl) | (exact h24; rintro _ rfl) | (exact h25; rintro _ rfl) | (exact h26; rintro _ rfl) | (exact h27; rintro _ rfl))
      | refine al_nil ?_ | refine q_then_n ?_ | refine q_then_r ?_ | refine aw_seq ?_ | refine aw_reg ?_
      | refine aw_true rfl ?_ | refine aw_false rfl ?_ | refine aw_skip ?_ | refine aw_ret ?_ | refine al_fork ?_ ?_
      | refine al_fork3 ?_ ?_ ?_
      | refine aw_draws (id := 7) (trO [0, 1, 2, 3, 4, 5, 6, 7, 8, 9, 10, 13, 11, 12, 14, 15, 16, 17, 18, 19, 20, 21, 22, 23, 24, 25, 26, 27, 28, 29, 30, 31, 32, 33] .nil) [11, 14, 18, 25, 30] [] mixed_ok (by kernel_rfl) ?_)
  all_goals exact q_retB (resB_1 rfl (resV_t rfl)) ⟨_, rfl, rfl⟩
set_option maxRecDepth 100000 in
set_option maxHeartbeats 8000000 in
theorem cc_done {n e : Int} (he : e ≠ 150) (hc : RunsP Try.prog 22 [.agg (sigD g), patsD l] (fun v => v = resC zeroP n e)) (hr : RunsP Try.prog 23 [.agg (sigD g), patsD l] (fun v => v = resC zeroP n e)) (h24 : RunsP Try.prog 24 [.agg (sigD g), patsD l] (fun v => v = .v (.int .i64 0)))
    (h25 : RunsP Try.prog 25 [.agg (sigD g)] (fun v => v = .v (.bool true))) (h26 : RunsP Try.prog 26 [.agg (sigD g), patsD l] (fun v => v = .v (.bool true))) :
    RunsP Try.prog 5 [.agg (sigD g), patsD l] (fun v => v = .v (.bool true)) := by
  have e0 : (patR ([] : List Pat)).length = 0 := rfl
  refine enterPB 100 tab_ok Try.func5 rfl (by kernel_rfl) rfl rfl rfl ?_
  repeat' (first
      | refine s_op rfl ?_ | (apply s_skipV; (iterate 2 (exact rfl))) | (apply s_skipU; (iterate 3 (exact rfl))) | (apply s_move; (iterate 4 (exact rfl))) | (apply s_fa_p tab_ok; (iterate 5 (exact rfl)))
      | (apply s_fa_f tab_ok; (iterate 6 (exact rfl))) | (apply s_ld_p tab_ok; (iterate 7 (exact rfl))) | (apply s_ld_f tab_ok; (iterate 6 (exact rfl))) | (apply s_ld_w tab_ok; (iterate 5 (exact rfl)); (first | exact patD_len _)) | (apply s_assign; (iterate 4 (exact rfl)))
      | (apply s_pick_t; (iterate 5 (exact rfl))) | (apply s_pick_f; (iterate 5 (exact rfl))) | (apply s_len tab_ok; (iterate 5 (exact rfl))) | (apply s_lens str_ok; (iterate 4 (exact rfl))) | (apply s_ext; (iterate 5 (exact rfl)))
      | (apply s_build tabZ_ok; (iterate 5 (exact rfl))) | (apply s_boxZ; (iterate 5 (exact rfl)); first | exact rfl | exact allD_mapd _) | (apply s_not_t; (iterate 4 (exact rfl))) | (apply s_not_f; (iterate 4 (exact rfl))) | (apply s_not; (iterate 4 (exact rfl)))
      | (apply s_eql_t; (iterate 5 (exact rfl)); omega) | (apply s_eql_f; (iterate 5 (exact rfl)); omega) | (apply s_neq_t; (iterate 5 (exact rfl)); omega) | (apply s_neq_f; (iterate 5 (exact rfl)); omega) | (apply s_streq_t; (iterate 5 (exact rfl)); assumption)
      | (apply s_streq_f; (iterate 5 (exact rfl)); assumption) | (apply s_boolne bool_ok; (iterate 5 (exact rfl)))
      | (apply s_call; (iterate 6 (exact rfl)); exact hgr; rintro _ ⟨b, rfl, hb⟩; cases b)
      | (apply s_allocF tabZ_ok (d := 5); (iterate 6 (exact rfl)); intro locX σ hc; have hX := hc.at'; clear hc)
      | (apply s_allocF tabZ_ok (d := 8); (iterate 6 (exact rfl)); intro locY σ hc; have hY := hc.at'; have nXY := hc.ne hX; replace hX := hc.keep hX; clear hc)
      | (apply s_storeF tab_ok; (iterate 7 (exact rfl)); exact hX; (iterate 2 (exact rfl)); intro σ hc; replace hX := hc.at'; clear hc)
      | (apply s_storeF tab_ok; (iterate 7 (exact rfl)); exact hY; (iterate 2 (exact rfl)); intro σ hc; replace hY := hc.at'; replace hX := hc.keep (by first | assumption | (apply Ne.symm; assumption) | omega) hX; clear hc)
      | (apply s_ldF tab_ok; (iterate 5 (exact rfl)); exact hX; exact rfl)
      | (apply s_posEq; (iterate 5 (exact rfl)))
      | (apply s_streq_t; (iterate 5 (exact rfl)); exact rfl)
      | (apply s_call; (iterate 6 (exact rfl)); first | (exact hkn; rintro _ rfl) | (exact hc; rintro _ rfl) | (exact hr; rintro _ rfl) | (exact h24; rintro _ rfl) | (exact h25; rintro _ rfl) | (exact h26; rintro _ rfl))
      | refine al_nil ?_ | refine q_then_n ?_ | refine q_then_r ?_ | refine aw_seq ?_ | refine aw_reg ?_
      | refine aw_true rfl ?_ | refine aw_false rfl ?_ | refine aw_skip ?_ | refine aw_ret ?_ | refine al_fork ?_ ?_
      | refine al_fork3 ?_ ?_ ?_
      | refine aw_draws (id := 7) (trO [0, 1, 2, 3, 4, 5, 6, 7, 8, 9, 10, 13, 11, 12, 14, 15, 16, 17, 18, 19, 20, 21, 22, 23, 24, 25, 26, 27, 28, 29, 30, 31, 32, 33] .nil) [11, 14, 18, 25, 30] [] mixed_ok (by kernel_rfl) ?_)
  all_goals exact q_retB (resB_1 rfl (resV_t rfl)) ⟨_, rfl, rfl⟩
set_option maxRecDepth 100000 in
set_option maxHeartbeats 8000000 in
theorem cc_bad1 (hc : RunsP Try.prog 22 [.agg (sigD g), patsD l] (fun v => v = resC zeroP 0 2)) (hr : RunsP Try.prog 23 [.agg (sigD g), patsD l] (fun v => v = resC zeroP 0 2)) (h24 : RunsP Try.prog 24 [.agg (sigD g), patsD l] (fun v => v = .v (.int .i64 2)))
    (h25 : RunsP Try.prog 25 [.agg (sigD g)] (fun v => v = .v (.bool false))) :
    RunsP Try.prog 5 [.agg (sigD g), patsD l] (fun v => v = .v (.bool true)) := by
  have e0 : (patR ([] : List Pat)).length = 0 := rfl
  refine enterPB 100 tab_ok Try.func5 rfl (by kernel_rfl) rfl rfl rfl ?_
  repeat' (first
      | refine s_op rfl ?_ | (apply s_skipV; (iterate 2 (exact rfl))) | (apply s_skipU; (iterate 3 (exact rfl))) | (apply s_move; (iterate 4 (exact rfl))) | (apply s_fa_p tab_ok; (iterate 5 (exact rfl)))
      | (apply s_fa_f tab_ok; (iterate 6 (exact rfl))) | (apply s_ld_p tab_ok; (iterate 7 (exact rfl))) | (apply s_ld_f tab_ok; (iterate 6 (exact rfl))) | (apply s_ld_w tab_ok; (iterate 5 (exact rfl)); (first | exact patD_len _)) | (apply s_assign; (iterate 4 (exact rfl)))
      | (apply s_pick_t; (iterate 5 (exact rfl))) | (apply s_pick_f; (iterate 5 (exact rfl))) | (apply s_len tab_ok; (iterate 5 (exact rfl))) | (apply s_lens str_ok; (iterate 4 (exact rfl))) | (apply s_ext; (iterate 5 (exact rfl)))
      | (apply s_build tabZ_ok; (iterate 5 (exact rfl))) | (apply s_boxZ; (iterate 5 (exact rfl)); first | exact rfl | exact allD_mapd _) | (apply s_not_t; (iterate 4 (exact rfl))) | (apply s_not_f; (iterate 4 (exact rfl))) | (apply s_not; (iterate 4 (exact rfl)))
      | (apply s_eql_t; (iterate 5 (exact rfl)); omega) | (apply s_eql_f; (iterate 5 (exact rfl)); omega) | (apply s_neq_t; (iterate 5 (exact rfl)); omega) | (apply s_neq_f; (iterate 5 (exact rfl)); omega) | (apply s_streq_t; (iterate 5 (exact rfl)); assumption)
      | (apply s_streq_f; (iterate 5 (exact rfl)); assumption) | (apply s_boolne bool_ok; (iterate 5 (exact rfl)))
      | (apply s_call; (iterate 6 (exact rfl)); exact hgr; rintro _ ⟨b, rfl, hb⟩; cases b)
      | (apply s_allocF tabZ_ok (d := 5); (iterate 6 (exact rfl)); intro locX σ hc; have hX := hc.at'; clear hc)
      | (apply s_allocF tabZ_ok (d := 8); (iterate 6 (exact rfl)); intro locY σ hc; have hY := hc.at'; have nXY := hc.ne hX; replace hX := hc.keep hX; clear hc)
      | (apply s_storeF tab_ok; (iterate 7 (exact rfl)); exact hX; (iterate 2 (exact rfl)); intro σ hc; replace hX := hc.at'; clear hc)
      | (apply s_storeF tab_ok; (iterate 7 (exact rfl)); exact hY; (iterate 2 (exact rfl)); intro σ hc; replace hY := hc.at'; replace hX := hc.keep (by first | assumption | (apply Ne.symm; assumption) | omega) hX; clear hc)
      | (apply s_ldF tab_ok; (iterate 5 (exact rfl)); exact hX; exact rfl)
      | (apply s_posEq; (iterate 5 (exact rfl)))
      | (apply s_streq_t; (iterate 5 (exact rfl)); exact rfl)
      | (apply s_call; (iterate 6 (exact rfl)); first | (exact hkn; rintro _ rfl) | (exact hc; rintro _ rfl) | (exact hr; rintro _ rfl) | (exact h24; rintro _ rfl) | (exact h25; rintro _ rfl))
      | refine al_nil ?_ | refine q_then_n ?_ | refine q_then_r ?_ | refine aw_seq ?_ | refine aw_reg ?_
      | refine aw_true rfl ?_ | refine aw_false rfl ?_ | refine aw_skip ?_ | refine aw_ret ?_ | refine al_fork ?_ ?_
      | refine al_fork3 ?_ ?_ ?_
      | refine aw_draws (id := 7) (trO [0, 1, 2, 3, 4, 5, 6, 7, 8, 9, 10, 13, 11, 12, 14, 15, 16, 17, 18, 19, 20, 21, 22, 23, 24, 25, 26, 27, 28, 29, 30, 31, 32, 33] .nil) [11, 14, 18, 25, 30] [] mixed_ok (by kernel_rfl) ?_)
  all_goals exact q_retB (resB_1 rfl (resV_t rfl)) ⟨_, rfl, rfl⟩
set_option maxRecDepth 100000 in
set_option maxHeartbeats 8000000 in
theorem cc_bad2 (hc : RunsP Try.prog 22 [.agg (sigD g), patsD l] (fun v => v = resC zeroP 0 2)) (hr : RunsP Try.prog 23 [.agg (sigD g), patsD l] (fun v => v = resC zeroP 0 2)) (h24 : RunsP Try.prog 24 [.agg (sigD g), patsD l] (fun v => v = .v (.int .i64 2)))
    (h25 : RunsP Try.prog 25 [.agg (sigD g)] (fun v => v = .v (.bool true))) (h26 : RunsP Try.prog 26 [.agg (sigD g), patsD l] (fun v => v = .v (.bool false))) :
    RunsP Try.prog 5 [.agg (sigD g), patsD l] (fun v => v = .v (.bool true)) := by
  have e0 : (patR ([] : List Pat)).length = 0 := rfl
  refine enterPB 100 tab_ok Try.func5 rfl (by kernel_rfl) rfl rfl rfl ?_
  repeat' (first
      | refine s_op rfl ?_ | (apply s_skipV; (iterate 2 (exact rfl))) | (apply s_skipU; (iterate 3 (exact rfl))) | (apply s_move; (iterate 4 (exact rfl))) | (apply s_fa_p tab_ok; (iterate 5 (exact rfl)))
      | (apply s_fa_f tab_ok; (iterate 6 (exact rfl))) | (apply s_ld_p tab_ok; (iterate 7 (exact rfl))) | (apply s_ld_f tab_ok; (iterate 6 (exact rfl))) | (apply s_ld_w tab_ok; (iterate 5 (exact rfl)); (first | exact patD_len _)) | (apply s_assign; (iterate 4 (exact rfl)))
      | (apply s_pick_t; (iterate 5 (exact rfl))) | (apply s_pick_f; (iterate 5 (exact rfl))) | (apply s_len tab_ok; (iterate 5 (exact rfl))) | (apply s_lens str_ok; (iterate 4 (exact rfl))) | (apply s_ext; (iterate 5 (exact rfl)))
      | (apply s_build tabZ_ok; (iterate 5 (exact rfl))) | (apply s_boxZ; (iterate 5 (exact rfl)); first | exact rfl | exact allD_mapd _) | (apply s_not_t; (iterate 4 (exact rfl))) | (apply s_not_f; (iterate 4 (exact rfl))) | (apply s_not; (iterate 4 (exact rfl)))
      | (apply s_eql_t; (iterate 5 (exact rfl)); omega) | (apply s_eql_f; (iterate 5 (exact rfl)); omega) | (apply s_neq_t; (iterate 5 (exact rfl)); omega) | (apply s_neq_f; (iterate 5 (exact rfl)); omega) | (apply s_streq_t; (iterate 5 (exact rfl)); assumption)
      | (apply s_streq_f; (iterate 5 (exact rfl)); assumption) | (apply s_boolne bool_ok; (iterate 5 (exact rfl)))
      | (apply s_call; (iterate 6 (exact rfl)); exact hgr; rintro _ ⟨b, rfl, hb⟩; cases b)
      | (apply s_allocF tabZ_ok (d := 5); (iterate 6 (exact rfl)); intro locX σ hc; have hX := hc.at'; clear hc)
      | (apply s_allocF tabZ_ok (d := 8); (iterate 6 (exact rfl)); intro locY σ hc; have hY := hc.at'; have nXY := hc.ne hX; replace hX := hc.keep hX; clear hc)
      | (apply s_storeF tab_ok; (iterate 7 (exact rfl)); exact hX; (iterate 2 (exact rfl)); intro σ hc; replace hX := hc.at'; clear hc)
      | (apply s_storeF tab_ok; (iterate 7 (exact rfl)); exact hY; (iterate 2 (exact rfl)); intro σ hc; replace hY := hc.at'; replace hX := hc.keep (by first | assumption | (apply Ne.symm; assumption) | omega) hX; clear hc)
      | (apply s_ldF tab_ok; (iterate 5 (exact rfl)); exact hX; exact rfl)
      | (apply s_posEq; (iterate 5 (exact rfl)))
      | (apply s_streq_t; (iterate 5 (exact rfl)); exact rfl)
      | (apply s_call; (iterate 6 (exact rfl)); first | (exact hkn; rintro _ rfl) | (exact hc; rintro _ rfl) | (exact hr; rintro _ rfl) | (exact h24; rintro _ rfl) | (exact h25; rintro _ rfl) | (exact h26; rintro _ rfl))
      | refine al_nil ?_ | refine q_then_n ?_ | refine q_then_r ?_ | refine aw_seq ?_ | refine aw_reg ?_
      | refine aw_true rfl ?_ | refine aw_false rfl ?_ | refine aw_skip ?_ | refine aw_ret ?_ | refine al_fork ?_ ?_
      | refine al_fork3 ?_ ?_ ?_
      | refine aw_draws (id := 7) (trO [0, 1, 2, 3, 4, 5, 6, 7, 8, 9, 10, 13, 11, 12, 14, 15, 16, 17, 18, 19, 20, 21, 22, 23, 24, 25, 26, 27, 28, 29, 30, 31, 32, 33] .nil) [11, 14, 18, 25, 30] [] mixed_ok (by kernel_rfl) ?_)
  all_goals exact q_retB (resB_1 rfl (resV_t rfl)) ⟨_, rfl, rfl⟩
end
/-- What is not great. -/
structure Few (g : Sg) (l : List Pat) : Prop where
  sm : g.Small
  ar : ∀ c ∈ g.cons, c.fields.length ≤ 300
  mass : massL l ≤ 100000
  ac : acL l ≤ 50
  sl : SmallP 1000000 l
theorem few {g : Sg} {l : List Pat} (h : g.Tiny) (hm : massL l ≤ 50) : Few g l := by
  have h1 := acL_mass l
  have h2 := massL_len l
  exact ⟨h.small, h.fields, by omega, by omega, ⟨Pat.smallL_mem (smallL_mass (Nat.le_trans hm (by omega)) (by omega)), by omega⟩⟩
set_option maxRecDepth 100000 in
set_option maxHeartbeats 8000000 in
theorem coverChecks_c (g : Sg) (hg : g.Low) (l : List Pat) (hll : l.length ≤ 140737488355328) (hl : ∀ p ∈ l, p.low) :
    RunsP Try.prog 5 [.agg (sigD g), patsD l] (fun r => r = .v (.bool true)) := by
  have hgr := great_c hg hl hll
  have hkn := known_c
  by_cases hm : g.Tiny ∧ massL l ≤ 50
  · have F := few hm.1 hm.2
    have hac := F.ac
    have hlen := massL_len l
    have hc := check_c F.sm (m := 1000000) (A := 300) (by omega) (by omega) F.ar F.sl 20000 (by omega) (by omega)
    have h24 := may24_c F.sm (by omega : 1000000 ≤ 1000000000) F.sl
    have h25 := rserves_c g F.sm
    have h26 := rtog_c g F.sm 1000000 (by omega) l F.sl
    by_cases hok : mayZ g l = 0
    · have e : servesB g = true ∧ togB g l = true := by
        unfold mayZ at hok
        split at hok
        · assumption
        · cases hok
      have hsv := (servesB_iff g).1 e.1
      have hall := togB_iff2.1 e.2
      rw [e.1] at h25
      rw [e.2] at h26
      rw [hok] at h24
      obtain ⟨a1, a2, a3⟩ := agree hsv hall F.ar (f := 20000) (n := 100) (by omega) (by omega)
      have hr := rcheck_ok F.sm (by omega : 1000000 ≤ 1000000000) F.sl hok a2 (all_c F.sm hsv F.mass hall (by omega))
      generalize lookF (roomOf g l) 100 anyP (startF l) = f at a1 a2 a3 hr
      unfold checkD at hc
      rw [if_pos hok] at hc
      cases hu : usefulF g 20000 (onesL l) (anysL 1) with
      | some w =>
        rw [hu] at hc a1
        obtain ⟨p, rfl, hn, hap, hapart⟩ := miss_wit hsv hall hu
        rw [if_neg (a1.1 rfl)] at hr
        have u0 : UOk g 1000000 300 1 (onesL l) (anysL 1) := uok_ones F.sl hall.wf (small_any _) (wf_any g)
        have hps := useful_small (by unfold maxLen; omega) (by omega) F.ar _ _ _ _ _ u0 hu p (List.mem_cons_self ..)
        have hwit := witness_c F.sm (by omega : 1000000 ≤ 1000000000) (l := l) (w := p) ⟨fun q hq => by
          rcases List.mem_append.1 hq with hq | hq
          · exact F.sl.each q hq
          · rw [List.mem_singleton.1 hq]; exact hps, by rw [List.length_append]; have := hm.2; simp; omega⟩
        have hwb : witB g l p = true := by
          unfold witB
          rw [hn, togB_iff2.2 hap, List.all_eq_true.2 hapart]; rfl
        rw [hwb] at hwit
        exact cc_miss hkn hgr hc hr h24 h25 h26 hwit
      | none =>
        rw [hu] at hc a1
        have h0 : f.missing.kind = 0 := Classical.byContradiction fun h => by have := a1.2 h; cases this
        rw [if_pos h0] at hr
        have hcg : doneC (fun i => (useK g 20000 l i).isSome) l.length = doneC (fun i => f.come.getD i false) l.length := doneC_congr fun i hi => by
          obtain ⟨p, hp⟩ := getS hi
          unfold useK
          rw [hp]
          exact a3 i p hp
        have hc : RunsP Try.prog 22 [.agg (sigD g), patsD l] (fun v => v = doneC (fun i => (useK g 20000 l i).isSome) l.length) := hc
        rw [hcg] at hc
        unfold doneC at hc hr
        cases hf : firstB (fun i => f.come.getD i false) l.length with
        | some k =>
          rw [hf] at hc hr
          exact cc_done hkn hgr (by omega) hc hr h24 h25 h26
        | none =>
          rw [hf] at hc hr
          exact cc_done hkn hgr (by omega) hc hr h24 h25 h26
    · have hr := rcheck_bad F.sm (by omega : 1000000 ≤ 1000000000) F.sl hok
      unfold checkD at hc
      rw [if_neg hok] at hc
      have hok2 : mayZ g l = 2 := by
        unfold mayZ at hok ⊢
        split
        · rename_i h; rw [if_pos h] at hok; exact absurd rfl hok
        · rfl
      rw [hok2] at h24
      cases e1 : servesB g with
      | false =>
        rw [e1] at h25
        exact cc_bad1 hkn hgr hc hr h24 h25
      | true =>
        cases e2 : togB g l with
        | false =>
          rw [e1] at h25
          rw [e2] at h26
          exact cc_bad2 hkn hgr hc hr h24 h25 h26
        | true => exact absurd (by unfold mayZ; rw [if_pos ⟨e1, e2⟩]) hok
  · refine enterPB 100 tab_ok Try.func5 rfl (by kernel_rfl) rfl rfl rfl ?_
    repeat' (first
      | refine s_op rfl ?_ | (apply s_skipV; (iterate 2 (exact rfl))) | (apply s_skipU; (iterate 3 (exact rfl))) | (apply s_move; (iterate 4 (exact rfl))) | (apply s_fa_p tab_ok; (iterate 5 (exact rfl)))
      | (apply s_fa_f tab_ok; (iterate 6 (exact rfl))) | (apply s_ld_p tab_ok; (iterate 7 (exact rfl))) | (apply s_ld_f tab_ok; (iterate 6 (exact rfl))) | (apply s_ld_w tab_ok; (iterate 5 (exact rfl)); (first | exact patD_len _)) | (apply s_assign; (iterate 4 (exact rfl)))
      | (apply s_pick_t; (iterate 5 (exact rfl))) | (apply s_pick_f; (iterate 5 (exact rfl))) | (apply s_len tab_ok; (iterate 5 (exact rfl))) | (apply s_lens str_ok; (iterate 4 (exact rfl))) | (apply s_ext; (iterate 5 (exact rfl)))
      | (apply s_build tabZ_ok; (iterate 5 (exact rfl))) | (apply s_alloc tabZ_ok; (iterate 7 (exact rfl))) | (apply s_boxZ; (iterate 5 (exact rfl)); first | exact rfl | exact allD_mapd _) | (apply s_store tab_ok; (iterate 10 (exact rfl))) | (apply s_not_t; (iterate 4 (exact rfl)))
      | (apply s_not_f; (iterate 4 (exact rfl))) | (apply s_not; (iterate 4 (exact rfl))) | (apply s_eql_t; (iterate 5 (exact rfl)); omega) | (apply s_eql_f; (iterate 5 (exact rfl)); omega) | (apply s_neq_t; (iterate 5 (exact rfl)); omega)
      | (apply s_neq_f; (iterate 5 (exact rfl)); omega) | (apply s_streq_t; (iterate 5 (exact rfl)); assumption) | (apply s_streq_f; (iterate 5 (exact rfl)); assumption) | (apply s_boolne bool_ok; (iterate 5 (exact rfl)))
      | (apply s_call; (iterate 6 (exact rfl)); exact hgr; rintro _ ⟨b, rfl, hb⟩; (have hb1 : b = true := by cases b; exact absurd (hb rfl) hm; rfl); subst hb1)
      | (apply s_call; (iterate 6 (exact rfl)); first | (exact hkn; rintro _ rfl))
      | refine al_nil ?_ | refine q_then_n ?_ | refine q_then_r ?_ | refine aw_seq ?_ | refine aw_reg ?_
      | refine aw_true rfl ?_ | refine aw_false rfl ?_ | refine aw_skip ?_ | refine aw_ret ?_ | refine al_fork ?_ ?_
      | refine al_fork3 ?_ ?_ ?_
      | refine aw_draws (id := 7) (trO [0, 1, 2, 3, 4, 5, 6, 7, 8, 9, 10, 13, 11, 12, 14, 15, 16, 17, 18, 19, 20, 21, 22, 23, 24, 25, 26, 27, 28, 29, 30, 31, 32, 33] .nil) [11, 14, 18, 25, 30] [] mixed_ok (by kernel_rfl) ?_)
    all_goals exact q_retB (resB_1 rfl (resV_t rfl)) ⟨_, rfl, rfl⟩
end Go.Proofs.Ytjflembhgjcgkaa
