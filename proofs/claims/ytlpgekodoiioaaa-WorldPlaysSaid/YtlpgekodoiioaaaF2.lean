/- The document's world: Drop, Close, Write, Open. -/
import Derived.Test.YtlpgekodoiioaaaF1
import Derived.Test.YtlpgekodoiioaaaWLaw
set_option linter.unusedSimpArgs false
set_option linter.unusedVariables false
namespace Go.Proofs.Ytlpgekodoiioaaa
open Go.RowKit
-- DEF LDP: (apply s_ldF tab_ok; (iterate 5 (exact rfl)); exact hP; exact rfl)
-- DEF FAIL: (apply s_callS; (iterate 6 (exact rfl)); exact cf; rintro _ σ ⟨rfl, hR, hO2⟩; replace hO := hO.trans hO2; clear hO2)
-- DEF WRONG: (apply s_callS; (iterate 6 (exact rfl)); exact wrong_c hR _; rintro _ _ ⟨rfl, rfl⟩)
-- DEF IDXH: (apply s_idxO _ tab_ok; (iterate 7 (exact rfl)); exact hH; exact ⟨by omega, rfl⟩)
-- DEF IDXF: (apply s_idxO _ tab_ok; (iterate 7 (exact rfl)); exact hF; exact ⟨by omega, rfl⟩)

section
variable {σ : List AObj} {q : RL} {W : AW} {n : Nat}

theorem hD_open {y : AHandle} (h : y.shut = false) : hD y = [.v (.int .i64 (y.file : Int)), .v (.int .i64 (y.pos : Int))] := by simp [hD, h]

set_option maxRecDepth 100000 in
theorem rdrop_c (hR : RefAt σ q W) (x : Int) : Runs Try.prog 47 [.ptr q.p 0 0, .d (.v (.int .i64 x))] σ (RefP q (W.drop x).2 (.d (.v (.int .i64 (W.drop x).1))) σ) := by
  have hO := Out.refl q σ
  refine enter 19 Try.func47 rfl (by kernel_rfl) rfl rfl rfl ?_
  by_cases hw : W.wrong x = 0
  · obtain ⟨i, rfl, hi, hx, hs⟩ := wrong_handle (W := W) (x := x) (by simpa using hw)
    have hd : W.drop i = (0, W.setHandle i { W.handle i with shut := true }) := by unfold AW.drop; rw [if_neg (by simpa using hw), Int.toNat_natCast]
    rw [hd]
    have hyr := map_get (f := hD) hx
    rw [hD_open hs] at hyr
    obtain ⟨⟨pf, ph, pt, fh, ft, hth⟩, F, t, vf, vh, vt, e, ht, hF0, hP, hF, hH, hT⟩ := id hR
    unfold refRow at hP
    have h5 : (W.handles.map hD).set i (spliceL [.v (.int .i64 ((W.handle i).file : Int)), .v (.int .i64 ((W.handle i).pos : Int))] 0 [.v (.int .i64 (-1))]) = (W.handles.set i { W.handle i with shut := true }).map hD := by rw [List.map_set]; rfl
    repeat' (first
      | refine s_op rfl ?_ | (apply s_move; (iterate 4 (exact rfl))) | (apply s_fa_p tab_ok; (iterate 5 (exact rfl))) | (apply s_fa_f tab_ok; (iterate 6 (exact rfl))) | (apply s_ld_p tab_ok; (iterate 7 (exact rfl)))
      | (apply s_ld_f tab_ok; (iterate 6 (exact rfl))) | (apply s_ld_w tab_ok; (iterate 5 (exact rfl)); (first | exact patD_len _ | exact valD_len _)) | (apply s_assign; (iterate 4 (exact rfl))) | (apply s_idx tab_ok; (iterate 7 (exact rfl)); (first | exact patR_get (by assumption) | exact valR_get (by assumption) | exact row_map (by assumption) | assumption)) | (apply s_nilc; (iterate 5 (exact rfl)))
      | (apply s_store tab_ok; (iterate 10 (exact rfl))) | (apply s_eql_t; (iterate 5 (exact rfl)); omega) | (apply s_eql_f; (iterate 5 (exact rfl)); omega)
      | (apply s_callS; (iterate 6 (exact rfl)); exact wrong_c hR _; rintro _ _ ⟨rfl, rfl⟩)
      | (apply s_ldF tab_ok; (iterate 5 (exact rfl)); exact hP; exact rfl)
      | (apply s_idxO _ tab_ok; (iterate 7 (exact rfl)); exact hH; exact ⟨by omega, rfl⟩)
      | (apply s_stA i 0 tab_ok; (iterate 8 (exact rfl)); exact hH; exact hyr; omega; omega; exact h5; intro σ hc; replace hH := hc.at'; replace hP := hc.keep (by first | assumption | (apply Ne.symm; assumption) | omega) hP; replace hF := hc.keep (by first | assumption | (apply Ne.symm; assumption) | omega) hF; replace hT := hc.keep (by first | assumption | (apply Ne.symm; assumption) | omega) hT; replace hO := hO.chg hc (has_h q); clear hc)
      | refine al_nil ?_ | refine q_then_n ?_ | refine q_then_r ?_ | refine aw_seq ?_ | refine aw_reg ?_
      | refine aw_true rfl ?_ | refine aw_false rfl ?_ | refine aw_skip ?_ | refine aw_ret ?_)
    refine q_ret rfl ⟨by rw [hw]; rfl, ⟨⟨pf, ph, pt, fh, ft, hth⟩, F, t, vf, vh, vt, e, ht, hF0, ?_, hF, hH, hT⟩, hO⟩
    unfold refRow AW.setHandle
    simp only [List.length_set]
    exact hP
  · have hd : W.drop x = (W.wrong x, W) := by unfold AW.drop; rw [if_pos hw]
    rw [hd]
    repeat' (first
      | refine s_op rfl ?_ | (apply s_move; (iterate 4 (exact rfl))) | (apply s_fa_p tab_ok; (iterate 5 (exact rfl))) | (apply s_fa_f tab_ok; (iterate 6 (exact rfl))) | (apply s_ld_p tab_ok; (iterate 7 (exact rfl)))
      | (apply s_ld_f tab_ok; (iterate 6 (exact rfl))) | (apply s_ld_w tab_ok; (iterate 5 (exact rfl)); (first | exact patD_len _ | exact valD_len _)) | (apply s_assign; (iterate 4 (exact rfl))) | (apply s_idx tab_ok; (iterate 7 (exact rfl)); (first | exact patR_get (by assumption) | exact valR_get (by assumption) | exact row_map (by assumption) | assumption)) | (apply s_nilc; (iterate 5 (exact rfl)))
      | (apply s_store tab_ok; (iterate 10 (exact rfl))) | (apply s_eql_t; (iterate 5 (exact rfl)); omega) | (apply s_eql_f; (iterate 5 (exact rfl)); omega)
      | (apply s_callS; (iterate 6 (exact rfl)); exact wrong_c hR _; rintro _ _ ⟨rfl, rfl⟩)
      | refine al_nil ?_ | refine q_then_n ?_ | refine q_then_r ?_ | refine aw_seq ?_ | refine aw_reg ?_
      | refine aw_true rfl ?_ | refine aw_false rfl ?_ | refine aw_skip ?_ | refine aw_ret ?_)
    exact q_ret rfl ⟨rfl, hR, hO⟩

set_option maxRecDepth 100000 in
theorem rclose_c (hR : RefAt σ q W) (x : Int) (hn : W.trace.length ≤ 100000) : Runs Try.prog 46 [.ptr q.p 0 0, .d (.v (.int .i64 x))] σ (RefP q (W.close x).2 (.tup [.d (.v (.bool (W.close x).1.1)), .d (.v (.int .i64 (W.close x).1.2))]) σ) := by
  have hO := Out.refl q σ
  refine enter 30 Try.func46 rfl (by kernel_rfl) rfl rfl rfl ?_
  by_cases hw : W.wrong x = 0
  · obtain ⟨i, rfl, hi, hx, hs⟩ := wrong_handle (W := W) (x := x) (by simpa using hw)
    have hd : W.close i = ((W.goes.1, 0), (W.goes.2.setHandle i { W.handle i with shut := true }).note ⟨4, i, emptyB, emptyB, W.goes.1⟩) := by unfold AW.close; rw [if_neg (by simpa using hw), Int.toNat_natCast]
    have e1 := goes_handles W
    have e2 := goes_trace W
    have cf := fail_c hR
    obtain ⟨g, hg⟩ : ∃ g, W.goes.1 = g := ⟨_, rfl⟩
    obtain ⟨W1, hW1⟩ : ∃ W1, W.goes.2 = W1 := ⟨_, rfl⟩
    rw [hg, hW1] at cf hd
    rw [hd]
    rw [hW1] at e1 e2
    have hyr := map_get (f := hD) hx
    rw [hD_open hs, ← e1] at hyr
    have hi1 : i < W1.handles.length := by rw [e1]; exact hi
    have h5 : (W1.handles.map hD).set i (spliceL [.v (.int .i64 ((W.handle i).file : Int)), .v (.int .i64 ((W.handle i).pos : Int))] 0 [.v (.int .i64 (-1))]) = (W1.handles.set i { W.handle i with shut := true }).map hD := by rw [List.map_set]; rfl
    have fin : ∀ g {σ0 σ1 : List AObj}, RefAt σ1 q (W1.setHandle i { W.handle i with shut := true }) → Out q σ0 σ1 → Runs Try.prog 52 [.ptr q.p 0 0, .d (.agg [.v (.int .u8 4), .v (.int .i64 (i : Int)), .v (.string ⟨#[]⟩), .v (.string ⟨#[]⟩), .v (.bool g)])] σ1 (fun v σ' => v = .tup [] ∧ RefAt σ' q ((W1.setHandle i { W.handle i with shut := true }).note ⟨4, i, emptyB, emptyB, g⟩) ∧ Out q σ0 σ') := fun g σ0 σ1 h1 h2 =>
      (did_c h1 ⟨4, i, emptyB, emptyB, g⟩ (by simp only [AW.setHandle]; rw [e2]; exact hn)).mono fun v σ' ⟨a, b, c⟩ => ⟨a, b, h2.trans c⟩
    cases g <;> simp only [Bool.not_true, Bool.not_false] at cf
    all_goals
      repeat' (first
      | refine s_op rfl ?_ | (apply s_move; (iterate 4 (exact rfl))) | (apply s_fa_p tab_ok; (iterate 5 (exact rfl))) | (apply s_fa_f tab_ok; (iterate 6 (exact rfl))) | (apply s_ld_p tab_ok; (iterate 7 (exact rfl)))
      | (apply s_ld_f tab_ok; (iterate 6 (exact rfl))) | (apply s_ld_w tab_ok; (iterate 5 (exact rfl)); (first | exact patD_len _ | exact valD_len _)) | (apply s_assign; (iterate 4 (exact rfl))) | (apply s_idx tab_ok; (iterate 7 (exact rfl)); (first | exact patR_get (by assumption) | exact valR_get (by assumption) | exact row_map (by assumption) | assumption)) | (apply s_nilc; (iterate 5 (exact rfl)))
      | (apply s_build tabZ_ok; (iterate 5 (exact rfl))) | (apply s_store tab_ok; (iterate 10 (exact rfl))) | (apply s_not_t; (iterate 4 (exact rfl))) | (apply s_not_f; (iterate 4 (exact rfl))) | (apply s_not; (iterate 4 (exact rfl)))
      | (apply s_neq_t; (iterate 5 (exact rfl)); omega) | (apply s_neq_f; (iterate 5 (exact rfl)); omega)
      | (apply s_callS; (iterate 6 (exact rfl)); exact wrong_c hR _; rintro _ _ ⟨rfl, rfl⟩)
      | (apply s_callS; (iterate 6 (exact rfl)); exact cf; rintro _ σ ⟨rfl, hR, hO2⟩; replace hO := hO.trans hO2; clear hO2)
      | refine al_nil ?_ | refine q_then_n ?_ | refine q_then_r ?_ | refine aw_seq ?_ | refine aw_reg ?_
      | refine aw_true rfl ?_ | refine aw_false rfl ?_ | refine aw_skip ?_ | refine aw_ret ?_)
      obtain ⟨⟨pf, ph, pt, fh, ft, hth⟩, F, t, vf, vh, vt, e, ht, hF0, hP, hF, hH, hT⟩ := id hR
      unfold refRow at hP
      repeat' (first
      | refine s_op rfl ?_ | (apply s_move; (iterate 4 (exact rfl))) | (apply s_fa_p tab_ok; (iterate 5 (exact rfl))) | (apply s_fa_f tab_ok; (iterate 6 (exact rfl))) | (apply s_ld_p tab_ok; (iterate 7 (exact rfl)))
      | (apply s_ld_f tab_ok; (iterate 6 (exact rfl))) | (apply s_ld_w tab_ok; (iterate 5 (exact rfl)); (first | exact patD_len _ | exact valD_len _)) | (apply s_assign; (iterate 4 (exact rfl))) | (apply s_idx tab_ok; (iterate 7 (exact rfl)); (first | exact patR_get (by assumption) | exact valR_get (by assumption) | exact row_map (by assumption) | assumption)) | (apply s_nilc; (iterate 5 (exact rfl)))
      | (apply s_build tabZ_ok; (iterate 5 (exact rfl))) | (apply s_store tab_ok; (iterate 10 (exact rfl))) | (apply s_not_t; (iterate 4 (exact rfl))) | (apply s_not_f; (iterate 4 (exact rfl))) | (apply s_not; (iterate 4 (exact rfl)))
      | (apply s_neq_t; (iterate 5 (exact rfl)); omega) | (apply s_neq_f; (iterate 5 (exact rfl)); omega)
      | (apply s_ldF tab_ok; (iterate 5 (exact rfl)); exact hP; exact rfl)
      | (apply s_idxO _ tab_ok; (iterate 7 (exact rfl)); exact hH; exact ⟨by omega, rfl⟩)
      | (apply s_stA i 0 tab_ok; (iterate 8 (exact rfl)); exact hH; exact hyr; omega; omega; exact h5; intro σ hc; replace hH := hc.at'; replace hP := hc.keep (by first | assumption | (apply Ne.symm; assumption) | omega) hP; replace hF := hc.keep (by first | assumption | (apply Ne.symm; assumption) | omega) hF; replace hT := hc.keep (by first | assumption | (apply Ne.symm; assumption) | omega) hT; replace hO := hO.chg hc (has_h q); clear hc)
      | refine al_nil ?_ | refine q_then_n ?_ | refine q_then_r ?_ | refine aw_seq ?_ | refine aw_reg ?_
      | refine aw_true rfl ?_ | refine aw_false rfl ?_ | refine aw_skip ?_ | refine aw_ret ?_)
      have hR2 : RefAt σ q (W1.setHandle i { W.handle i with shut := true }) := ⟨⟨pf, ph, pt, fh, ft, hth⟩, F, t, vf, vh, vt, e, ht, hF0, by unfold refRow AW.setHandle; simp only [List.length_set]; exact hP, hF, hH, hT⟩
      repeat' (first
      | refine s_op rfl ?_ | (apply s_move; (iterate 4 (exact rfl))) | (apply s_fa_p tab_ok; (iterate 5 (exact rfl))) | (apply s_fa_f tab_ok; (iterate 6 (exact rfl))) | (apply s_ld_p tab_ok; (iterate 7 (exact rfl)))
      | (apply s_ld_f tab_ok; (iterate 6 (exact rfl))) | (apply s_ld_w tab_ok; (iterate 5 (exact rfl)); (first | exact patD_len _ | exact valD_len _)) | (apply s_assign; (iterate 4 (exact rfl))) | (apply s_idx tab_ok; (iterate 7 (exact rfl)); (first | exact patR_get (by assumption) | exact valR_get (by assumption) | exact row_map (by assumption) | assumption)) | (apply s_nilc; (iterate 5 (exact rfl)))
      | (apply s_build tabZ_ok; (iterate 5 (exact rfl))) | (apply s_store tab_ok; (iterate 10 (exact rfl))) | (apply s_not_t; (iterate 4 (exact rfl))) | (apply s_not_f; (iterate 4 (exact rfl))) | (apply s_not; (iterate 4 (exact rfl)))
      | (apply s_neq_t; (iterate 5 (exact rfl)); omega) | (apply s_neq_f; (iterate 5 (exact rfl)); omega)
      | (apply s_callS; (iterate 6 (exact rfl)); exact fin _ hR2 hO; rintro _ σ ⟨rfl, hR, hO⟩)
      | refine al_nil ?_ | refine q_then_n ?_ | refine q_then_r ?_ | refine aw_seq ?_ | refine aw_reg ?_
      | refine aw_true rfl ?_ | refine aw_false rfl ?_ | refine aw_skip ?_ | refine aw_ret ?_)
      exact q_ret rfl ⟨by rw [hw]; rfl, hR, hO⟩
  · have hd : W.close x = ((false, W.wrong x), W) := by unfold AW.close; rw [if_pos hw]
    rw [hd]
    repeat' (first
      | refine s_op rfl ?_ | (apply s_move; (iterate 4 (exact rfl))) | (apply s_fa_p tab_ok; (iterate 5 (exact rfl))) | (apply s_fa_f tab_ok; (iterate 6 (exact rfl))) | (apply s_ld_p tab_ok; (iterate 7 (exact rfl)))
      | (apply s_ld_f tab_ok; (iterate 6 (exact rfl))) | (apply s_ld_w tab_ok; (iterate 5 (exact rfl)); (first | exact patD_len _ | exact valD_len _)) | (apply s_assign; (iterate 4 (exact rfl))) | (apply s_idx tab_ok; (iterate 7 (exact rfl)); (first | exact patR_get (by assumption) | exact valR_get (by assumption) | exact row_map (by assumption) | assumption)) | (apply s_nilc; (iterate 5 (exact rfl)))
      | (apply s_build tabZ_ok; (iterate 5 (exact rfl))) | (apply s_store tab_ok; (iterate 10 (exact rfl))) | (apply s_not_t; (iterate 4 (exact rfl))) | (apply s_not_f; (iterate 4 (exact rfl))) | (apply s_not; (iterate 4 (exact rfl)))
      | (apply s_neq_t; (iterate 5 (exact rfl)); omega) | (apply s_neq_f; (iterate 5 (exact rfl)); omega)
      | (apply s_callS; (iterate 6 (exact rfl)); exact wrong_c hR _; rintro _ _ ⟨rfl, rfl⟩)
      | refine al_nil ?_ | refine q_then_n ?_ | refine q_then_r ?_ | refine aw_seq ?_ | refine aw_reg ?_
      | refine aw_true rfl ?_ | refine aw_false rfl ?_ | refine aw_skip ?_ | refine aw_ret ?_)
    exact q_ret rfl ⟨rfl, hR, hO⟩

set_option maxRecDepth 100000 in
set_option maxHeartbeats 2000000 in
theorem rwrite_c (hR : RefAt σ q W) (x : Int) (s : ByteArray) (hs0 : s.size ≤ 100000) (ok : W.Ok n) (hn : n ≤ 100000) : Runs Try.prog 45 [.ptr q.p 0 0, .d (.v (.int .i64 x)), .d (.v (.string s))] σ (RefP q (W.write x s).2 (.tup [.d (.v (.bool (W.write x s).1.1)), .d (.v (.int .i64 (W.write x s).1.2))]) σ) := by
  have hO := Out.refl q σ
  refine enter 66 Try.func45 rfl (by kernel_rfl) rfl rfl rfl ?_
  by_cases hw : W.wrong x = 0
  · obtain ⟨i, rfl, hi, hx, hs⟩ := wrong_handle (W := W) (x := x) (by simpa using hw)
    obtain ⟨y, hy⟩ : ∃ y, W.handle i = y := ⟨_, rfl⟩
    rw [hy] at hx hs
    obtain ⟨hyf, _⟩ := ok.files _ (List.mem_of_getElem? hx)
    obtain ⟨f, hf⟩ : ∃ f, W.files[y.file]? = some f := ⟨_, List.getElem?_eq_getElem hyf⟩
    have hft := ok.texts f (List.mem_of_getElem? hf)
    have hff : W.file y.file = f := by unfold AW.file; rw [List.getD_eq_getElem?_getD, hf]; rfl
    have e0 := goes_files W
    have e1 := goes_handles W
    have e2 := goes_trace W
    have cf := fail_c hR
    obtain ⟨g, hg⟩ : ∃ g, W.goes.1 = g := ⟨_, rfl⟩
    obtain ⟨W1, hW1⟩ : ∃ W1, W.goes.2 = W1 := ⟨_, rfl⟩
    have hd : W.write i s = (((g && decide (s.size + f.text.size ≤ 4000)), 0), (if g && decide (s.size + f.text.size ≤ 4000) then { W1 with files := W.files.set y.file { f with text := f.text ++ s } } else W1).note ⟨3, i, emptyB, s, g && decide (s.size + f.text.size ≤ 4000)⟩) := by
      unfold AW.write
      rw [if_neg (by simpa using hw), Int.toNat_natCast, hy]
      dsimp only
      rw [hff, hg, hW1]
    rw [hg, hW1] at cf
    rw [hW1] at e0 e1 e2
    have hyr := map_get (f := hD) hx
    rw [hD_open hs] at hyr
    have hfr := map_get (f := fileD) hf
    have hyr1 := hyr
    have hfr1 := hfr
    rw [← e1] at hyr1
    rw [← e0] at hfr1
    have hi1 : i < W1.handles.length := by rw [e1]; exact hi
    have hl1 : y.file < W1.files.length := by rw [e0]; exact hyf
    have h5 : (W1.files.map fileD).set y.file (spliceL (fileD f) 1 [.v (.string (f.text ++ s))]) = (W.files.set y.file { f with text := f.text ++ s }).map fileD := by rw [e0, List.map_set]; rfl
    have fin : ∀ (V : AW) (b : Bool) {σ0 σ1 : List AObj}, V.trace = W.trace → RefAt σ1 q V → Out q σ0 σ1 → Runs Try.prog 52 [.ptr q.p 0 0, .d (.agg [.v (.int .u8 3), .v (.int .i64 (i : Int)), .v (.string ⟨#[]⟩), .v (.string s), .v (.bool b)])] σ1 (fun v σ' => v = .tup [] ∧ RefAt σ' q (V.note ⟨3, i, emptyB, s, b⟩) ∧ Out q σ0 σ') := fun V b σ0 σ1 h0 h1 h2 =>
      (did_c h1 ⟨3, i, emptyB, s, b⟩ (by rw [h0]; exact Nat.le_trans ok.trace hn)).mono fun v σ' ⟨a, b, c⟩ => ⟨a, b, h2.trans c⟩
    obtain ⟨⟨pf, ph, pt, fh, ft, hth⟩, F, t, vf, vh, vt, e, ht, hF0, hP, hF, hH, hT⟩ := id hR
    unfold refRow at hP
    by_cases hfit : s.size + f.text.size ≤ 4000
    · have hfit2 : f.text.size + s.size ≤ 4000 := by omega
      rw [decide_eq_true hfit, Bool.and_true] at hd
      rw [hd]
      cases g <;> simp only [Bool.not_true, Bool.not_false] at cf
      · repeat' (first
      | refine s_op rfl ?_ | (apply s_move; (iterate 4 (exact rfl))) | (apply s_fa_p tab_ok; (iterate 5 (exact rfl))) | (apply s_fa_f tab_ok; (iterate 6 (exact rfl))) | (apply s_ld_p tab_ok; (iterate 7 (exact rfl)))
      | (apply s_ld_f tab_ok; (iterate 6 (exact rfl))) | (apply s_ld_w tab_ok; (iterate 5 (exact rfl)); (first | exact patD_len _ | exact valD_len _)) | (apply s_assign; (iterate 4 (exact rfl))) | (apply s_len tab_ok; (iterate 5 (exact rfl))) | (apply s_lens str_ok; (iterate 4 (exact rfl)))
      | (apply s_idx tab_ok; (iterate 7 (exact rfl)); (first | exact patR_get (by assumption) | exact valR_get (by assumption) | exact row_map (by assumption) | assumption)) | (apply s_nilc; (iterate 5 (exact rfl))) | (apply s_build tabZ_ok; (iterate 5 (exact rfl))) | (apply s_store tab_ok; (iterate 10 (exact rfl))) | (apply s_not_t; (iterate 4 (exact rfl)))
      | (apply s_not_f; (iterate 4 (exact rfl))) | (apply s_not; (iterate 4 (exact rfl))) | (apply s_neq_t; (iterate 5 (exact rfl)); omega) | (apply s_neq_f; (iterate 5 (exact rfl)); omega) | (apply s_gtr_t; (iterate 5 (exact rfl)); omega)
      | (apply s_gtr_f; (iterate 5 (exact rfl)); omega) | (apply s_add64; (iterate 5 (exact rfl)); omega) | (apply s_stradd; (iterate 5 (exact rfl)); omega)
      | (apply s_callS; (iterate 6 (exact rfl)); exact wrong_c hR _; rintro _ _ ⟨rfl, rfl⟩)
      | (apply s_ldF tab_ok; (iterate 5 (exact rfl)); exact hP; exact rfl)
      | (apply s_idxO _ tab_ok; (iterate 7 (exact rfl)); exact hH; exact ⟨by omega, rfl⟩)
      | (apply s_ldA i 0 tab_ok; (iterate 5 (exact rfl)); exact hH; exact hyr; omega; exact rfl)
      | (apply s_callS; (iterate 6 (exact rfl)); exact cf; rintro _ σ ⟨rfl, hR, hO2⟩; replace hO := hO.trans hO2; clear hO2)
      | refine al_nil ?_ | refine q_then_n ?_ | refine q_then_r ?_ | refine aw_seq ?_ | refine aw_reg ?_
      | refine aw_true rfl ?_ | refine aw_false rfl ?_ | refine aw_skip ?_ | refine aw_ret ?_ | refine al_fork ?_ ?_
      | refine al_fork3 ?_ ?_ ?_
      | refine aw_draws (id := 9) (trO [0, 1, 2, 3, 4, 5, 6, 7, 8, 9, 10, 11, 12, 13, 14, 15, 16, 17] .nil) [17] [17] mixed_ok (by kernel_rfl) ?_)
        clear hP hF hH hT
        obtain ⟨_, F, t, vf, vh, vt, e, ht, hF0, hP, hF, hH, hT⟩ := id hR
        unfold refRow at hP
        repeat' (first
      | refine s_op rfl ?_ | (apply s_move; (iterate 4 (exact rfl))) | (apply s_fa_p tab_ok; (iterate 5 (exact rfl))) | (apply s_fa_f tab_ok; (iterate 6 (exact rfl))) | (apply s_ld_p tab_ok; (iterate 7 (exact rfl)))
      | (apply s_ld_f tab_ok; (iterate 6 (exact rfl))) | (apply s_ld_w tab_ok; (iterate 5 (exact rfl)); (first | exact patD_len _ | exact valD_len _)) | (apply s_assign; (iterate 4 (exact rfl))) | (apply s_len tab_ok; (iterate 5 (exact rfl))) | (apply s_lens str_ok; (iterate 4 (exact rfl)))
      | (apply s_idx tab_ok; (iterate 7 (exact rfl)); (first | exact patR_get (by assumption) | exact valR_get (by assumption) | exact row_map (by assumption) | assumption)) | (apply s_nilc; (iterate 5 (exact rfl))) | (apply s_build tabZ_ok; (iterate 5 (exact rfl))) | (apply s_store tab_ok; (iterate 10 (exact rfl))) | (apply s_not_t; (iterate 4 (exact rfl)))
      | (apply s_not_f; (iterate 4 (exact rfl))) | (apply s_not; (iterate 4 (exact rfl))) | (apply s_neq_t; (iterate 5 (exact rfl)); omega) | (apply s_neq_f; (iterate 5 (exact rfl)); omega) | (apply s_gtr_t; (iterate 5 (exact rfl)); omega)
      | (apply s_gtr_f; (iterate 5 (exact rfl)); omega) | (apply s_add64; (iterate 5 (exact rfl)); omega) | (apply s_stradd; (iterate 5 (exact rfl)); omega)
      | (apply s_ldF tab_ok; (iterate 5 (exact rfl)); exact hP; exact rfl)
      | (apply s_idxO _ tab_ok; (iterate 7 (exact rfl)); exact hF; exact ⟨by omega, rfl⟩)
      | (apply s_ldA y.file 1 tab_ok; (iterate 5 (exact rfl)); exact hF; exact hfr1; omega; exact rfl)
      | (apply s_callS; (iterate 6 (exact rfl)); exact fin W1 _ e2 hR hO; rintro _ σ ⟨rfl, hR, hO⟩)
      | refine al_nil ?_ | refine q_then_n ?_ | refine q_then_r ?_ | refine aw_seq ?_ | refine aw_reg ?_
      | refine aw_true rfl ?_ | refine aw_false rfl ?_ | refine aw_skip ?_ | refine aw_ret ?_ | refine al_fork ?_ ?_
      | refine al_fork3 ?_ ?_ ?_
      | refine aw_draws (id := 9) (trO [0, 1, 2, 3, 4, 5, 6, 7, 8, 9, 10, 11, 12, 13, 14, 15, 16, 17] .nil) [17] [17] mixed_ok (by kernel_rfl) ?_)
        exact q_ret rfl ⟨rfl, hR, hO⟩
      · repeat' (first
      | refine s_op rfl ?_ | (apply s_move; (iterate 4 (exact rfl))) | (apply s_fa_p tab_ok; (iterate 5 (exact rfl))) | (apply s_fa_f tab_ok; (iterate 6 (exact rfl))) | (apply s_ld_p tab_ok; (iterate 7 (exact rfl)))
      | (apply s_ld_f tab_ok; (iterate 6 (exact rfl))) | (apply s_ld_w tab_ok; (iterate 5 (exact rfl)); (first | exact patD_len _ | exact valD_len _)) | (apply s_assign; (iterate 4 (exact rfl))) | (apply s_len tab_ok; (iterate 5 (exact rfl))) | (apply s_lens str_ok; (iterate 4 (exact rfl)))
      | (apply s_idx tab_ok; (iterate 7 (exact rfl)); (first | exact patR_get (by assumption) | exact valR_get (by assumption) | exact row_map (by assumption) | assumption)) | (apply s_nilc; (iterate 5 (exact rfl))) | (apply s_build tabZ_ok; (iterate 5 (exact rfl))) | (apply s_store tab_ok; (iterate 10 (exact rfl))) | (apply s_not_t; (iterate 4 (exact rfl)))
      | (apply s_not_f; (iterate 4 (exact rfl))) | (apply s_not; (iterate 4 (exact rfl))) | (apply s_neq_t; (iterate 5 (exact rfl)); omega) | (apply s_neq_f; (iterate 5 (exact rfl)); omega) | (apply s_gtr_t; (iterate 5 (exact rfl)); omega)
      | (apply s_gtr_f; (iterate 5 (exact rfl)); omega) | (apply s_add64; (iterate 5 (exact rfl)); omega) | (apply s_stradd; (iterate 5 (exact rfl)); omega)
      | (apply s_callS; (iterate 6 (exact rfl)); exact wrong_c hR _; rintro _ _ ⟨rfl, rfl⟩)
      | (apply s_ldF tab_ok; (iterate 5 (exact rfl)); exact hP; exact rfl)
      | (apply s_idxO _ tab_ok; (iterate 7 (exact rfl)); exact hH; exact ⟨by omega, rfl⟩)
      | (apply s_ldA i 0 tab_ok; (iterate 5 (exact rfl)); exact hH; exact hyr; omega; exact rfl)
      | (apply s_callS; (iterate 6 (exact rfl)); exact cf; rintro _ σ ⟨rfl, hR, hO2⟩; replace hO := hO.trans hO2; clear hO2)
      | refine al_nil ?_ | refine q_then_n ?_ | refine q_then_r ?_ | refine aw_seq ?_ | refine aw_reg ?_
      | refine aw_true rfl ?_ | refine aw_false rfl ?_ | refine aw_skip ?_ | refine aw_ret ?_ | refine al_fork ?_ ?_
      | refine al_fork3 ?_ ?_ ?_
      | refine aw_draws (id := 9) (trO [0, 1, 2, 3, 4, 5, 6, 7, 8, 9, 10, 11, 12, 13, 14, 15, 16, 17] .nil) [17] [17] mixed_ok (by kernel_rfl) ?_)
        clear hP hF hH hT
        obtain ⟨_, F, t, vf, vh, vt, e, ht, hF0, hP, hF, hH, hT⟩ := id hR
        unfold refRow at hP
        repeat' (first
      | refine s_op rfl ?_ | (apply s_move; (iterate 4 (exact rfl))) | (apply s_fa_p tab_ok; (iterate 5 (exact rfl))) | (apply s_fa_f tab_ok; (iterate 6 (exact rfl))) | (apply s_ld_p tab_ok; (iterate 7 (exact rfl)))
      | (apply s_ld_f tab_ok; (iterate 6 (exact rfl))) | (apply s_ld_w tab_ok; (iterate 5 (exact rfl)); (first | exact patD_len _ | exact valD_len _)) | (apply s_assign; (iterate 4 (exact rfl))) | (apply s_len tab_ok; (iterate 5 (exact rfl))) | (apply s_lens str_ok; (iterate 4 (exact rfl)))
      | (apply s_idx tab_ok; (iterate 7 (exact rfl)); (first | exact patR_get (by assumption) | exact valR_get (by assumption) | exact row_map (by assumption) | assumption)) | (apply s_nilc; (iterate 5 (exact rfl))) | (apply s_build tabZ_ok; (iterate 5 (exact rfl))) | (apply s_store tab_ok; (iterate 10 (exact rfl))) | (apply s_not_t; (iterate 4 (exact rfl)))
      | (apply s_not_f; (iterate 4 (exact rfl))) | (apply s_not; (iterate 4 (exact rfl))) | (apply s_neq_t; (iterate 5 (exact rfl)); omega) | (apply s_neq_f; (iterate 5 (exact rfl)); omega) | (apply s_gtr_t; (iterate 5 (exact rfl)); omega)
      | (apply s_gtr_f; (iterate 5 (exact rfl)); omega) | (apply s_add64; (iterate 5 (exact rfl)); omega) | (apply s_stradd; (iterate 5 (exact rfl)); omega)
      | (apply s_ldF tab_ok; (iterate 5 (exact rfl)); exact hP; exact rfl)
      | (apply s_idxO _ tab_ok; (iterate 7 (exact rfl)); exact hF; exact ⟨by omega, rfl⟩)
      | (apply s_ldA y.file 1 tab_ok; (iterate 5 (exact rfl)); exact hF; exact hfr1; omega; exact rfl)
      | (apply s_stA y.file 1 tab_ok; (iterate 8 (exact rfl)); exact hF; exact hfr1; omega; omega; exact h5; intro σ hc; replace hF := hc.at'; replace hP := hc.keep (by first | assumption | (apply Ne.symm; assumption) | omega) hP; replace hH := hc.keep (by first | assumption | (apply Ne.symm; assumption) | omega) hH; replace hT := hc.keep (by first | assumption | (apply Ne.symm; assumption) | omega) hT; replace hO := hO.chg hc (has_f q); clear hc)
      | refine al_nil ?_ | refine q_then_n ?_ | refine q_then_r ?_ | refine aw_seq ?_ | refine aw_reg ?_
      | refine aw_true rfl ?_ | refine aw_false rfl ?_ | refine aw_skip ?_ | refine aw_ret ?_ | refine al_fork ?_ ?_
      | refine al_fork3 ?_ ?_ ?_
      | refine aw_draws (id := 9) (trO [0, 1, 2, 3, 4, 5, 6, 7, 8, 9, 10, 11, 12, 13, 14, 15, 16, 17] .nil) [17] [17] mixed_ok (by kernel_rfl) ?_)
        have hR2 : RefAt σ q { W1 with files := W.files.set y.file { f with text := f.text ++ s } } := ⟨⟨pf, ph, pt, fh, ft, hth⟩, F, t, _, vh, vt, e, ht, hF0, by unfold refRow; simp only [List.length_set]; rw [← e0]; exact hP, hF, hH, hT⟩
        repeat' (first
      | refine s_op rfl ?_ | (apply s_move; (iterate 4 (exact rfl))) | (apply s_fa_p tab_ok; (iterate 5 (exact rfl))) | (apply s_fa_f tab_ok; (iterate 6 (exact rfl))) | (apply s_ld_p tab_ok; (iterate 7 (exact rfl)))
      | (apply s_ld_f tab_ok; (iterate 6 (exact rfl))) | (apply s_ld_w tab_ok; (iterate 5 (exact rfl)); (first | exact patD_len _ | exact valD_len _)) | (apply s_assign; (iterate 4 (exact rfl))) | (apply s_len tab_ok; (iterate 5 (exact rfl))) | (apply s_lens str_ok; (iterate 4 (exact rfl)))
      | (apply s_idx tab_ok; (iterate 7 (exact rfl)); (first | exact patR_get (by assumption) | exact valR_get (by assumption) | exact row_map (by assumption) | assumption)) | (apply s_nilc; (iterate 5 (exact rfl))) | (apply s_build tabZ_ok; (iterate 5 (exact rfl))) | (apply s_store tab_ok; (iterate 10 (exact rfl))) | (apply s_not_t; (iterate 4 (exact rfl)))
      | (apply s_not_f; (iterate 4 (exact rfl))) | (apply s_not; (iterate 4 (exact rfl))) | (apply s_neq_t; (iterate 5 (exact rfl)); omega) | (apply s_neq_f; (iterate 5 (exact rfl)); omega) | (apply s_gtr_t; (iterate 5 (exact rfl)); omega)
      | (apply s_gtr_f; (iterate 5 (exact rfl)); omega) | (apply s_add64; (iterate 5 (exact rfl)); omega) | (apply s_stradd; (iterate 5 (exact rfl)); omega)
      | (apply s_callS; (iterate 6 (exact rfl)); exact fin { W1 with files := W.files.set y.file { f with text := f.text ++ s } } _ e2 hR2 hO; rintro _ σ ⟨rfl, hR, hO⟩)
      | refine al_nil ?_ | refine q_then_n ?_ | refine q_then_r ?_ | refine aw_seq ?_ | refine aw_reg ?_
      | refine aw_true rfl ?_ | refine aw_false rfl ?_ | refine aw_skip ?_ | refine aw_ret ?_ | refine al_fork ?_ ?_
      | refine al_fork3 ?_ ?_ ?_
      | refine aw_draws (id := 9) (trO [0, 1, 2, 3, 4, 5, 6, 7, 8, 9, 10, 11, 12, 13, 14, 15, 16, 17] .nil) [17] [17] mixed_ok (by kernel_rfl) ?_)
        exact q_ret rfl ⟨rfl, hR, hO⟩
    · have hfit2 : ¬ (f.text.size + s.size ≤ 4000) := by omega
      rw [decide_eq_false hfit, Bool.and_false] at hd
      rw [hd]
      cases g <;> simp only [Bool.not_true, Bool.not_false] at cf
      all_goals
        repeat' (first
      | refine s_op rfl ?_ | (apply s_move; (iterate 4 (exact rfl))) | (apply s_fa_p tab_ok; (iterate 5 (exact rfl))) | (apply s_fa_f tab_ok; (iterate 6 (exact rfl))) | (apply s_ld_p tab_ok; (iterate 7 (exact rfl)))
      | (apply s_ld_f tab_ok; (iterate 6 (exact rfl))) | (apply s_ld_w tab_ok; (iterate 5 (exact rfl)); (first | exact patD_len _ | exact valD_len _)) | (apply s_assign; (iterate 4 (exact rfl))) | (apply s_len tab_ok; (iterate 5 (exact rfl))) | (apply s_lens str_ok; (iterate 4 (exact rfl)))
      | (apply s_idx tab_ok; (iterate 7 (exact rfl)); (first | exact patR_get (by assumption) | exact valR_get (by assumption) | exact row_map (by assumption) | assumption)) | (apply s_nilc; (iterate 5 (exact rfl))) | (apply s_build tabZ_ok; (iterate 5 (exact rfl))) | (apply s_store tab_ok; (iterate 10 (exact rfl))) | (apply s_not_t; (iterate 4 (exact rfl)))
      | (apply s_not_f; (iterate 4 (exact rfl))) | (apply s_not; (iterate 4 (exact rfl))) | (apply s_neq_t; (iterate 5 (exact rfl)); omega) | (apply s_neq_f; (iterate 5 (exact rfl)); omega) | (apply s_gtr_t; (iterate 5 (exact rfl)); omega)
      | (apply s_gtr_f; (iterate 5 (exact rfl)); omega) | (apply s_add64; (iterate 5 (exact rfl)); omega) | (apply s_stradd; (iterate 5 (exact rfl)); omega)
      | (apply s_callS; (iterate 6 (exact rfl)); exact wrong_c hR _; rintro _ _ ⟨rfl, rfl⟩)
      | (apply s_ldF tab_ok; (iterate 5 (exact rfl)); exact hP; exact rfl)
      | (apply s_idxO _ tab_ok; (iterate 7 (exact rfl)); exact hH; exact ⟨by omega, rfl⟩)
      | (apply s_ldA i 0 tab_ok; (iterate 5 (exact rfl)); exact hH; exact hyr; omega; exact rfl)
      | (apply s_callS; (iterate 6 (exact rfl)); exact cf; rintro _ σ ⟨rfl, hR, hO2⟩; replace hO := hO.trans hO2; clear hO2)
      | refine al_nil ?_ | refine q_then_n ?_ | refine q_then_r ?_ | refine aw_seq ?_ | refine aw_reg ?_
      | refine aw_true rfl ?_ | refine aw_false rfl ?_ | refine aw_skip ?_ | refine aw_ret ?_ | refine al_fork ?_ ?_
      | refine al_fork3 ?_ ?_ ?_
      | refine aw_draws (id := 9) (trO [0, 1, 2, 3, 4, 5, 6, 7, 8, 9, 10, 11, 12, 13, 14, 15, 16, 17] .nil) [17] [17] mixed_ok (by kernel_rfl) ?_)
        clear hP hF hH hT
        obtain ⟨_, F, t, vf, vh, vt, e, ht, hF0, hP, hF, hH, hT⟩ := id hR
        unfold refRow at hP
        repeat' (first
      | refine s_op rfl ?_ | (apply s_move; (iterate 4 (exact rfl))) | (apply s_fa_p tab_ok; (iterate 5 (exact rfl))) | (apply s_fa_f tab_ok; (iterate 6 (exact rfl))) | (apply s_ld_p tab_ok; (iterate 7 (exact rfl)))
      | (apply s_ld_f tab_ok; (iterate 6 (exact rfl))) | (apply s_ld_w tab_ok; (iterate 5 (exact rfl)); (first | exact patD_len _ | exact valD_len _)) | (apply s_assign; (iterate 4 (exact rfl))) | (apply s_len tab_ok; (iterate 5 (exact rfl))) | (apply s_lens str_ok; (iterate 4 (exact rfl)))
      | (apply s_idx tab_ok; (iterate 7 (exact rfl)); (first | exact patR_get (by assumption) | exact valR_get (by assumption) | exact row_map (by assumption) | assumption)) | (apply s_nilc; (iterate 5 (exact rfl))) | (apply s_build tabZ_ok; (iterate 5 (exact rfl))) | (apply s_store tab_ok; (iterate 10 (exact rfl))) | (apply s_not_t; (iterate 4 (exact rfl)))
      | (apply s_not_f; (iterate 4 (exact rfl))) | (apply s_not; (iterate 4 (exact rfl))) | (apply s_neq_t; (iterate 5 (exact rfl)); omega) | (apply s_neq_f; (iterate 5 (exact rfl)); omega) | (apply s_gtr_t; (iterate 5 (exact rfl)); omega)
      | (apply s_gtr_f; (iterate 5 (exact rfl)); omega) | (apply s_add64; (iterate 5 (exact rfl)); omega) | (apply s_stradd; (iterate 5 (exact rfl)); omega)
      | (apply s_ldF tab_ok; (iterate 5 (exact rfl)); exact hP; exact rfl)
      | (apply s_idxO _ tab_ok; (iterate 7 (exact rfl)); exact hF; exact ⟨by omega, rfl⟩)
      | (apply s_ldA y.file 1 tab_ok; (iterate 5 (exact rfl)); exact hF; exact hfr1; omega; exact rfl)
      | (apply s_callS; (iterate 6 (exact rfl)); exact fin W1 _ e2 hR hO; rintro _ σ ⟨rfl, hR, hO⟩)
      | refine al_nil ?_ | refine q_then_n ?_ | refine q_then_r ?_ | refine aw_seq ?_ | refine aw_reg ?_
      | refine aw_true rfl ?_ | refine aw_false rfl ?_ | refine aw_skip ?_ | refine aw_ret ?_ | refine al_fork ?_ ?_
      | refine al_fork3 ?_ ?_ ?_
      | refine aw_draws (id := 9) (trO [0, 1, 2, 3, 4, 5, 6, 7, 8, 9, 10, 11, 12, 13, 14, 15, 16, 17] .nil) [17] [17] mixed_ok (by kernel_rfl) ?_)
        exact q_ret rfl ⟨rfl, hR, hO⟩
  · have hd : W.write x s = ((false, W.wrong x), W) := by unfold AW.write; rw [if_pos hw]
    rw [hd]
    repeat' (first
      | refine s_op rfl ?_ | (apply s_move; (iterate 4 (exact rfl))) | (apply s_fa_p tab_ok; (iterate 5 (exact rfl))) | (apply s_fa_f tab_ok; (iterate 6 (exact rfl))) | (apply s_ld_p tab_ok; (iterate 7 (exact rfl)))
      | (apply s_ld_f tab_ok; (iterate 6 (exact rfl))) | (apply s_ld_w tab_ok; (iterate 5 (exact rfl)); (first | exact patD_len _ | exact valD_len _)) | (apply s_assign; (iterate 4 (exact rfl))) | (apply s_len tab_ok; (iterate 5 (exact rfl))) | (apply s_lens str_ok; (iterate 4 (exact rfl)))
      | (apply s_idx tab_ok; (iterate 7 (exact rfl)); (first | exact patR_get (by assumption) | exact valR_get (by assumption) | exact row_map (by assumption) | assumption)) | (apply s_nilc; (iterate 5 (exact rfl))) | (apply s_build tabZ_ok; (iterate 5 (exact rfl))) | (apply s_store tab_ok; (iterate 10 (exact rfl))) | (apply s_not_t; (iterate 4 (exact rfl)))
      | (apply s_not_f; (iterate 4 (exact rfl))) | (apply s_not; (iterate 4 (exact rfl))) | (apply s_neq_t; (iterate 5 (exact rfl)); omega) | (apply s_neq_f; (iterate 5 (exact rfl)); omega) | (apply s_gtr_t; (iterate 5 (exact rfl)); omega)
      | (apply s_gtr_f; (iterate 5 (exact rfl)); omega) | (apply s_add64; (iterate 5 (exact rfl)); omega) | (apply s_stradd; (iterate 5 (exact rfl)); omega)
      | (apply s_callS; (iterate 6 (exact rfl)); exact wrong_c hR _; rintro _ _ ⟨rfl, rfl⟩)
      | refine al_nil ?_ | refine q_then_n ?_ | refine q_then_r ?_ | refine aw_seq ?_ | refine aw_reg ?_
      | refine aw_true rfl ?_ | refine aw_false rfl ?_ | refine aw_skip ?_ | refine aw_ret ?_ | refine al_fork ?_ ?_
      | refine al_fork3 ?_ ?_ ?_
      | refine aw_draws (id := 9) (trO [0, 1, 2, 3, 4, 5, 6, 7, 8, 9, 10, 11, 12, 13, 14, 15, 16, 17] .nil) [17] [17] mixed_ok (by kernel_rfl) ?_)
    exact q_ret rfl ⟨rfl, hR, hO⟩
end
end Go.Proofs.Ytlpgekodoiioaaa
