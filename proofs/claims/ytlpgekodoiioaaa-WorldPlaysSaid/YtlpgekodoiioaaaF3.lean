/- The document's world: Open, Read. -/
import Derived.Test.YtlpgekodoiioaaaF2
import Derived.Test.YtlpgekodoiioaaaP7
set_option linter.unusedSimpArgs false
set_option linter.unusedVariables false
namespace Go.Proofs.Ytlpgekodoiioaaa
open Go.RowKit
-- DEF LDP: (apply s_ldF tab_ok; (iterate 5 (exact rfl)); exact hP; exact rfl)
-- DEF LDX: (apply s_ldF tab_ok; (iterate 5 (exact rfl)); exact hX; exact rfl)
-- DEF FAIL: (apply s_callS; (iterate 6 (exact rfl)); exact cf; rintro _ σ ⟨rfl, hR, hO2⟩; replace hO := hO.trans hO2; clear hO2)
-- DEF WRONG: (apply s_callS; (iterate 6 (exact rfl)); exact wrong_c hR _; rintro _ _ ⟨rfl, rfl⟩)
-- DEF IDXH: (apply s_idxO _ tab_ok; (iterate 7 (exact rfl)); exact hH; exact ⟨by omega, rfl⟩)
-- DEF IDXF: (apply s_idxO _ tab_ok; (iterate 7 (exact rfl)); exact hF; exact ⟨by omega, rfl⟩)

theorem nameIdx_first {name : ByteArray} : ∀ {l : List AFile} {k : Nat} {f : AFile}, (∀ g ∈ l.take k, g.name ≠ name) → l[k]? = some f → f.name = name → nameIdx name l = some k
  | [], k, f, _, h, _ => by simp at h
  | a :: l, 0, f, _, h, e => by simp at h; subst h; unfold nameIdx; rw [if_pos e]
  | a :: l, k + 1, f, h0, h, e => by
    unfold nameIdx
    rw [if_neg (h0 a (by simp)), nameIdx_first (k := k) (fun g hg => h0 g (by simp [hg])) (by simpa using h) e]
    rfl

section
variable {σ : List AObj} {q : RL} {W : AW} {n : Nat}

set_option maxRecDepth 100000 in
set_option maxHeartbeats 2000000 in
theorem ropen_c (hR : RefAt σ q W) (name : ByteArray) (ok : W.Ok n) (hn : n ≤ 100000) : Runs Try.prog 43 [.ptr q.p 0 0, .d (.v (.string name))] σ (RefP q (W.open_ name).2 (.tup [.d (.v (.int .i64 (W.open_ name).1.1)), .d (.v (.bool (W.open_ name).1.2))]) σ) := by
  have hO := Out.refl q σ
  refine enter 60 Try.func43 rfl (by kernel_rfl) rfl rfl rfl ?_
  have e0 := goes_files W
  have e1 := goes_handles W
  have e2 := goes_trace W
  have cf := fail_c hR
  have hno : (W.goes.1 = false ∨ nameIdx name W.files = none) → W.open_ name = ((0, false), W.goes.2.note ⟨1, -1, name, emptyB, false⟩) := fun h => by
    unfold AW.open_
    rcases h with h | h <;> rw [h]
    cases W.goes.1 <;> rfl
  have hyes : ∀ k, W.goes.1 = true → nameIdx name W.files = some k → W.open_ name = (((W.handles.length : Int), true), ({ W.goes.2 with handles := W.handles ++ [⟨k, 0, false⟩] } : AW).note ⟨1, W.handles.length, name, emptyB, true⟩) := fun k h1 h2 => by
    unfold AW.open_
    rw [h1, h2]
  obtain ⟨g, hg⟩ : ∃ g, W.goes.1 = g := ⟨_, rfl⟩
  obtain ⟨W1, hW1⟩ : ∃ W1, W.goes.2 = W1 := ⟨_, rfl⟩
  rw [hg, hW1] at cf
  rw [hg, hW1] at hno
  rw [hg, hW1] at hyes
  rw [hW1] at e0 e1 e2
  have hfn := ok.few
  have hhn := ok.handles
  have fin : ∀ (V : AW) (o : AOp) {σ0 σ1 : List AObj}, V.trace = W.trace → RefAt σ1 q V → Out q σ0 σ1 → Runs Try.prog 52 [.ptr q.p 0 0, .d (.agg (opD o))] σ1 (fun v σ' => v = .tup [] ∧ RefAt σ' q (V.note o) ∧ Out q σ0 σ') := fun V o σ0 σ1 h0 h1 h2 =>
    (did_c h1 o (by rw [h0]; exact Nat.le_trans ok.trace hn)).mono fun v σ' ⟨a, b, c⟩ => ⟨a, b, h2.trans c⟩
  have l0 : W1.files.length = W.files.length := by rw [e0]
  have l1 : W1.handles.length = W.handles.length := by rw [e1]
  have lf : (W1.files.map fileD).length = W1.files.length := by simp
  have lh : (W1.handles.map hD).length = W1.handles.length := by simp
  cases g <;> simp only [Bool.not_true, Bool.not_false] at cf
  · rw [hno (.inl rfl)]
    repeat' (first
      | refine s_op rfl ?_ | (apply s_skip; exact rfl) | (apply s_move; (iterate 4 (exact rfl))) | (apply s_fa_p tab_ok; (iterate 5 (exact rfl))) | (apply s_fa_f tab_ok; (iterate 6 (exact rfl)))
      | (apply s_ld_p tab_ok; (iterate 7 (exact rfl))) | (apply s_ld_f tab_ok; (iterate 6 (exact rfl))) | (apply s_ld_w tab_ok; (iterate 5 (exact rfl)); (first | exact patD_len _ | exact valD_len _)) | (apply s_assign; (iterate 4 (exact rfl))) | (apply s_pick_t; (iterate 5 (exact rfl)))
      | (apply s_pick_f; (iterate 5 (exact rfl))) | (apply s_len tab_ok; (iterate 5 (exact rfl))) | (apply s_lens str_ok; (iterate 4 (exact rfl))) | (apply s_idx tab_ok; (iterate 7 (exact rfl)); (first | exact patR_get (by assumption) | exact valR_get (by assumption) | exact row_map (by assumption) | assumption)) | (apply s_nilc; (iterate 5 (exact rfl)))
      | (apply s_build tabZ_ok; (iterate 5 (exact rfl))) | (apply s_store tab_ok; (iterate 10 (exact rfl))) | (apply s_lit tab_ok tabZ_ok; (iterate 10 (exact rfl))) | (apply s_lit1 tab_ok tabZ_ok; (iterate 9 (exact rfl)); (first | exact patD_len _ | exact valD_len _)) | (apply s_app tab_ok tabZ_ok; (iterate 13 (exact rfl)); (first | (simp; done) | (simp; omega)))
      | (apply s_not_t; (iterate 4 (exact rfl))) | (apply s_not_f; (iterate 4 (exact rfl))) | (apply s_not; (iterate 4 (exact rfl))) | (apply s_eql_t; (iterate 5 (exact rfl)); omega) | (apply s_eql_f; (iterate 5 (exact rfl)); omega)
      | (apply s_lss_t; (iterate 5 (exact rfl)); omega) | (apply s_lss_f; (iterate 5 (exact rfl)); omega) | (apply s_add64; (iterate 5 (exact rfl)); omega) | (apply s_streq_t; (iterate 5 (exact rfl)); assumption) | (apply s_streq_f; (iterate 5 (exact rfl)); assumption)
      | (apply s_callS; (iterate 6 (exact rfl)); exact cf; rintro _ σ ⟨rfl, hR, hO2⟩; replace hO := hO.trans hO2; clear hO2)
      | refine al_nil ?_ | refine q_then_n ?_ | refine q_blk_n ?_ | refine q_blk_r ?_ | refine q_blk_e ?_
      | refine q_blk_o rfl ?_ | refine q_then_e ?_ | refine aw_block ?_ | refine aw_exit ?_ | refine q_then_r ?_
      | refine aw_seq ?_ | refine aw_reg ?_ | refine aw_true rfl ?_ | refine aw_false rfl ?_ | refine aw_skip ?_
      | refine aw_ret ?_)
    obtain ⟨_, F, t, vf, vh, vt, e, ht, hF0, hP, hF, hH, hT⟩ := id hR
    unfold refRow at hP
    have fin := fin W1 ⟨1, -1, name, emptyB, false⟩ e2 hR hO
    refine w_loop [0, 1, 4, 5, 6, 7] (fun n vs σ2 => vs = [.ptr q.p 0 0, .d (.v (.string name)), .d (.v (.int .i64 0)), .d (.v (.bool false)), .d (.v (.bool true)), .d (.v (.int .i64 0))] ∧ σ2 = σ) (n := 0) rfl ⟨rfl, rfl⟩ ?_
    rintro n vs σ2 ⟨rfl, rfl⟩ fr hfr
    cases hfr
    by_cases h0 : 0 < W1.files.length
    · repeat' (first
      | refine s_op rfl ?_ | (apply s_skip; exact rfl) | (apply s_move; (iterate 4 (exact rfl))) | (apply s_fa_p tab_ok; (iterate 5 (exact rfl))) | (apply s_fa_f tab_ok; (iterate 6 (exact rfl)))
      | (apply s_ld_p tab_ok; (iterate 7 (exact rfl))) | (apply s_ld_f tab_ok; (iterate 6 (exact rfl))) | (apply s_ld_w tab_ok; (iterate 5 (exact rfl)); (first | exact patD_len _ | exact valD_len _)) | (apply s_assign; (iterate 4 (exact rfl))) | (apply s_pick_t; (iterate 5 (exact rfl)))
      | (apply s_pick_f; (iterate 5 (exact rfl))) | (apply s_len tab_ok; (iterate 5 (exact rfl))) | (apply s_lens str_ok; (iterate 4 (exact rfl))) | (apply s_idx tab_ok; (iterate 7 (exact rfl)); (first | exact patR_get (by assumption) | exact valR_get (by assumption) | exact row_map (by assumption) | assumption)) | (apply s_nilc; (iterate 5 (exact rfl)))
      | (apply s_build tabZ_ok; (iterate 5 (exact rfl))) | (apply s_store tab_ok; (iterate 10 (exact rfl))) | (apply s_lit tab_ok tabZ_ok; (iterate 10 (exact rfl))) | (apply s_lit1 tab_ok tabZ_ok; (iterate 9 (exact rfl)); (first | exact patD_len _ | exact valD_len _)) | (apply s_app tab_ok tabZ_ok; (iterate 13 (exact rfl)); (first | (simp; done) | (simp; omega)))
      | (apply s_not_t; (iterate 4 (exact rfl))) | (apply s_not_f; (iterate 4 (exact rfl))) | (apply s_not; (iterate 4 (exact rfl))) | (apply s_eql_t; (iterate 5 (exact rfl)); omega) | (apply s_eql_f; (iterate 5 (exact rfl)); omega)
      | (apply s_lss_t; (iterate 5 (exact rfl)); omega) | (apply s_lss_f; (iterate 5 (exact rfl)); omega) | (apply s_add64; (iterate 5 (exact rfl)); omega) | (apply s_streq_t; (iterate 5 (exact rfl)); assumption) | (apply s_streq_f; (iterate 5 (exact rfl)); assumption)
      | (apply s_ldF tab_ok; (iterate 5 (exact rfl)); exact hP; exact rfl)
      | (apply s_callS; (iterate 6 (exact rfl)); exact fin; rintro _ σ ⟨rfl, hR, hO⟩)
      | refine al_nil ?_ | refine q_then_n ?_ | refine q_blk_n ?_ | refine q_blk_r ?_ | refine q_blk_e ?_
      | refine q_blk_o rfl ?_ | refine q_then_e ?_ | refine aw_block ?_ | refine aw_exit ?_ | refine q_then_r ?_
      | refine aw_seq ?_ | refine aw_reg ?_ | refine aw_true rfl ?_ | refine aw_false rfl ?_ | refine aw_skip ?_
      | refine aw_ret ?_)
      exact q_ret rfl ⟨rfl, hR, hO⟩
    · repeat' (first
      | refine s_op rfl ?_ | (apply s_skip; exact rfl) | (apply s_move; (iterate 4 (exact rfl))) | (apply s_fa_p tab_ok; (iterate 5 (exact rfl))) | (apply s_fa_f tab_ok; (iterate 6 (exact rfl)))
      | (apply s_ld_p tab_ok; (iterate 7 (exact rfl))) | (apply s_ld_f tab_ok; (iterate 6 (exact rfl))) | (apply s_ld_w tab_ok; (iterate 5 (exact rfl)); (first | exact patD_len _ | exact valD_len _)) | (apply s_assign; (iterate 4 (exact rfl))) | (apply s_pick_t; (iterate 5 (exact rfl)))
      | (apply s_pick_f; (iterate 5 (exact rfl))) | (apply s_len tab_ok; (iterate 5 (exact rfl))) | (apply s_lens str_ok; (iterate 4 (exact rfl))) | (apply s_idx tab_ok; (iterate 7 (exact rfl)); (first | exact patR_get (by assumption) | exact valR_get (by assumption) | exact row_map (by assumption) | assumption)) | (apply s_nilc; (iterate 5 (exact rfl)))
      | (apply s_build tabZ_ok; (iterate 5 (exact rfl))) | (apply s_store tab_ok; (iterate 10 (exact rfl))) | (apply s_lit tab_ok tabZ_ok; (iterate 10 (exact rfl))) | (apply s_lit1 tab_ok tabZ_ok; (iterate 9 (exact rfl)); (first | exact patD_len _ | exact valD_len _)) | (apply s_app tab_ok tabZ_ok; (iterate 13 (exact rfl)); (first | (simp; done) | (simp; omega)))
      | (apply s_not_t; (iterate 4 (exact rfl))) | (apply s_not_f; (iterate 4 (exact rfl))) | (apply s_not; (iterate 4 (exact rfl))) | (apply s_eql_t; (iterate 5 (exact rfl)); omega) | (apply s_eql_f; (iterate 5 (exact rfl)); omega)
      | (apply s_lss_t; (iterate 5 (exact rfl)); omega) | (apply s_lss_f; (iterate 5 (exact rfl)); omega) | (apply s_add64; (iterate 5 (exact rfl)); omega) | (apply s_streq_t; (iterate 5 (exact rfl)); assumption) | (apply s_streq_f; (iterate 5 (exact rfl)); assumption)
      | (apply s_ldF tab_ok; (iterate 5 (exact rfl)); exact hP; exact rfl)
      | (apply s_callS; (iterate 6 (exact rfl)); exact fin; rintro _ σ ⟨rfl, hR, hO⟩)
      | refine al_nil ?_ | refine q_then_n ?_ | refine q_blk_n ?_ | refine q_blk_r ?_ | refine q_blk_e ?_
      | refine q_blk_o rfl ?_ | refine q_then_e ?_ | refine aw_block ?_ | refine aw_exit ?_ | refine q_then_r ?_
      | refine aw_seq ?_ | refine aw_reg ?_ | refine aw_true rfl ?_ | refine aw_false rfl ?_ | refine aw_skip ?_
      | refine aw_ret ?_)
      exact q_ret rfl ⟨rfl, hR, hO⟩
  · repeat' (first
      | refine s_op rfl ?_ | (apply s_skip; exact rfl) | (apply s_move; (iterate 4 (exact rfl))) | (apply s_fa_p tab_ok; (iterate 5 (exact rfl))) | (apply s_fa_f tab_ok; (iterate 6 (exact rfl)))
      | (apply s_ld_p tab_ok; (iterate 7 (exact rfl))) | (apply s_ld_f tab_ok; (iterate 6 (exact rfl))) | (apply s_ld_w tab_ok; (iterate 5 (exact rfl)); (first | exact patD_len _ | exact valD_len _)) | (apply s_assign; (iterate 4 (exact rfl))) | (apply s_pick_t; (iterate 5 (exact rfl)))
      | (apply s_pick_f; (iterate 5 (exact rfl))) | (apply s_len tab_ok; (iterate 5 (exact rfl))) | (apply s_lens str_ok; (iterate 4 (exact rfl))) | (apply s_idx tab_ok; (iterate 7 (exact rfl)); (first | exact patR_get (by assumption) | exact valR_get (by assumption) | exact row_map (by assumption) | assumption)) | (apply s_nilc; (iterate 5 (exact rfl)))
      | (apply s_build tabZ_ok; (iterate 5 (exact rfl))) | (apply s_store tab_ok; (iterate 10 (exact rfl))) | (apply s_lit tab_ok tabZ_ok; (iterate 10 (exact rfl))) | (apply s_lit1 tab_ok tabZ_ok; (iterate 9 (exact rfl)); (first | exact patD_len _ | exact valD_len _)) | (apply s_app tab_ok tabZ_ok; (iterate 13 (exact rfl)); (first | (simp; done) | (simp; omega)))
      | (apply s_not_t; (iterate 4 (exact rfl))) | (apply s_not_f; (iterate 4 (exact rfl))) | (apply s_not; (iterate 4 (exact rfl))) | (apply s_eql_t; (iterate 5 (exact rfl)); omega) | (apply s_eql_f; (iterate 5 (exact rfl)); omega)
      | (apply s_lss_t; (iterate 5 (exact rfl)); omega) | (apply s_lss_f; (iterate 5 (exact rfl)); omega) | (apply s_add64; (iterate 5 (exact rfl)); omega) | (apply s_streq_t; (iterate 5 (exact rfl)); assumption) | (apply s_streq_f; (iterate 5 (exact rfl)); assumption)
      | (apply s_callS; (iterate 6 (exact rfl)); exact cf; rintro _ σ ⟨rfl, hR, hO2⟩; replace hO := hO.trans hO2; clear hO2)
      | refine al_nil ?_ | refine q_then_n ?_ | refine q_blk_n ?_ | refine q_blk_r ?_ | refine q_blk_e ?_
      | refine q_blk_o rfl ?_ | refine q_then_e ?_ | refine aw_block ?_ | refine aw_exit ?_ | refine q_then_r ?_
      | refine aw_seq ?_ | refine aw_reg ?_ | refine aw_true rfl ?_ | refine aw_false rfl ?_ | refine aw_skip ?_
      | refine aw_ret ?_)
    obtain ⟨⟨pf, ph, pt, fh, ft, hth⟩, F, t, vf, vh, vt, e, ht, hF0, hP, hF, hH, hT⟩ := id hR
    unfold refRow at hP
    refine w_loop [0, 1, 4, 5, 6, 7] (fun n vs σ2 => ∃ k : Nat, vs = [.ptr q.p 0 0, .d (.v (.string name)), .d (.v (.int .i64 0)), .d (.v (.bool false)), .d (.v (.bool false)), .d (.v (.int .i64 (k : Int)))] ∧ σ2 = σ ∧ k ≤ W1.files.length ∧ (∀ g ∈ W1.files.take k, g.name ≠ name) ∧ n = W1.files.length - k) rfl ⟨0, rfl, rfl, by omega, by simp, rfl⟩ ?_
    rintro n vs σ2 ⟨k, rfl, rfl, hk, hnm, rfl⟩ fr hfr
    cases hfr
    by_cases hlt : k < W1.files.length
    · obtain ⟨f, hf⟩ : ∃ f, W1.files[k]? = some f := ⟨_, List.getElem?_eq_getElem hlt⟩
      have hfr := map_get (f := fileD) hf
      by_cases he : f.name = name
      · rw [hyes k rfl (by rw [← e0]; exact nameIdx_first hnm hf he)]
        repeat' (first
      | refine s_op rfl ?_ | (apply s_skip; exact rfl) | (apply s_move; (iterate 4 (exact rfl))) | (apply s_fa_p tab_ok; (iterate 5 (exact rfl))) | (apply s_fa_f tab_ok; (iterate 6 (exact rfl)))
      | (apply s_ld_p tab_ok; (iterate 7 (exact rfl))) | (apply s_ld_f tab_ok; (iterate 6 (exact rfl))) | (apply s_ld_w tab_ok; (iterate 5 (exact rfl)); (first | exact patD_len _ | exact valD_len _)) | (apply s_assign; (iterate 4 (exact rfl))) | (apply s_pick_t; (iterate 5 (exact rfl)))
      | (apply s_pick_f; (iterate 5 (exact rfl))) | (apply s_len tab_ok; (iterate 5 (exact rfl))) | (apply s_lens str_ok; (iterate 4 (exact rfl))) | (apply s_idx tab_ok; (iterate 7 (exact rfl)); (first | exact patR_get (by assumption) | exact valR_get (by assumption) | exact row_map (by assumption) | assumption)) | (apply s_nilc; (iterate 5 (exact rfl)))
      | (apply s_build tabZ_ok; (iterate 5 (exact rfl))) | (apply s_store tab_ok; (iterate 10 (exact rfl))) | (apply s_lit tab_ok tabZ_ok; (iterate 10 (exact rfl))) | (apply s_lit1 tab_ok tabZ_ok; (iterate 9 (exact rfl)); (first | exact patD_len _ | exact valD_len _)) | (apply s_app tab_ok tabZ_ok; (iterate 13 (exact rfl)); (first | (simp; done) | (simp; omega)))
      | (apply s_not_t; (iterate 4 (exact rfl))) | (apply s_not_f; (iterate 4 (exact rfl))) | (apply s_not; (iterate 4 (exact rfl))) | (apply s_eql_t; (iterate 5 (exact rfl)); omega) | (apply s_eql_f; (iterate 5 (exact rfl)); omega)
      | (apply s_lss_t; (iterate 5 (exact rfl)); omega) | (apply s_lss_f; (iterate 5 (exact rfl)); omega) | (apply s_add64; (iterate 5 (exact rfl)); omega) | (apply s_streq_t; (iterate 5 (exact rfl)); assumption) | (apply s_streq_f; (iterate 5 (exact rfl)); assumption)
      | (apply s_ldF tab_ok; (iterate 5 (exact rfl)); exact hP; exact rfl)
      | (apply s_idxO _ tab_ok; (iterate 7 (exact rfl)); exact hF; exact ⟨by omega, rfl⟩)
      | (apply s_ldA k 0 tab_ok; (iterate 5 (exact rfl)); exact hF; exact hfr; omega; exact rfl)
      | (apply s_appF tab_ok tabZ_ok (rows2 := [[.v (.int .i64 (k : Int)), .v (.int .i64 0)]]) (rows3 := (W1.handles ++ [(⟨k, 0, false⟩ : AHandle)]).map hD) (m := W1.handles.length + 1); (iterate 10 (exact rfl)); exact hH; exact src_of (Tab.slIs tab_ok (t := 79) rfl) (rows_d rfl); (simp [hD]); (rw [lh]; simp; omega); intro σ hc; replace hH := hc.at'; replace hP := hc.keep (by first | assumption | (apply Ne.symm; assumption) | omega) hP; replace hF := hc.keep (by first | assumption | (apply Ne.symm; assumption) | omega) hF; replace hT := hc.keep (by first | assumption | (apply Ne.symm; assumption) | omega) hT; replace hO := hO.chg hc (has_h q); clear hc)
      | (apply s_storeF tab_ok; (iterate 7 (exact rfl)); exact hP; (iterate 2 (exact rfl)); intro σ hc; replace hP := hc.at'; replace hF := hc.keep (by first | assumption | (apply Ne.symm; assumption) | omega) hF; replace hH := hc.keep (by first | assumption | (apply Ne.symm; assumption) | omega) hH; replace hT := hc.keep (by first | assumption | (apply Ne.symm; assumption) | omega) hT; replace hO := hO.chg hc (has_p q); clear hc)
      | refine al_nil ?_ | refine q_then_n ?_ | refine q_blk_n ?_ | refine q_blk_r ?_ | refine q_blk_e ?_
      | refine q_blk_o rfl ?_ | refine q_then_e ?_ | refine aw_block ?_ | refine aw_exit ?_ | refine q_then_r ?_
      | refine aw_seq ?_ | refine aw_reg ?_ | refine aw_true rfl ?_ | refine aw_false rfl ?_ | refine aw_skip ?_
      | refine aw_ret ?_)
        have hR2 : RefAt σ q { W1 with handles := W1.handles ++ [⟨k, 0, false⟩] } := ⟨⟨pf, ph, pt, fh, ft, hth⟩, F, t, vf, _, vt, e, ht, hF0, by unfold refRow; simp only [List.length_append, List.length_singleton]; exact hP, hF, hH, hT⟩
        have fin := fin { W1 with handles := W1.handles ++ [⟨k, 0, false⟩] } ⟨1, W1.handles.length, name, emptyB, true⟩ e2 hR2 hO
        repeat' (first
      | refine s_op rfl ?_ | (apply s_skip; exact rfl) | (apply s_move; (iterate 4 (exact rfl))) | (apply s_fa_p tab_ok; (iterate 5 (exact rfl))) | (apply s_fa_f tab_ok; (iterate 6 (exact rfl)))
      | (apply s_ld_p tab_ok; (iterate 7 (exact rfl))) | (apply s_ld_f tab_ok; (iterate 6 (exact rfl))) | (apply s_ld_w tab_ok; (iterate 5 (exact rfl)); (first | exact patD_len _ | exact valD_len _)) | (apply s_assign; (iterate 4 (exact rfl))) | (apply s_pick_t; (iterate 5 (exact rfl)))
      | (apply s_pick_f; (iterate 5 (exact rfl))) | (apply s_len tab_ok; (iterate 5 (exact rfl))) | (apply s_lens str_ok; (iterate 4 (exact rfl))) | (apply s_idx tab_ok; (iterate 7 (exact rfl)); (first | exact patR_get (by assumption) | exact valR_get (by assumption) | exact row_map (by assumption) | assumption)) | (apply s_nilc; (iterate 5 (exact rfl)))
      | (apply s_build tabZ_ok; (iterate 5 (exact rfl))) | (apply s_store tab_ok; (iterate 10 (exact rfl))) | (apply s_lit tab_ok tabZ_ok; (iterate 10 (exact rfl))) | (apply s_lit1 tab_ok tabZ_ok; (iterate 9 (exact rfl)); (first | exact patD_len _ | exact valD_len _)) | (apply s_app tab_ok tabZ_ok; (iterate 13 (exact rfl)); (first | (simp; done) | (simp; omega)))
      | (apply s_not_t; (iterate 4 (exact rfl))) | (apply s_not_f; (iterate 4 (exact rfl))) | (apply s_not; (iterate 4 (exact rfl))) | (apply s_eql_t; (iterate 5 (exact rfl)); omega) | (apply s_eql_f; (iterate 5 (exact rfl)); omega)
      | (apply s_lss_t; (iterate 5 (exact rfl)); omega) | (apply s_lss_f; (iterate 5 (exact rfl)); omega) | (apply s_add64; (iterate 5 (exact rfl)); omega) | (apply s_streq_t; (iterate 5 (exact rfl)); assumption) | (apply s_streq_f; (iterate 5 (exact rfl)); assumption)
      | (apply s_callS; (iterate 6 (exact rfl)); exact fin; rintro _ σ ⟨rfl, hR, hO⟩)
      | refine al_nil ?_ | refine q_then_n ?_ | refine q_blk_n ?_ | refine q_blk_r ?_ | refine q_blk_e ?_
      | refine q_blk_o rfl ?_ | refine q_then_e ?_ | refine aw_block ?_ | refine aw_exit ?_ | refine q_then_r ?_
      | refine aw_seq ?_ | refine aw_reg ?_ | refine aw_true rfl ?_ | refine aw_false rfl ?_ | refine aw_skip ?_
      | refine aw_ret ?_)
        refine q_ret rfl ⟨?_, ?_, hO⟩
        · rw [← e1]; rfl
        · rw [← e1]; exact hR
      · repeat' (first
      | refine s_op rfl ?_ | (apply s_skip; exact rfl) | (apply s_move; (iterate 4 (exact rfl))) | (apply s_fa_p tab_ok; (iterate 5 (exact rfl))) | (apply s_fa_f tab_ok; (iterate 6 (exact rfl)))
      | (apply s_ld_p tab_ok; (iterate 7 (exact rfl))) | (apply s_ld_f tab_ok; (iterate 6 (exact rfl))) | (apply s_ld_w tab_ok; (iterate 5 (exact rfl)); (first | exact patD_len _ | exact valD_len _)) | (apply s_assign; (iterate 4 (exact rfl))) | (apply s_pick_t; (iterate 5 (exact rfl)))
      | (apply s_pick_f; (iterate 5 (exact rfl))) | (apply s_len tab_ok; (iterate 5 (exact rfl))) | (apply s_lens str_ok; (iterate 4 (exact rfl))) | (apply s_idx tab_ok; (iterate 7 (exact rfl)); (first | exact patR_get (by assumption) | exact valR_get (by assumption) | exact row_map (by assumption) | assumption)) | (apply s_nilc; (iterate 5 (exact rfl)))
      | (apply s_build tabZ_ok; (iterate 5 (exact rfl))) | (apply s_store tab_ok; (iterate 10 (exact rfl))) | (apply s_lit tab_ok tabZ_ok; (iterate 10 (exact rfl))) | (apply s_lit1 tab_ok tabZ_ok; (iterate 9 (exact rfl)); (first | exact patD_len _ | exact valD_len _)) | (apply s_app tab_ok tabZ_ok; (iterate 13 (exact rfl)); (first | (simp; done) | (simp; omega)))
      | (apply s_not_t; (iterate 4 (exact rfl))) | (apply s_not_f; (iterate 4 (exact rfl))) | (apply s_not; (iterate 4 (exact rfl))) | (apply s_eql_t; (iterate 5 (exact rfl)); omega) | (apply s_eql_f; (iterate 5 (exact rfl)); omega)
      | (apply s_lss_t; (iterate 5 (exact rfl)); omega) | (apply s_lss_f; (iterate 5 (exact rfl)); omega) | (apply s_add64; (iterate 5 (exact rfl)); omega) | (apply s_streq_t; (iterate 5 (exact rfl)); assumption) | (apply s_streq_f; (iterate 5 (exact rfl)); assumption)
      | (apply s_ldF tab_ok; (iterate 5 (exact rfl)); exact hP; exact rfl)
      | (apply s_idxO _ tab_ok; (iterate 7 (exact rfl)); exact hF; exact ⟨by omega, rfl⟩)
      | (apply s_ldA k 0 tab_ok; (iterate 5 (exact rfl)); exact hF; exact hfr; omega; exact rfl)
      | refine al_nil ?_ | refine q_then_n ?_ | refine q_blk_n ?_ | refine q_blk_r ?_ | refine q_blk_e ?_
      | refine q_blk_o rfl ?_ | refine q_then_e ?_ | refine aw_block ?_ | refine aw_exit ?_ | refine q_then_r ?_
      | refine aw_seq ?_ | refine aw_reg ?_ | refine aw_true rfl ?_ | refine aw_false rfl ?_ | refine aw_skip ?_
      | refine aw_ret ?_)
        refine ⟨_, _, rfl, by omega, k + 1, rfl, rfl, by omega, ?_, rfl⟩
        intro g hg
        rw [List.take_add_one, hf] at hg
        rcases List.mem_append.1 hg with hg | hg
        · exact hnm g hg
        · simp at hg; subst hg; exact he
    · rw [List.take_of_length_le (by omega)] at hnm
      rw [hno (.inr (by rw [← e0]; exact nameIdx_none name _ hnm))]
      have fin := fin W1 ⟨1, -1, name, emptyB, false⟩ e2 hR hO
      repeat' (first
      | refine s_op rfl ?_ | (apply s_skip; exact rfl) | (apply s_move; (iterate 4 (exact rfl))) | (apply s_fa_p tab_ok; (iterate 5 (exact rfl))) | (apply s_fa_f tab_ok; (iterate 6 (exact rfl)))
      | (apply s_ld_p tab_ok; (iterate 7 (exact rfl))) | (apply s_ld_f tab_ok; (iterate 6 (exact rfl))) | (apply s_ld_w tab_ok; (iterate 5 (exact rfl)); (first | exact patD_len _ | exact valD_len _)) | (apply s_assign; (iterate 4 (exact rfl))) | (apply s_pick_t; (iterate 5 (exact rfl)))
      | (apply s_pick_f; (iterate 5 (exact rfl))) | (apply s_len tab_ok; (iterate 5 (exact rfl))) | (apply s_lens str_ok; (iterate 4 (exact rfl))) | (apply s_idx tab_ok; (iterate 7 (exact rfl)); (first | exact patR_get (by assumption) | exact valR_get (by assumption) | exact row_map (by assumption) | assumption)) | (apply s_nilc; (iterate 5 (exact rfl)))
      | (apply s_build tabZ_ok; (iterate 5 (exact rfl))) | (apply s_store tab_ok; (iterate 10 (exact rfl))) | (apply s_lit tab_ok tabZ_ok; (iterate 10 (exact rfl))) | (apply s_lit1 tab_ok tabZ_ok; (iterate 9 (exact rfl)); (first | exact patD_len _ | exact valD_len _)) | (apply s_app tab_ok tabZ_ok; (iterate 13 (exact rfl)); (first | (simp; done) | (simp; omega)))
      | (apply s_not_t; (iterate 4 (exact rfl))) | (apply s_not_f; (iterate 4 (exact rfl))) | (apply s_not; (iterate 4 (exact rfl))) | (apply s_eql_t; (iterate 5 (exact rfl)); omega) | (apply s_eql_f; (iterate 5 (exact rfl)); omega)
      | (apply s_lss_t; (iterate 5 (exact rfl)); omega) | (apply s_lss_f; (iterate 5 (exact rfl)); omega) | (apply s_add64; (iterate 5 (exact rfl)); omega) | (apply s_streq_t; (iterate 5 (exact rfl)); assumption) | (apply s_streq_f; (iterate 5 (exact rfl)); assumption)
      | (apply s_ldF tab_ok; (iterate 5 (exact rfl)); exact hP; exact rfl)
      | (apply s_callS; (iterate 6 (exact rfl)); exact fin; rintro _ σ ⟨rfl, hR, hO⟩)
      | refine al_nil ?_ | refine q_then_n ?_ | refine q_blk_n ?_ | refine q_blk_r ?_ | refine q_blk_e ?_
      | refine q_blk_o rfl ?_ | refine q_then_e ?_ | refine aw_block ?_ | refine aw_exit ?_ | refine q_then_r ?_
      | refine aw_seq ?_ | refine aw_reg ?_ | refine aw_true rfl ?_ | refine aw_false rfl ?_ | refine aw_skip ?_
      | refine aw_ret ?_)
      exact q_ret rfl ⟨rfl, hR, hO⟩
end
end Go.Proofs.Ytlpgekodoiioaaa
