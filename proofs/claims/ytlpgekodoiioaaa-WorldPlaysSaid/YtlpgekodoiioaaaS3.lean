/- WorldPlays: the walk. -/
import Derived.Test.YtlpgekodoiioaaaF6
set_option linter.unusedSimpArgs false
set_option linter.unusedVariables false
namespace Go.Proofs.Ytlpgekodoiioaaa
open Go.RowKit
-- DEF LDX: (apply s_ldF tab_ok; (iterate 5 (exact rfl)); exact hX; exact rfl)

theorem heavy2_p (l : List ADo) (h : l.length ≤ 9223372036854775807) : RunsP Try.prog 11 [dosD l] (fun v => v = .v (.bool true) ∨ (v = .v (.bool false) ∧ l.length ≤ 300 ∧ ∀ x ∈ l, x.s.size ≤ 50000)) :=
  (heavy2_c l h).mono fun v ⟨g, e, q⟩ => by
    cases g
    · exact .inr ⟨e, q rfl⟩
    · exact .inl e

theorem RefAt.ext {q : RL} {W : AW} {σ σ' : List AObj} (h : RefAt σ q W) (hE : Ext σ σ') : RefAt σ' q W := by
  obtain ⟨ok, F, t, vf, vh, vt, e, ht, hF0, hP, hF, hH, hT⟩ := h
  exact ⟨ok, F, t, vf, vh, vt, e, ht, hF0, hE _ _ hP, hE _ _ hF, hE _ _ hH, hE _ _ hT⟩
def bOld : ByteArray := ⟨#[111, 108, 100]⟩

set_option maxRecDepth 100000 in
set_option maxHeartbeats 8000000 in
theorem plays_c (files : List AFile) (fails : List Bool) (script : List ADo) (hf : files.length ≤ 9223372036854775807) (hs1 : script.length ≤ 9223372036854775807) :
    Runs Try.prog 3 [.d (filesD files), .d (boolsD fails), .d (dosD script)] [] (fun v _ => v = .d (.v (.bool true))) := by
  refine enter 90 Try.func3 rfl (by kernel_rfl) rfl rfl rfl ?_
  by_cases hb : fails.length ≤ 10000 ∧ script.length ≤ 300 ∧ ∀ x ∈ script, x.s.size ≤ 50000
  · obtain ⟨hb1, hb2, hb3⟩ := hb
    have hd := heavy2_p script hs1
    by_cases hok : NewOk files
    · have cn := fun σ => new_f (σ := σ) files fails (by omega) hok
      have cr := fun σ => rnew_ok (σ := σ) files fails hok (by omega)
      have ok0 := ok_new (fails := fails) hok
      have hf0 : (⟨files, fails, [], []⟩ : AW).fails.length ≤ 10000 := hb1
      generalize (⟨files, fails, [], []⟩ : AW) = W0 at cn cr ok0 hf0
      have hgreat := great_p files fails hf
      repeat' (first
      | refine s_op rfl ?_ | (apply s_skip; exact rfl) | (apply s_move; (iterate 4 (exact rfl))) | (apply s_fa_p tab_ok; (iterate 5 (exact rfl))) | (apply s_fa_f tab_ok; (iterate 6 (exact rfl)))
      | (apply s_ld_p tab_ok; (iterate 7 (exact rfl))) | (apply s_ld_f tab_ok; (iterate 6 (exact rfl))) | (apply s_ld_w tab_ok; (iterate 5 (exact rfl)); (first | exact patD_len _ | exact valD_len _)) | (apply s_assign; (iterate 4 (exact rfl))) | (apply s_pick_t; (iterate 5 (exact rfl)))
      | (apply s_pick_f; (iterate 5 (exact rfl))) | (apply s_len tab_ok; (iterate 5 (exact rfl))) | (apply s_lens str_ok; (iterate 4 (exact rfl))) | (apply s_idx tab_ok; (iterate 7 (exact rfl)); (first | exact patR_get (by assumption) | exact valR_get (by assumption) | exact row_map (by assumption) | assumption)) | (apply s_ext; (iterate 5 (exact rfl)))
      | (apply s_alloc tabZ_ok; (iterate 7 (exact rfl))) | (apply s_store tab_ok; (iterate 10 (exact rfl))) | (apply s_not_t; (iterate 4 (exact rfl))) | (apply s_not_f; (iterate 4 (exact rfl))) | (apply s_not; (iterate 4 (exact rfl)))
      | (apply s_eql_t; (iterate 5 (exact rfl)); omega) | (apply s_eql_f; (iterate 5 (exact rfl)); omega) | (apply s_neq_t; (iterate 5 (exact rfl)); omega) | (apply s_neq_f; (iterate 5 (exact rfl)); omega) | (apply s_lss_t; (iterate 5 (exact rfl)); omega)
      | (apply s_lss_f; (iterate 5 (exact rfl)); omega) | (apply s_add64; (iterate 5 (exact rfl)); omega) | (apply s_boolne bool_ok; (iterate 5 (exact rfl)))
      | (apply s_call; (iterate 6 (exact rfl)); first | (exact known_p; rintro _ rfl) | (exact hgreat; rintro _ (rfl | ⟨rfl, hg⟩)) | (exact hd; rintro _ (rfl | ⟨rfl, hg, hg2⟩)))
      | (apply s_callS; (iterate 6 (exact rfl)); first | (exact cn _; rintro _ σ ⟨locA, rfl, hc⟩; have hA := hc.at'; clear hc) | (exact cr _; rintro _ σ ⟨q, rfl, hR, hN⟩; have hq := (hN _ _ hA).2; replace hA := (hN _ _ hA).1; clear hN))
      | (apply s_pn_t; (iterate 5 (exact rfl)))
      | (apply s_pn_f; (iterate 5 (exact rfl)))
      | refine al_nil ?_ | refine q_then_n ?_ | refine q_blk_n ?_ | refine q_blk_r ?_ | refine q_blk_e ?_
      | refine q_blk_o rfl ?_ | refine q_then_e ?_ | refine aw_block ?_ | refine aw_exit ?_ | refine q_then_r ?_
      | refine aw_seq ?_ | refine aw_reg ?_ | refine aw_true rfl ?_ | refine aw_false rfl ?_ | refine aw_skip ?_
      | refine aw_ret ?_)
      any_goals exact q_ret rfl rfl
      clear hgreat hd cn cr
      refine w_loop [6, 7, 9, 47, 48, 49] (fun n vs σ => ∃ (k locA : Nat) (W : AW), vs = [.d (.v (.bool false)), .ptr locA 0 0, .ptr q.p 0 0, .d (dosD script), .d (.v (.int .i64 ((script.map doD).length : Int))), .d (.v (.int .i64 (k : Int)))] ∧ σ[locA]? = some (wo W) ∧ RefAt σ q W ∧ ¬ q.has locA ∧ k ≤ script.length ∧ W.Ok k ∧ W.fails.length ≤ 10000 ∧ n = script.length - k) rfl ⟨0, locA, W0, rfl, hA, hR, hq, by omega, ok0, hf0, rfl⟩ ?_
      clear hA hR hq ok0 hf0
      have e1 : (script.map doD).length = script.length := by simp
      rintro n vs σ ⟨k, locA, W, rfl, hA, hR, hq, hk, ok, hfl, rfl⟩ fr hfr
      cases hfr
      by_cases hlt : k < script.length
      · obtain ⟨x, hx⟩ : ∃ x, script[k]? = some x := ⟨_, List.getElem?_eq_getElem hlt⟩
        have hxs := hb3 x (List.mem_of_getElem? hx)
        by_cases k5 : x.kind = 5
        · have cc := fun σ hA => copy_f (σ := σ) (loc := locA) (W := W) hA ok (by omega) (by omega)
          have ok1 := ok_open ok bA
          have ok2 := ok_write ok1 0 bOld
          have c1 := fun σ hA => open_w (σ := σ) (loc := locA) bA hA ok (by omega)
          have c2 := fun σ hA => write_w (σ := σ) (loc := locA) 0 bOld (by decide) hA ok1 (by omega)
          have c3 := fun σ hA => close_w (σ := σ) (loc := locA) x.h hA ok2 (by omega)
          generalize hW1 : (W.open_ bA).2 = W1 at c1 c2 c3
          generalize hW2 : (W1.write 0 bOld).2 = W2 at c2 c3
          repeat' (first
      | refine s_op rfl ?_ | (apply s_skip; exact rfl) | (apply s_move; (iterate 4 (exact rfl))) | (apply s_fa_p tab_ok; (iterate 5 (exact rfl))) | (apply s_fa_f tab_ok; (iterate 6 (exact rfl)))
      | (apply s_ld_p tab_ok; (iterate 7 (exact rfl))) | (apply s_ld_f tab_ok; (iterate 6 (exact rfl))) | (apply s_ld_w tab_ok; (iterate 5 (exact rfl)); (first | exact patD_len _ | exact valD_len _)) | (apply s_assign; (iterate 4 (exact rfl))) | (apply s_pick_t; (iterate 5 (exact rfl)))
      | (apply s_pick_f; (iterate 5 (exact rfl))) | (apply s_len tab_ok; (iterate 5 (exact rfl))) | (apply s_lens str_ok; (iterate 4 (exact rfl))) | (apply s_idx tab_ok; (iterate 7 (exact rfl)); (first | exact patR_get (by assumption) | exact valR_get (by assumption) | exact row_map (by assumption) | assumption)) | (apply s_ext; (iterate 5 (exact rfl)))
      | (apply s_alloc tabZ_ok; (iterate 7 (exact rfl))) | (apply s_store tab_ok; (iterate 10 (exact rfl))) | (apply s_not_t; (iterate 4 (exact rfl))) | (apply s_not_f; (iterate 4 (exact rfl))) | (apply s_not; (iterate 4 (exact rfl)))
      | (apply s_eql_t; (iterate 5 (exact rfl)); omega) | (apply s_eql_f; (iterate 5 (exact rfl)); omega) | (apply s_neq_t; (iterate 5 (exact rfl)); omega) | (apply s_neq_f; (iterate 5 (exact rfl)); omega) | (apply s_lss_t; (iterate 5 (exact rfl)); omega)
      | (apply s_lss_f; (iterate 5 (exact rfl)); omega) | (apply s_add64; (iterate 5 (exact rfl)); omega) | (apply s_boolne bool_ok; (iterate 5 (exact rfl)))
      | (apply s_allocF tabZ_ok; (iterate 6 (exact rfl)); intro locX σ hc; have hX := hc.at'; have nAX := hc.ne hA; replace hA := hc.keep hA; have nqX := (hR.fresh hc).2; replace hR := (hR.fresh hc).1; clear hc)
      | (apply s_storeF tab_ok; (iterate 7 (exact rfl)); exact hX; (iterate 2 (exact rfl)); intro σ hc; replace hX := hc.at'; replace hA := hc.keep nAX hA; replace hR := hR.chg hc nqX; clear hc)
      | (apply s_ldF tab_ok; (iterate 5 (exact rfl)); exact hX; exact rfl)
      | (apply s_pn_f; (iterate 5 (exact rfl)))
      | (apply s_callS; (iterate 6 (exact rfl)); first | (exact cc _ hA; rintro _ σ ⟨locB, rfl, hc⟩; have hB := hc.at'; have nAB := hc.ne hA; replace hA := hc.keep hA; replace hX := hc.keep hX; have nqB := (hR.fresh hc).2; replace hR := (hR.fresh hc).1; clear hc) | (exact c1 _ hA; rintro _ σ ⟨rfl, hc⟩; replace hA := hc.at'; replace hB := hc.keep (Ne.symm nAB) hB; replace hX := hc.keep (Ne.symm nAX) hX; replace hR := hR.chg hc hq; clear hc) | (exact c2 _ hA; rintro _ σ ⟨rfl, hc⟩; replace hA := hc.at'; replace hB := hc.keep (Ne.symm nAB) hB; replace hX := hc.keep (Ne.symm nAX) hX; replace hR := hR.chg hc hq; clear hc) | (exact c3 _ hA; rintro _ σ ⟨rfl, hc⟩; replace hA := hc.at'; replace hB := hc.keep (Ne.symm nAB) hB; replace hX := hc.keep (Ne.symm nAX) hX; replace hR := hR.chg hc hq; clear hc))
      | refine al_nil ?_ | refine q_then_n ?_ | refine q_blk_n ?_ | refine q_blk_r ?_ | refine q_blk_e ?_
      | refine q_blk_o rfl ?_ | refine q_then_e ?_ | refine aw_block ?_ | refine aw_exit ?_ | refine q_then_r ?_
      | refine aw_seq ?_ | refine aw_reg ?_ | refine aw_true rfl ?_ | refine aw_false rfl ?_ | refine aw_skip ?_
      | refine aw_ret ?_)
          exact ⟨_, _, rfl, by omega, k + 1, locB, W, rfl, hB, hR, nqB, by omega, ok_mono ok (Nat.le_succ k), hfl, rfl⟩
        · have okd := ok_step ok x
          have fld := do_fails W x
          have cd := fun σ hA hR => does_c (σ := σ) (loc := locA) (q := q) (W := W) hA hR hq ok (by omega) x hxs
          generalize hWd : doW W x = Wd at cd okd fld
          have ca := fun σ hA hR => alike_c (σ := σ) (loc := locA) (q := q) (W := Wd) hA hR okd (by omega)
          by_cases h15 : k % 16 = 15
          · repeat' (first
      | refine s_op rfl ?_ | (apply s_skip; exact rfl) | (apply s_move; (iterate 4 (exact rfl))) | (apply s_fa_p tab_ok; (iterate 5 (exact rfl))) | (apply s_fa_f tab_ok; (iterate 6 (exact rfl)))
      | (apply s_ld_p tab_ok; (iterate 7 (exact rfl))) | (apply s_ld_f tab_ok; (iterate 6 (exact rfl))) | (apply s_ld_w tab_ok; (iterate 5 (exact rfl)); (first | exact patD_len _ | exact valD_len _)) | (apply s_assign; (iterate 4 (exact rfl))) | (apply s_pick_t; (iterate 5 (exact rfl)))
      | (apply s_pick_f; (iterate 5 (exact rfl))) | (apply s_len tab_ok; (iterate 5 (exact rfl))) | (apply s_lens str_ok; (iterate 4 (exact rfl))) | (apply s_idx tab_ok; (iterate 7 (exact rfl)); (first | exact patR_get (by assumption) | exact valR_get (by assumption) | exact row_map (by assumption) | assumption)) | (apply s_ext; (iterate 5 (exact rfl)))
      | (apply s_alloc tabZ_ok; (iterate 7 (exact rfl))) | (apply s_store tab_ok; (iterate 10 (exact rfl))) | (apply s_not_t; (iterate 4 (exact rfl))) | (apply s_not_f; (iterate 4 (exact rfl))) | (apply s_not; (iterate 4 (exact rfl)))
      | (apply s_eql_t; (iterate 5 (exact rfl)); omega) | (apply s_eql_f; (iterate 5 (exact rfl)); omega) | (apply s_neq_t; (iterate 5 (exact rfl)); omega) | (apply s_neq_f; (iterate 5 (exact rfl)); omega) | (apply s_lss_t; (iterate 5 (exact rfl)); omega)
      | (apply s_lss_f; (iterate 5 (exact rfl)); omega) | (apply s_add64; (iterate 5 (exact rfl)); omega) | (apply s_boolne bool_ok; (iterate 5 (exact rfl)))
      | (apply s_allocF tabZ_ok; (iterate 6 (exact rfl)); intro locX σ hc; have hX := hc.at'; have nAX := hc.ne hA; replace hA := hc.keep hA; have nqX := (hR.fresh hc).2; replace hR := (hR.fresh hc).1; clear hc)
      | (apply s_storeF tab_ok; (iterate 7 (exact rfl)); exact hX; (iterate 2 (exact rfl)); intro σ hc; replace hX := hc.at'; replace hA := hc.keep nAX hA; replace hR := hR.chg hc nqX; clear hc)
      | (apply s_ldF tab_ok; (iterate 5 (exact rfl)); exact hX; exact rfl)
      | (apply s_remV ((k % 16 : Nat) : Int); (iterate 5 (exact rfl)); exact ⟨by decide, rfl⟩)
      | (apply s_callS; (iterate 6 (exact rfl)); first | (exact cd _ hA hR; rintro _ σ ⟨rfl, hA, hR⟩) | (exact ca _ hA hR; rintro _ σ ⟨rfl, hE⟩; replace hA := hE _ _ hA; replace hR := hR.ext hE; clear hE))
      | refine al_nil ?_ | refine q_then_n ?_ | refine q_blk_n ?_ | refine q_blk_r ?_ | refine q_blk_e ?_
      | refine q_blk_o rfl ?_ | refine q_then_e ?_ | refine aw_block ?_ | refine aw_exit ?_ | refine q_then_r ?_
      | refine aw_seq ?_ | refine aw_reg ?_ | refine aw_true rfl ?_ | refine aw_false rfl ?_ | refine aw_skip ?_
      | refine aw_ret ?_)
            exact ⟨_, _, rfl, by omega, k + 1, locA, Wd, rfl, hA, hR, hq, by omega, okd, by omega, rfl⟩
          · repeat' (first
      | refine s_op rfl ?_ | (apply s_skip; exact rfl) | (apply s_move; (iterate 4 (exact rfl))) | (apply s_fa_p tab_ok; (iterate 5 (exact rfl))) | (apply s_fa_f tab_ok; (iterate 6 (exact rfl)))
      | (apply s_ld_p tab_ok; (iterate 7 (exact rfl))) | (apply s_ld_f tab_ok; (iterate 6 (exact rfl))) | (apply s_ld_w tab_ok; (iterate 5 (exact rfl)); (first | exact patD_len _ | exact valD_len _)) | (apply s_assign; (iterate 4 (exact rfl))) | (apply s_pick_t; (iterate 5 (exact rfl)))
      | (apply s_pick_f; (iterate 5 (exact rfl))) | (apply s_len tab_ok; (iterate 5 (exact rfl))) | (apply s_lens str_ok; (iterate 4 (exact rfl))) | (apply s_idx tab_ok; (iterate 7 (exact rfl)); (first | exact patR_get (by assumption) | exact valR_get (by assumption) | exact row_map (by assumption) | assumption)) | (apply s_ext; (iterate 5 (exact rfl)))
      | (apply s_alloc tabZ_ok; (iterate 7 (exact rfl))) | (apply s_store tab_ok; (iterate 10 (exact rfl))) | (apply s_not_t; (iterate 4 (exact rfl))) | (apply s_not_f; (iterate 4 (exact rfl))) | (apply s_not; (iterate 4 (exact rfl)))
      | (apply s_eql_t; (iterate 5 (exact rfl)); omega) | (apply s_eql_f; (iterate 5 (exact rfl)); omega) | (apply s_neq_t; (iterate 5 (exact rfl)); omega) | (apply s_neq_f; (iterate 5 (exact rfl)); omega) | (apply s_lss_t; (iterate 5 (exact rfl)); omega)
      | (apply s_lss_f; (iterate 5 (exact rfl)); omega) | (apply s_add64; (iterate 5 (exact rfl)); omega) | (apply s_boolne bool_ok; (iterate 5 (exact rfl)))
      | (apply s_allocF tabZ_ok; (iterate 6 (exact rfl)); intro locX σ hc; have hX := hc.at'; have nAX := hc.ne hA; replace hA := hc.keep hA; have nqX := (hR.fresh hc).2; replace hR := (hR.fresh hc).1; clear hc)
      | (apply s_storeF tab_ok; (iterate 7 (exact rfl)); exact hX; (iterate 2 (exact rfl)); intro σ hc; replace hX := hc.at'; replace hA := hc.keep nAX hA; replace hR := hR.chg hc nqX; clear hc)
      | (apply s_ldF tab_ok; (iterate 5 (exact rfl)); exact hX; exact rfl)
      | (apply s_remV ((k % 16 : Nat) : Int); (iterate 5 (exact rfl)); exact ⟨by decide, rfl⟩)
      | (apply s_callS; (iterate 6 (exact rfl)); first | (exact cd _ hA hR; rintro _ σ ⟨rfl, hA, hR⟩) | (exact ca _ hA hR; rintro _ σ ⟨rfl, hE⟩; replace hA := hE _ _ hA; replace hR := hR.ext hE; clear hE))
      | refine al_nil ?_ | refine q_then_n ?_ | refine q_blk_n ?_ | refine q_blk_r ?_ | refine q_blk_e ?_
      | refine q_blk_o rfl ?_ | refine q_then_e ?_ | refine aw_block ?_ | refine aw_exit ?_ | refine q_then_r ?_
      | refine aw_seq ?_ | refine aw_reg ?_ | refine aw_true rfl ?_ | refine aw_false rfl ?_ | refine aw_skip ?_
      | refine aw_ret ?_)
            exact ⟨_, _, rfl, by omega, k + 1, locA, Wd, rfl, hA, hR, hq, by omega, okd, by omega, rfl⟩
      · have ca := fun σ hA hR => alike_c (σ := σ) (loc := locA) (q := q) (W := W) hA hR ok (by omega)
        repeat' (first
      | refine s_op rfl ?_ | (apply s_skip; exact rfl) | (apply s_move; (iterate 4 (exact rfl))) | (apply s_fa_p tab_ok; (iterate 5 (exact rfl))) | (apply s_fa_f tab_ok; (iterate 6 (exact rfl)))
      | (apply s_ld_p tab_ok; (iterate 7 (exact rfl))) | (apply s_ld_f tab_ok; (iterate 6 (exact rfl))) | (apply s_ld_w tab_ok; (iterate 5 (exact rfl)); (first | exact patD_len _ | exact valD_len _)) | (apply s_assign; (iterate 4 (exact rfl))) | (apply s_pick_t; (iterate 5 (exact rfl)))
      | (apply s_pick_f; (iterate 5 (exact rfl))) | (apply s_len tab_ok; (iterate 5 (exact rfl))) | (apply s_lens str_ok; (iterate 4 (exact rfl))) | (apply s_idx tab_ok; (iterate 7 (exact rfl)); (first | exact patR_get (by assumption) | exact valR_get (by assumption) | exact row_map (by assumption) | assumption)) | (apply s_ext; (iterate 5 (exact rfl)))
      | (apply s_alloc tabZ_ok; (iterate 7 (exact rfl))) | (apply s_store tab_ok; (iterate 10 (exact rfl))) | (apply s_not_t; (iterate 4 (exact rfl))) | (apply s_not_f; (iterate 4 (exact rfl))) | (apply s_not; (iterate 4 (exact rfl)))
      | (apply s_eql_t; (iterate 5 (exact rfl)); omega) | (apply s_eql_f; (iterate 5 (exact rfl)); omega) | (apply s_neq_t; (iterate 5 (exact rfl)); omega) | (apply s_neq_f; (iterate 5 (exact rfl)); omega) | (apply s_lss_t; (iterate 5 (exact rfl)); omega)
      | (apply s_lss_f; (iterate 5 (exact rfl)); omega) | (apply s_add64; (iterate 5 (exact rfl)); omega) | (apply s_boolne bool_ok; (iterate 5 (exact rfl)))
      | (apply s_callS; (iterate 6 (exact rfl)); first | (exact ca _ hA hR; rintro _ σ ⟨rfl, hE⟩))
      | refine al_nil ?_ | refine q_then_n ?_ | refine q_blk_n ?_ | refine q_blk_r ?_ | refine q_blk_e ?_
      | refine q_blk_o rfl ?_ | refine q_then_e ?_ | refine aw_block ?_ | refine aw_exit ?_ | refine q_then_r ?_
      | refine aw_seq ?_ | refine aw_reg ?_ | refine aw_true rfl ?_ | refine aw_false rfl ?_ | refine aw_skip ?_
      | refine aw_ret ?_)
        exact q_ret rfl rfl
    · have cn := fun σ => new_no (σ := σ) files fails (by omega) hok
      have cr := fun σ => rnew_no (σ := σ) files fails hok
      have hgreat := great_p files fails hf
      repeat' (first
      | refine s_op rfl ?_ | (apply s_skip; exact rfl) | (apply s_move; (iterate 4 (exact rfl))) | (apply s_fa_p tab_ok; (iterate 5 (exact rfl))) | (apply s_fa_f tab_ok; (iterate 6 (exact rfl)))
      | (apply s_ld_p tab_ok; (iterate 7 (exact rfl))) | (apply s_ld_f tab_ok; (iterate 6 (exact rfl))) | (apply s_ld_w tab_ok; (iterate 5 (exact rfl)); (first | exact patD_len _ | exact valD_len _)) | (apply s_assign; (iterate 4 (exact rfl))) | (apply s_pick_t; (iterate 5 (exact rfl)))
      | (apply s_pick_f; (iterate 5 (exact rfl))) | (apply s_len tab_ok; (iterate 5 (exact rfl))) | (apply s_lens str_ok; (iterate 4 (exact rfl))) | (apply s_idx tab_ok; (iterate 7 (exact rfl)); (first | exact patR_get (by assumption) | exact valR_get (by assumption) | exact row_map (by assumption) | assumption)) | (apply s_ext; (iterate 5 (exact rfl)))
      | (apply s_alloc tabZ_ok; (iterate 7 (exact rfl))) | (apply s_store tab_ok; (iterate 10 (exact rfl))) | (apply s_not_t; (iterate 4 (exact rfl))) | (apply s_not_f; (iterate 4 (exact rfl))) | (apply s_not; (iterate 4 (exact rfl)))
      | (apply s_eql_t; (iterate 5 (exact rfl)); omega) | (apply s_eql_f; (iterate 5 (exact rfl)); omega) | (apply s_neq_t; (iterate 5 (exact rfl)); omega) | (apply s_neq_f; (iterate 5 (exact rfl)); omega) | (apply s_lss_t; (iterate 5 (exact rfl)); omega)
      | (apply s_lss_f; (iterate 5 (exact rfl)); omega) | (apply s_add64; (iterate 5 (exact rfl)); omega) | (apply s_boolne bool_ok; (iterate 5 (exact rfl)))
      | (apply s_call; (iterate 6 (exact rfl)); first | (exact known_p; rintro _ rfl) | (exact hgreat; rintro _ (rfl | ⟨rfl, hg⟩)) | (exact hd; rintro _ (rfl | ⟨rfl, hg, hg2⟩)))
      | (apply s_callS; (iterate 6 (exact rfl)); first | (exact cn _; rintro _ σ ⟨rfl, rfl⟩) | (exact cr _; rintro _ σ ⟨rfl, rfl⟩))
      | (apply s_pn_t; (iterate 5 (exact rfl)))
      | (apply s_pn_f; (iterate 5 (exact rfl)))
      | refine al_nil ?_ | refine q_then_n ?_ | refine q_blk_n ?_ | refine q_blk_r ?_ | refine q_blk_e ?_
      | refine q_blk_o rfl ?_ | refine q_then_e ?_ | refine aw_block ?_ | refine aw_exit ?_ | refine q_then_r ?_
      | refine aw_seq ?_ | refine aw_reg ?_ | refine aw_true rfl ?_ | refine aw_false rfl ?_ | refine aw_skip ?_
      | refine aw_ret ?_)
      all_goals exact q_ret rfl rfl
  · have hgreat := great_p files fails hf
    have hd := heavy2_p script hs1
    repeat' (first
      | refine s_op rfl ?_ | (apply s_skip; exact rfl) | (apply s_move; (iterate 4 (exact rfl))) | (apply s_fa_p tab_ok; (iterate 5 (exact rfl))) | (apply s_fa_f tab_ok; (iterate 6 (exact rfl)))
      | (apply s_ld_p tab_ok; (iterate 7 (exact rfl))) | (apply s_ld_f tab_ok; (iterate 6 (exact rfl))) | (apply s_ld_w tab_ok; (iterate 5 (exact rfl)); (first | exact patD_len _ | exact valD_len _)) | (apply s_assign; (iterate 4 (exact rfl))) | (apply s_pick_t; (iterate 5 (exact rfl)))
      | (apply s_pick_f; (iterate 5 (exact rfl))) | (apply s_len tab_ok; (iterate 5 (exact rfl))) | (apply s_lens str_ok; (iterate 4 (exact rfl))) | (apply s_idx tab_ok; (iterate 7 (exact rfl)); (first | exact patR_get (by assumption) | exact valR_get (by assumption) | exact row_map (by assumption) | assumption)) | (apply s_ext; (iterate 5 (exact rfl)))
      | (apply s_alloc tabZ_ok; (iterate 7 (exact rfl))) | (apply s_store tab_ok; (iterate 10 (exact rfl))) | (apply s_not_t; (iterate 4 (exact rfl))) | (apply s_not_f; (iterate 4 (exact rfl))) | (apply s_not; (iterate 4 (exact rfl)))
      | (apply s_eql_t; (iterate 5 (exact rfl)); omega) | (apply s_eql_f; (iterate 5 (exact rfl)); omega) | (apply s_neq_t; (iterate 5 (exact rfl)); omega) | (apply s_neq_f; (iterate 5 (exact rfl)); omega) | (apply s_lss_t; (iterate 5 (exact rfl)); omega)
      | (apply s_lss_f; (iterate 5 (exact rfl)); omega) | (apply s_add64; (iterate 5 (exact rfl)); omega) | (apply s_boolne bool_ok; (iterate 5 (exact rfl)))
      | (apply s_call; (iterate 6 (exact rfl)); first | (exact known_p; rintro _ rfl) | (exact hgreat; rintro _ (rfl | ⟨rfl, hg⟩)) | (exact hd; rintro _ (rfl | ⟨rfl, hg3, hg4⟩) <;> (try (exfalso; exact hb ⟨by assumption, by assumption, by assumption⟩))))
      | refine al_nil ?_ | refine q_then_n ?_ | refine q_blk_n ?_ | refine q_blk_r ?_ | refine q_blk_e ?_
      | refine q_blk_o rfl ?_ | refine q_then_e ?_ | refine aw_block ?_ | refine aw_exit ?_ | refine q_then_r ?_
      | refine aw_seq ?_ | refine aw_reg ?_ | refine aw_true rfl ?_ | refine aw_false rfl ?_ | refine aw_skip ?_
      | refine aw_ret ?_)
    all_goals exact q_ret rfl rfl
end Go.Proofs.Ytlpgekodoiioaaa
