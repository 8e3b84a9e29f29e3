/- WorldTells: the walk. -/
import Derived.Test.YtlpgekodoiioaaaS8open_
import Derived.Test.YtlpgekodoiioaaaS8closed
import Derived.Test.YtlpgekodoiioaaaS8write
import Derived.Test.YtlpgekodoiioaaaS8unwritten
import Derived.Test.YtlpgekodoiioaaaS8unread
import Derived.Test.YtlpgekodoiioaaaS8shut
import Derived.Test.YtlpgekodoiioaaaS8readE
import Derived.Test.YtlpgekodoiioaaaS8readL
set_option linter.unusedSimpArgs false
set_option linter.unusedVariables false
namespace Go.Proofs.Ytlpgekodoiioaaa
open Go.RowKit
-- DEF LDX: (apply s_ldF tab_ok; (iterate 5 (exact rfl)); exact hX; exact rfl)
set_option maxRecDepth 100000 in
set_option maxHeartbeats 8000000 in
theorem tells_c (files : List AFile) (fails : List Bool) (script : List ADo) (hf : files.length ≤ 9223372036854775807) (hs1 : script.length ≤ 9223372036854775807) (hx1 : ∀ x ∈ script, x.s.size ≤ maxLen) :
    Runs Try.prog 8 [.d (filesD files), .d (boolsD fails), .d (dosD script)] [] (fun v _ => v = .d (.v (.bool true))) := by
  refine enter 240 Try.func8 rfl (by kernel_rfl) rfl rfl rfl ?_
  by_cases hb : fails.length ≤ 10000 ∧ script.length ≤ 300
  · obtain ⟨hb1, hb2⟩ := hb
    by_cases hok : NewOk files
    · have cn := fun σ => new_f (σ := σ) files fails (by omega) hok
      have ok0 := ok_new (fails := fails) hok
      have ti0 : TInv files ⟨files, fails, [], []⟩ := t_new fails
      generalize (⟨files, fails, [], []⟩ : AW) = W0 at cn ok0 ti0
      have hap := apart_new hok
      obtain ⟨W, hW⟩ : ∃ W, runW W0 script = W := ⟨_, rfl⟩
      have ok1 := ok_run (n := 0) (l := script) ok0
      have ti := t_run (l := script) ti0 ok0 hap
      rw [hW] at ok1 ti
      have c1 := fun σ loc hA => run_w (σ := σ) (loc := loc) script hA ok0 (by omega) hx1
      rw [hW] at c1
      have tr1 := fun σ loc hA => trace_w (σ := σ) (loc := loc) (W := W) hA ok1 (by omega)
      have fi1 := fun σ loc hA => files_w (σ := σ) (loc := loc) (W := W) hA ok1
      have e1 : (files.map fileD).length = files.length := by simp
      repeat' (first
      | refine s_op rfl ?_ | (apply s_skipV; (iterate 2 (exact rfl))) | (apply s_skipU; (iterate 3 (exact rfl))) | (apply s_move; (iterate 4 (exact rfl))) | (apply s_fa_p tab_ok; (iterate 5 (exact rfl)))
      | (apply s_fa_f tab_ok; (iterate 6 (exact rfl))) | (apply s_ld_p tab_ok; (iterate 7 (exact rfl))) | (apply s_ld_f tab_ok; (iterate 6 (exact rfl))) | (apply s_ld_w tab_ok; (iterate 5 (exact rfl)); (first | exact patD_len _ | exact valD_len _)) | (apply s_assign; (iterate 4 (exact rfl)))
      | (apply s_pick_t; (iterate 5 (exact rfl))) | (apply s_pick_f; (iterate 5 (exact rfl))) | (apply s_len tab_ok; (iterate 5 (exact rfl))) | (apply s_lens str_ok; (iterate 4 (exact rfl))) | (apply s_idx tab_ok; (iterate 7 (exact rfl)); (first | exact patR_get (by assumption) | exact valR_get (by assumption) | exact row_map (by assumption) | assumption))
      | (apply s_slice tab_ok; (iterate 8 (exact rfl)); (simp; omega)) | (apply s_ext; (iterate 5 (exact rfl))) | (apply s_alloc tabZ_ok; (iterate 7 (exact rfl))) | (apply s_store tab_ok; (iterate 10 (exact rfl))) | (apply s_lit tab_ok tabZ_ok; (iterate 10 (exact rfl)))
      | (apply s_lit1 tab_ok tabZ_ok; (iterate 9 (exact rfl)); (first | exact patD_len _ | exact valD_len _)) | (apply s_app tab_ok tabZ_ok; (iterate 13 (exact rfl)); (first | (simp; done) | (simp; omega))) | (apply s_not_t; (iterate 4 (exact rfl))) | (apply s_not_f; (iterate 4 (exact rfl))) | (apply s_not; (iterate 4 (exact rfl)))
      | (apply s_eql_t; (iterate 5 (exact rfl)); omega) | (apply s_eql_f; (iterate 5 (exact rfl)); omega) | (apply s_neq_t; (iterate 5 (exact rfl)); omega) | (apply s_neq_f; (iterate 5 (exact rfl)); omega) | (apply s_lss_t; (iterate 5 (exact rfl)); omega)
      | (apply s_lss_f; (iterate 5 (exact rfl)); omega) | (apply s_gtr_t; (iterate 5 (exact rfl)); omega) | (apply s_gtr_f; (iterate 5 (exact rfl)); omega) | (apply s_geq_t; (iterate 5 (exact rfl)); omega) | (apply s_geq_f; (iterate 5 (exact rfl)); omega)
      | (apply s_add64; (iterate 5 (exact rfl)); omega) | (apply s_strne_t; (iterate 5 (exact rfl)); assumption) | (apply s_strne_f; (iterate 5 (exact rfl)); assumption) | (apply s_stradd; (iterate 5 (exact rfl)); omega)
      | (apply s_makeMapF Value.string; (iterate 4 (exact rfl)); intro locM σ hc; have hM := hc.at'; have nAM := hc.ne hA; replace hA := hc.keep hA; clear hc)
      | (apply s_call; (iterate 6 (exact rfl)); first | (exact known_p; rintro _ rfl) | (exact great_p _ _ (by assumption); rintro _ (rfl | ⟨rfl, hg⟩) <;> (try (exfalso; omega))) | (exact heavy_p _ (by assumption); rintro _ (rfl | ⟨rfl, hg⟩) <;> (try (exfalso; omega))))
      | (apply s_callS; (iterate 6 (exact rfl)); first | (exact cn _; rintro _ σ ⟨locA, rfl, hc⟩; have hA := hc.at'; clear hc) | (exact c1 _ _ hA; rintro _ σ ⟨rfl, hc⟩; replace hA := hc.at'; clear hc))
      | refine al_nil ?_ | refine q_then_n ?_ | refine q_blk_n ?_ | refine q_blk_r ?_ | refine q_blk_e ?_
      | refine q_blk_o rfl ?_ | refine q_then_e ?_ | refine aw_block ?_ | refine aw_exit ?_ | refine q_then_r ?_
      | refine aw_seq ?_ | refine aw_reg ?_ | refine aw_true rfl ?_ | refine aw_false rfl ?_ | refine aw_skip ?_
      | refine aw_ret ?_ | refine al_fork ?_ ?_ | refine al_fork3 ?_ ?_ ?_
      | refine aw_draws (id := 32) (trO [0, 1, 2, 3, 4, 5, 6, 7, 8, 9] .nil) [] [] mixed_ok (by kernel_rfl) ?_
      | refine aw_draws (id := 35) (trO [0, 1, 2, 3, 4, 5, 6, 7, 8, 9, 10] .nil) [10] [10] mixed_ok (by kernel_rfl) ?_
      | refine aw_draws (id := 46) (trO [0, 1, 2, 3, 4, 5, 6, 7, 8, 9, 10, 11, 12, 13, 14, 15, 16, 17, 18, 19, 20, 21, 22] .nil) [] [] mixed_ok (by kernel_rfl) ?_)
      any_goals exact q_ret rfl rfl
      clear cn c1
      have hM : σ[locM]? = some (mo (filesM (files.take 0))) := hM
      refine w_loop [0, 6, 7, 9, 45, 46, 47] (fun n vs σ => ∃ k : Nat, vs = [.d (filesD files), .d (.v (.bool false)), .ptr locA 0 0, .mp locM, .d (filesD files), .d (.v (.int .i64 ((files.map fileD).length : Int))), .d (.v (.int .i64 (k : Int)))] ∧ σ[locA]? = some (wo W) ∧ σ[locM]? = some (mo (filesM (files.take k))) ∧ k ≤ files.length ∧ n = files.length - k) rfl ⟨0, rfl, hA, hM, by omega, rfl⟩ ?_
      clear hA hM
      rintro n vs σ ⟨k, rfl, hA, hM, hk, rfl⟩ fr hfr
      cases hfr
      by_cases hlt : k < files.length
      · obtain ⟨f, hx⟩ : ∃ f, files[k]? = some f := ⟨_, List.getElem?_eq_getElem hlt⟩
        have hput : putA f.name (AV.d (.v (.string f.text))) (avM (filesM (files.take k))) = avM (filesM (files.take (k + 1))) := by
          rw [av_put, put_new (hok.2 k f hx).2, List.take_add_one, hx]; rfl
        have hr := row_of (f := fileD) hx
        repeat' (first
      | refine s_op rfl ?_ | (apply s_skip; exact rfl) | (apply s_move; (iterate 4 (exact rfl))) | (apply s_fa_p tab_ok; (iterate 5 (exact rfl))) | (apply s_fa_f tab_ok; (iterate 6 (exact rfl)))
      | (apply s_ld_p tab_ok; (iterate 7 (exact rfl))) | (apply s_ld_f tab_ok; (iterate 6 (exact rfl))) | (apply s_ld_w tab_ok; (iterate 5 (exact rfl)); (first | exact patD_len _ | exact valD_len _)) | (apply s_assign; (iterate 4 (exact rfl))) | (apply s_pick_t; (iterate 5 (exact rfl)))
      | (apply s_pick_f; (iterate 5 (exact rfl))) | (apply s_len tab_ok; (iterate 5 (exact rfl))) | (apply s_lens str_ok; (iterate 4 (exact rfl))) | (apply s_idx tab_ok; (iterate 7 (exact rfl)); (first | exact patR_get (by assumption) | exact valR_get (by assumption) | exact row_map (by assumption) | assumption)) | (apply s_slice tab_ok; (iterate 8 (exact rfl)); (simp; omega))
      | (apply s_ext; (iterate 5 (exact rfl))) | (apply s_lit tab_ok tabZ_ok; (iterate 10 (exact rfl))) | (apply s_lit1 tab_ok tabZ_ok; (iterate 9 (exact rfl)); (first | exact patD_len _ | exact valD_len _)) | (apply s_app tab_ok tabZ_ok; (iterate 13 (exact rfl)); (first | (simp; done) | (simp; omega))) | (apply s_not_t; (iterate 4 (exact rfl)))
      | (apply s_not_f; (iterate 4 (exact rfl))) | (apply s_not; (iterate 4 (exact rfl))) | (apply s_eql_t; (iterate 5 (exact rfl)); omega) | (apply s_eql_f; (iterate 5 (exact rfl)); omega) | (apply s_neq_t; (iterate 5 (exact rfl)); omega)
      | (apply s_neq_f; (iterate 5 (exact rfl)); omega) | (apply s_lss_t; (iterate 5 (exact rfl)); omega) | (apply s_lss_f; (iterate 5 (exact rfl)); omega) | (apply s_gtr_t; (iterate 5 (exact rfl)); omega) | (apply s_gtr_f; (iterate 5 (exact rfl)); omega)
      | (apply s_geq_t; (iterate 5 (exact rfl)); omega) | (apply s_geq_f; (iterate 5 (exact rfl)); omega) | (apply s_add64; (iterate 5 (exact rfl)); omega) | (apply s_strne_t; (iterate 5 (exact rfl)); assumption) | (apply s_strne_f; (iterate 5 (exact rfl)); assumption)
      | (apply s_stradd; (iterate 5 (exact rfl)); omega)
      | (apply s_allocF tabZ_ok; (iterate 6 (exact rfl)); intro locX σ hc; have hX := hc.at'; have nAX := hc.ne hA; replace hA := hc.keep hA; have nMX := hc.ne hM; replace hM := hc.keep hM; clear hc)
      | (apply s_storeF tab_ok; (iterate 7 (exact rfl)); exact hX; (iterate 2 (exact rfl)); intro σ hc; replace hX := hc.at'; replace hA := hc.keep (by first | assumption | (apply Ne.symm; assumption) | omega) hA; replace hM := hc.keep (by first | assumption | (apply Ne.symm; assumption) | omega) hM; clear hc)
      | (apply s_ldF tab_ok; (iterate 5 (exact rfl)); exact hX; exact rfl)
      | (apply s_mapUpdateF (str_law str_ok) map_ok f.name (avM (filesM (files.take k))) (avM (filesM (files.take (k + 1)))); (iterate 4 (exact rfl)); exact hM; exact rfl; exact hput; intro σ hc; replace hM := hc.at'; replace hA := hc.keep (by first | assumption | (apply Ne.symm; assumption) | omega) hA; clear hc)
      | refine al_nil ?_ | refine q_then_n ?_ | refine q_blk_n ?_ | refine q_blk_r ?_ | refine q_blk_e ?_
      | refine q_blk_o rfl ?_ | refine q_then_e ?_ | refine aw_block ?_ | refine aw_exit ?_ | refine q_then_r ?_
      | refine aw_seq ?_ | refine aw_reg ?_ | refine aw_true rfl ?_ | refine aw_false rfl ?_ | refine aw_skip ?_
      | refine aw_ret ?_ | refine al_fork ?_ ?_ | refine al_fork3 ?_ ?_ ?_
      | refine aw_draws (id := 32) (trO [0, 1, 2, 3, 4, 5, 6, 7, 8, 9] .nil) [] [] mixed_ok (by kernel_rfl) ?_
      | refine aw_draws (id := 35) (trO [0, 1, 2, 3, 4, 5, 6, 7, 8, 9, 10] .nil) [10] [10] mixed_ok (by kernel_rfl) ?_
      | refine aw_draws (id := 46) (trO [0, 1, 2, 3, 4, 5, 6, 7, 8, 9, 10, 11, 12, 13, 14, 15, 16, 17, 18, 19, 20, 21, 22] .nil) [] [] mixed_ok (by kernel_rfl) ?_)
        exact ⟨_, _, rfl, by omega, k + 1, rfl, hA, hM, by omega, rfl⟩
      · rw [List.take_of_length_le (by omega)] at hM
        repeat' (first
      | refine s_op rfl ?_ | (apply s_skip; exact rfl) | (apply s_move; (iterate 4 (exact rfl))) | (apply s_fa_p tab_ok; (iterate 5 (exact rfl))) | (apply s_fa_f tab_ok; (iterate 6 (exact rfl)))
      | (apply s_ld_p tab_ok; (iterate 7 (exact rfl))) | (apply s_ld_f tab_ok; (iterate 6 (exact rfl))) | (apply s_ld_w tab_ok; (iterate 5 (exact rfl)); (first | exact patD_len _ | exact valD_len _)) | (apply s_assign; (iterate 4 (exact rfl))) | (apply s_pick_t; (iterate 5 (exact rfl)))
      | (apply s_pick_f; (iterate 5 (exact rfl))) | (apply s_len tab_ok; (iterate 5 (exact rfl))) | (apply s_lens str_ok; (iterate 4 (exact rfl))) | (apply s_idx tab_ok; (iterate 7 (exact rfl)); (first | exact patR_get (by assumption) | exact valR_get (by assumption) | exact row_map (by assumption) | assumption)) | (apply s_slice tab_ok; (iterate 8 (exact rfl)); (simp; omega))
      | (apply s_ext; (iterate 5 (exact rfl))) | (apply s_alloc tabZ_ok; (iterate 7 (exact rfl))) | (apply s_store tab_ok; (iterate 10 (exact rfl))) | (apply s_lit tab_ok tabZ_ok; (iterate 10 (exact rfl))) | (apply s_lit1 tab_ok tabZ_ok; (iterate 9 (exact rfl)); (first | exact patD_len _ | exact valD_len _))
      | (apply s_app tab_ok tabZ_ok; (iterate 13 (exact rfl)); (first | (simp; done) | (simp; omega))) | (apply s_not_t; (iterate 4 (exact rfl))) | (apply s_not_f; (iterate 4 (exact rfl))) | (apply s_not; (iterate 4 (exact rfl))) | (apply s_eql_t; (iterate 5 (exact rfl)); omega)
      | (apply s_eql_f; (iterate 5 (exact rfl)); omega) | (apply s_neq_t; (iterate 5 (exact rfl)); omega) | (apply s_neq_f; (iterate 5 (exact rfl)); omega) | (apply s_lss_t; (iterate 5 (exact rfl)); omega) | (apply s_lss_f; (iterate 5 (exact rfl)); omega)
      | (apply s_gtr_t; (iterate 5 (exact rfl)); omega) | (apply s_gtr_f; (iterate 5 (exact rfl)); omega) | (apply s_geq_t; (iterate 5 (exact rfl)); omega) | (apply s_geq_f; (iterate 5 (exact rfl)); omega) | (apply s_add64; (iterate 5 (exact rfl)); omega)
      | (apply s_strne_t; (iterate 5 (exact rfl)); assumption) | (apply s_strne_f; (iterate 5 (exact rfl)); assumption) | (apply s_stradd; (iterate 5 (exact rfl)); omega)
      | (apply s_callS; (iterate 6 (exact rfl)); first | (exact tr1 _ _ hA; rintro _ σ ⟨rfl, rfl⟩))
      | refine al_nil ?_ | refine q_then_n ?_ | refine q_blk_n ?_ | refine q_blk_r ?_ | refine q_blk_e ?_
      | refine q_blk_o rfl ?_ | refine q_then_e ?_ | refine aw_block ?_ | refine aw_exit ?_ | refine q_then_r ?_
      | refine aw_seq ?_ | refine aw_reg ?_ | refine aw_true rfl ?_ | refine aw_false rfl ?_ | refine aw_skip ?_
      | refine aw_ret ?_ | refine al_fork ?_ ?_ | refine al_fork3 ?_ ?_ ?_
      | refine aw_draws (id := 32) (trO [0, 1, 2, 3, 4, 5, 6, 7, 8, 9] .nil) [] [] mixed_ok (by kernel_rfl) ?_
      | refine aw_draws (id := 35) (trO [0, 1, 2, 3, 4, 5, 6, 7, 8, 9, 10] .nil) [10] [10] mixed_ok (by kernel_rfl) ?_
      | refine aw_draws (id := 46) (trO [0, 1, 2, 3, 4, 5, 6, 7, 8, 9, 10, 11, 12, 13, 14, 15, 16, 17, 18, 19, 20, 21, 22] .nil) [] [] mixed_ok (by kernel_rfl) ?_)
        clear hlt hk
        refine w_adoptF 12 9 1 rfl ?_
        intro locN σ hc; have hN := hc.at'; have nAN := hc.ne hA; replace hA := hc.keep hA; have nMN := hc.ne hM; replace hM := hc.keep hM; clear hc
        refine w_adoptF 13 3 1 rfl ?_
        intro locP σ hc; have hP := hc.at'; have nAP := hc.ne hA; replace hA := hc.keep hA; have nMP := hc.ne hM; replace hM := hc.keep hM; have nNP := hc.ne hN; replace hN := hc.keep hN; clear hc
        have ct := ok1.trace
        refine w_loop [0, 6, 7, 9, 12, 13, 58, 59, 60] (fun n vs σ => ∃ k : Nat, TI files W locA locM locN locP k vs σ ∧ n = W.trace.length - k) rfl ⟨0, ⟨0, 0, 0, filesM files, [], [], rfl, hA, hM, hN, hP, ti.told, rfl, rfl, by simp, by omega⟩, rfl⟩ ?_
        clear hA hM hN hP
        have e2 : (W.trace.map opD).length = W.trace.length := by simp
        rintro n vs σ ⟨k, ⟨vN, vP, lp, M, N, P, rfl, hA, hM, hN, hP, ht, hlp, hl, hlk, hk⟩, rfl⟩ fr hfr
        cases hfr
        by_cases hlt : k < W.trace.length
        · obtain ⟨o, hx⟩ : ∃ o, W.trace[k]? = some o := ⟨_, List.getElem?_eq_getElem hlt⟩
          have hd : W.trace.drop k = o :: W.trace.drop (k + 1) := by
            rw [List.drop_eq_getElem_cons hlt]
            rw [List.getElem?_eq_getElem hlt] at hx
            injection hx with hx
            rw [hx]
          rw [hd] at ht
          obtain ⟨S1, hs, ht⟩ := ht
          have hr := row_of (f := opD) hx
          have hmono : ∀ (e : Exit) (fr' : Fr) (σ' : List AObj), TQ files W locA locM locN locP (k + 1) e fr' σ' → e = .normal ∧ ∃ m vs', getO [0, 6, 7, 9, 12, 13, 58, 59, 60] fr' = some vs' ∧ m < W.trace.length - k ∧ ∃ k : Nat, TI files W locA locM locN locP k vs' σ' ∧ m = W.trace.length - k := fun e fr' σ' ⟨h1, vs', h2, h3⟩ => ⟨h1, _, vs', h2, by omega, k + 1, h3, rfl⟩
          refine AWk.mono (Q := TQ files W locA locM locN locP (k + 1)) ?_ (fun e fr' σ' h => by obtain ⟨h1, h2⟩ := hmono e fr' σ' h; subst h1; exact h2)
          clear hmono
          cases hs with
          | open_ M N P name x t h => exact round_open_ nAM nAN nMN nAP nMP nNP (by omega) hlt hA hM hN hP hlp hl hlk name x t h hr ht rfl
          | closed _ name x => exact round_closed nAM nAN nMN nAP nMP nNP (by omega) hlt hA hM hN hP hlp hl hlk name x hr ht rfl
          | write M N P i name nm x t h1 h h4 => exact round_write nAM nAN nMN nAP nMP nNP (by omega) hlt hA hM hN hP hlp hl hlk i name nm x t h1 h h4 hr ht rfl
          | unwritten M N P i name nm x h1 => exact round_unwritten nAM nAN nMN nAP nMP nNP (by omega) hlt hA hM hN hP hlp hl hlk i name nm x h1 hr ht rfl
          | unread M N P i name nm h1 => exact round_unread nAM nAN nMN nAP nMP nNP (by omega) hlt hA hM hN hP hlp hl hlk i name nm h1 hr ht rfl
          | shut M N P i name nm x ok h1 => exact round_shut nAM nAN nMN nAP nMP nNP (by omega) hlt hA hM hN hP hlp hl hlk i name nm x ok h1 hr ht rfl
          | readE M N P i name nm x t p rest h1 h hp hpl h4 hrr hxs hxr hn => exact round_readE nAM nAN nMN nAP nMP nNP (by omega) hlt hA hM hN hP hlp hl hlk i name nm x t p rest h1 h hp hpl h4 hrr hxs hxr hn hr ht rfl
          | readL M N P i name nm x t p rest h1 h hp hpl h4 hrr hxs hxr hn hy => exact round_readL nAM nAN nMN nAP nMP nNP (by omega) hlt hA hM hN hP hlp hl hlk i name nm x t p rest h1 h hp hpl h4 hrr hxs hxr hn hy hr ht rfl
        · have hk2 : W.trace.drop k = [] := List.drop_eq_nil_of_le (by omega)
          rw [hk2] at ht
          have ht : W.rs = ⟨M, N, P⟩ := ht
          have hM : σ[locM]? = some (mo W.rs.M) := by rw [ht]; exact hM
          repeat' (first
      | refine s_op rfl ?_ | (apply s_skip; exact rfl) | (apply s_move; (iterate 4 (exact rfl))) | (apply s_fa_p tab_ok; (iterate 5 (exact rfl))) | (apply s_fa_f tab_ok; (iterate 6 (exact rfl)))
      | (apply s_ld_p tab_ok; (iterate 7 (exact rfl))) | (apply s_ld_f tab_ok; (iterate 6 (exact rfl))) | (apply s_ld_w tab_ok; (iterate 5 (exact rfl)); (first | exact patD_len _ | exact valD_len _)) | (apply s_assign; (iterate 4 (exact rfl))) | (apply s_pick_t; (iterate 5 (exact rfl)))
      | (apply s_pick_f; (iterate 5 (exact rfl))) | (apply s_len tab_ok; (iterate 5 (exact rfl))) | (apply s_lens str_ok; (iterate 4 (exact rfl))) | (apply s_idx tab_ok; (iterate 7 (exact rfl)); (first | exact patR_get (by assumption) | exact valR_get (by assumption) | exact row_map (by assumption) | assumption)) | (apply s_slice tab_ok; (iterate 8 (exact rfl)); (simp; omega))
      | (apply s_ext; (iterate 5 (exact rfl))) | (apply s_alloc tabZ_ok; (iterate 7 (exact rfl))) | (apply s_store tab_ok; (iterate 10 (exact rfl))) | (apply s_lit tab_ok tabZ_ok; (iterate 10 (exact rfl))) | (apply s_lit1 tab_ok tabZ_ok; (iterate 9 (exact rfl)); (first | exact patD_len _ | exact valD_len _))
      | (apply s_app tab_ok tabZ_ok; (iterate 13 (exact rfl)); (first | (simp; done) | (simp; omega))) | (apply s_not_t; (iterate 4 (exact rfl))) | (apply s_not_f; (iterate 4 (exact rfl))) | (apply s_not; (iterate 4 (exact rfl))) | (apply s_eql_t; (iterate 5 (exact rfl)); omega)
      | (apply s_eql_f; (iterate 5 (exact rfl)); omega) | (apply s_neq_t; (iterate 5 (exact rfl)); omega) | (apply s_neq_f; (iterate 5 (exact rfl)); omega) | (apply s_lss_t; (iterate 5 (exact rfl)); omega) | (apply s_lss_f; (iterate 5 (exact rfl)); omega)
      | (apply s_gtr_t; (iterate 5 (exact rfl)); omega) | (apply s_gtr_f; (iterate 5 (exact rfl)); omega) | (apply s_geq_t; (iterate 5 (exact rfl)); omega) | (apply s_geq_f; (iterate 5 (exact rfl)); omega) | (apply s_add64; (iterate 5 (exact rfl)); omega)
      | (apply s_strne_t; (iterate 5 (exact rfl)); assumption) | (apply s_strne_f; (iterate 5 (exact rfl)); assumption) | (apply s_stradd; (iterate 5 (exact rfl)); omega)
      | (apply s_callS; (iterate 6 (exact rfl)); first | (exact fi1 _ _ hA; rintro _ σ ⟨rfl, rfl⟩))
      | refine al_nil ?_ | refine q_then_n ?_ | refine q_blk_n ?_ | refine q_blk_r ?_ | refine q_blk_e ?_
      | refine q_blk_o rfl ?_ | refine q_then_e ?_ | refine aw_block ?_ | refine aw_exit ?_ | refine q_then_r ?_
      | refine aw_seq ?_ | refine aw_reg ?_ | refine aw_true rfl ?_ | refine aw_false rfl ?_ | refine aw_skip ?_
      | refine aw_ret ?_ | refine al_fork ?_ ?_ | refine al_fork3 ?_ ?_ ?_
      | refine aw_draws (id := 32) (trO [0, 1, 2, 3, 4, 5, 6, 7, 8, 9] .nil) [] [] mixed_ok (by kernel_rfl) ?_
      | refine aw_draws (id := 35) (trO [0, 1, 2, 3, 4, 5, 6, 7, 8, 9, 10] .nil) [10] [10] mixed_ok (by kernel_rfl) ?_
      | refine aw_draws (id := 46) (trO [0, 1, 2, 3, 4, 5, 6, 7, 8, 9, 10, 11, 12, 13, 14, 15, 16, 17, 18, 19, 20, 21, 22] .nil) [] [] mixed_ok (by kernel_rfl) ?_)
          clear hk hk2 hlt hN hP hl hlk ht
          have e3 : (W.files.map fileD).length = W.files.length := by simp
          have e4 : W.files.length = files.length := by have := congrArg List.length ti.names; simpa using this
          refine w_loop [0, 6, 7, 9, 203, 204, 205] (fun n vs σ => ∃ k : Nat, vs = [.d (filesD files), .d (.v (.bool false)), .ptr locA 0 0, .mp locM, .d (filesD W.files), .d (.v (.int .i64 ((W.files.map fileD).length : Int))), .d (.v (.int .i64 (k : Int)))] ∧ σ[locA]? = some (wo W) ∧ σ[locM]? = some (mo W.rs.M) ∧ k ≤ W.files.length ∧ n = W.files.length - k) rfl ⟨0, rfl, hA, hM, by omega, rfl⟩ ?_
          clear hA hM
          rintro n vs σ ⟨k, rfl, hA, hM, hk, rfl⟩ fr hfr
          cases hfr
          by_cases hlt : k < W.files.length
          · obtain ⟨f, hx⟩ : ∃ f, W.files[k]? = some f := ⟨_, List.getElem?_eq_getElem hlt⟩
            obtain ⟨g, hy⟩ : ∃ g, files[k]? = some g := ⟨_, List.getElem?_eq_getElem (by omega)⟩
            have hname : f.name = g.name := by
              have := congrArg (fun l => l[k]?) ti.names
              simpa [hx, hy] using this
            have hg1 := (av_getD (getA_files (apart_of ti hap) hx)).1
            have htt : f.text = f.text := rfl
            have hr := row_of (f := fileD) hx
            have hr2 := row_of (f := fileD) hy
            repeat' (first
      | refine s_op rfl ?_ | (apply s_skipV; (iterate 2 (exact rfl))) | (apply s_skipU; (iterate 3 (exact rfl))) | (apply s_move; (iterate 4 (exact rfl))) | (apply s_fa_p tab_ok; (iterate 5 (exact rfl)))
      | (apply s_fa_f tab_ok; (iterate 6 (exact rfl))) | (apply s_ld_p tab_ok; (iterate 7 (exact rfl))) | (apply s_ld_f tab_ok; (iterate 6 (exact rfl))) | (apply s_ld_w tab_ok; (iterate 5 (exact rfl)); (first | exact patD_len _ | exact valD_len _)) | (apply s_assign; (iterate 4 (exact rfl)))
      | (apply s_pick_t; (iterate 5 (exact rfl))) | (apply s_pick_f; (iterate 5 (exact rfl))) | (apply s_len tab_ok; (iterate 5 (exact rfl))) | (apply s_lens str_ok; (iterate 4 (exact rfl))) | (apply s_idx tab_ok; (iterate 7 (exact rfl)); (first | exact patR_get (by assumption) | exact valR_get (by assumption) | exact row_map (by assumption) | assumption))
      | (apply s_slice tab_ok; (iterate 8 (exact rfl)); (simp; omega)) | (apply s_ext; (iterate 5 (exact rfl))) | (apply s_lit tab_ok tabZ_ok; (iterate 10 (exact rfl))) | (apply s_lit1 tab_ok tabZ_ok; (iterate 9 (exact rfl)); (first | exact patD_len _ | exact valD_len _)) | (apply s_app tab_ok tabZ_ok; (iterate 13 (exact rfl)); (first | (simp; done) | (simp; omega)))
      | (apply s_not_t; (iterate 4 (exact rfl))) | (apply s_not_f; (iterate 4 (exact rfl))) | (apply s_not; (iterate 4 (exact rfl))) | (apply s_eql_t; (iterate 5 (exact rfl)); omega) | (apply s_eql_f; (iterate 5 (exact rfl)); omega)
      | (apply s_neq_t; (iterate 5 (exact rfl)); omega) | (apply s_neq_f; (iterate 5 (exact rfl)); omega) | (apply s_lss_t; (iterate 5 (exact rfl)); omega) | (apply s_lss_f; (iterate 5 (exact rfl)); omega) | (apply s_gtr_t; (iterate 5 (exact rfl)); omega)
      | (apply s_gtr_f; (iterate 5 (exact rfl)); omega) | (apply s_geq_t; (iterate 5 (exact rfl)); omega) | (apply s_geq_f; (iterate 5 (exact rfl)); omega) | (apply s_add64; (iterate 5 (exact rfl)); omega) | (apply s_strne_t; (iterate 5 (exact rfl)); assumption)
      | (apply s_strne_f; (iterate 5 (exact rfl)); assumption) | (apply s_stradd; (iterate 5 (exact rfl)); omega)
      | (apply s_allocF tabZ_ok; (iterate 6 (exact rfl)); intro locX σ hc; have hX := hc.at'; have nAX := hc.ne hA; replace hA := hc.keep hA; have nMX := hc.ne hM; replace hM := hc.keep hM; clear hc)
      | (apply s_storeF tab_ok; (iterate 7 (exact rfl)); exact hX; (iterate 2 (exact rfl)); intro σ hc; replace hX := hc.at'; replace hA := hc.keep (by first | assumption | (apply Ne.symm; assumption) | omega) hA; replace hM := hc.keep (by first | assumption | (apply Ne.symm; assumption) | omega) hM; clear hc)
      | (apply s_ldF tab_ok; (iterate 5 (exact rfl)); exact hX; exact rfl)
      | (apply s_lookup1 (str_law str_ok) map_ok z9 f.name (avM W.rs.M) (.d (.v (.string f.text))); (iterate 4 (exact rfl)); exact hM; exact rfl; exact hg1)
      | refine al_nil ?_ | refine q_then_n ?_ | refine q_blk_n ?_ | refine q_blk_r ?_ | refine q_blk_e ?_
      | refine q_blk_o rfl ?_ | refine q_then_e ?_ | refine aw_block ?_ | refine aw_exit ?_ | refine q_then_r ?_
      | refine aw_seq ?_ | refine aw_reg ?_ | refine aw_true rfl ?_ | refine aw_false rfl ?_ | refine aw_skip ?_
      | refine aw_ret ?_ | refine al_fork ?_ ?_ | refine al_fork3 ?_ ?_ ?_
      | refine aw_draws (id := 32) (trO [0, 1, 2, 3, 4, 5, 6, 7, 8, 9] .nil) [] [] mixed_ok (by kernel_rfl) ?_
      | refine aw_draws (id := 35) (trO [0, 1, 2, 3, 4, 5, 6, 7, 8, 9, 10] .nil) [10] [10] mixed_ok (by kernel_rfl) ?_
      | refine aw_draws (id := 46) (trO [0, 1, 2, 3, 4, 5, 6, 7, 8, 9, 10, 11, 12, 13, 14, 15, 16, 17, 18, 19, 20, 21, 22] .nil) [] [] mixed_ok (by kernel_rfl) ?_)
            all_goals exact ⟨_, _, rfl, by omega, k + 1, rfl, hA, hM, by omega, rfl⟩
          · repeat' (first
      | refine s_op rfl ?_ | (apply s_skipV; (iterate 2 (exact rfl))) | (apply s_skipU; (iterate 3 (exact rfl))) | (apply s_move; (iterate 4 (exact rfl))) | (apply s_fa_p tab_ok; (iterate 5 (exact rfl)))
      | (apply s_fa_f tab_ok; (iterate 6 (exact rfl))) | (apply s_ld_p tab_ok; (iterate 7 (exact rfl))) | (apply s_ld_f tab_ok; (iterate 6 (exact rfl))) | (apply s_ld_w tab_ok; (iterate 5 (exact rfl)); (first | exact patD_len _ | exact valD_len _)) | (apply s_assign; (iterate 4 (exact rfl)))
      | (apply s_pick_t; (iterate 5 (exact rfl))) | (apply s_pick_f; (iterate 5 (exact rfl))) | (apply s_len tab_ok; (iterate 5 (exact rfl))) | (apply s_lens str_ok; (iterate 4 (exact rfl))) | (apply s_idx tab_ok; (iterate 7 (exact rfl)); (first | exact patR_get (by assumption) | exact valR_get (by assumption) | exact row_map (by assumption) | assumption))
      | (apply s_slice tab_ok; (iterate 8 (exact rfl)); (simp; omega)) | (apply s_ext; (iterate 5 (exact rfl))) | (apply s_alloc tabZ_ok; (iterate 7 (exact rfl))) | (apply s_store tab_ok; (iterate 10 (exact rfl))) | (apply s_lit tab_ok tabZ_ok; (iterate 10 (exact rfl)))
      | (apply s_lit1 tab_ok tabZ_ok; (iterate 9 (exact rfl)); (first | exact patD_len _ | exact valD_len _)) | (apply s_app tab_ok tabZ_ok; (iterate 13 (exact rfl)); (first | (simp; done) | (simp; omega))) | (apply s_not_t; (iterate 4 (exact rfl))) | (apply s_not_f; (iterate 4 (exact rfl))) | (apply s_not; (iterate 4 (exact rfl)))
      | (apply s_eql_t; (iterate 5 (exact rfl)); omega) | (apply s_eql_f; (iterate 5 (exact rfl)); omega) | (apply s_neq_t; (iterate 5 (exact rfl)); omega) | (apply s_neq_f; (iterate 5 (exact rfl)); omega) | (apply s_lss_t; (iterate 5 (exact rfl)); omega)
      | (apply s_lss_f; (iterate 5 (exact rfl)); omega) | (apply s_gtr_t; (iterate 5 (exact rfl)); omega) | (apply s_gtr_f; (iterate 5 (exact rfl)); omega) | (apply s_geq_t; (iterate 5 (exact rfl)); omega) | (apply s_geq_f; (iterate 5 (exact rfl)); omega)
      | (apply s_add64; (iterate 5 (exact rfl)); omega) | (apply s_strne_t; (iterate 5 (exact rfl)); assumption) | (apply s_strne_f; (iterate 5 (exact rfl)); assumption) | (apply s_stradd; (iterate 5 (exact rfl)); omega)
      | (apply s_callS; (iterate 6 (exact rfl)); first | (exact fi1 _ _ hA; rintro _ σ ⟨rfl, rfl⟩))
      | refine al_nil ?_ | refine q_then_n ?_ | refine q_blk_n ?_ | refine q_blk_r ?_ | refine q_blk_e ?_
      | refine q_blk_o rfl ?_ | refine q_then_e ?_ | refine aw_block ?_ | refine aw_exit ?_ | refine q_then_r ?_
      | refine aw_seq ?_ | refine aw_reg ?_ | refine aw_true rfl ?_ | refine aw_false rfl ?_ | refine aw_skip ?_
      | refine aw_ret ?_ | refine al_fork ?_ ?_ | refine al_fork3 ?_ ?_ ?_
      | refine aw_draws (id := 32) (trO [0, 1, 2, 3, 4, 5, 6, 7, 8, 9] .nil) [] [] mixed_ok (by kernel_rfl) ?_
      | refine aw_draws (id := 35) (trO [0, 1, 2, 3, 4, 5, 6, 7, 8, 9, 10] .nil) [10] [10] mixed_ok (by kernel_rfl) ?_
      | refine aw_draws (id := 46) (trO [0, 1, 2, 3, 4, 5, 6, 7, 8, 9, 10, 11, 12, 13, 14, 15, 16, 17, 18, 19, 20, 21, 22] .nil) [] [] mixed_ok (by kernel_rfl) ?_)
            all_goals exact q_ret rfl rfl
    · have cn := fun σ => new_no (σ := σ) files fails (by omega) hok
      repeat' (first
      | refine s_op rfl ?_ | (apply s_skipV; (iterate 2 (exact rfl))) | (apply s_skipU; (iterate 3 (exact rfl))) | (apply s_move; (iterate 4 (exact rfl))) | (apply s_fa_p tab_ok; (iterate 5 (exact rfl)))
      | (apply s_fa_f tab_ok; (iterate 6 (exact rfl))) | (apply s_ld_p tab_ok; (iterate 7 (exact rfl))) | (apply s_ld_f tab_ok; (iterate 6 (exact rfl))) | (apply s_ld_w tab_ok; (iterate 5 (exact rfl)); (first | exact patD_len _ | exact valD_len _)) | (apply s_assign; (iterate 4 (exact rfl)))
      | (apply s_pick_t; (iterate 5 (exact rfl))) | (apply s_pick_f; (iterate 5 (exact rfl))) | (apply s_len tab_ok; (iterate 5 (exact rfl))) | (apply s_lens str_ok; (iterate 4 (exact rfl))) | (apply s_idx tab_ok; (iterate 7 (exact rfl)); (first | exact patR_get (by assumption) | exact valR_get (by assumption) | exact row_map (by assumption) | assumption))
      | (apply s_slice tab_ok; (iterate 8 (exact rfl)); (simp; omega)) | (apply s_ext; (iterate 5 (exact rfl))) | (apply s_alloc tabZ_ok; (iterate 7 (exact rfl))) | (apply s_store tab_ok; (iterate 10 (exact rfl))) | (apply s_lit tab_ok tabZ_ok; (iterate 10 (exact rfl)))
      | (apply s_lit1 tab_ok tabZ_ok; (iterate 9 (exact rfl)); (first | exact patD_len _ | exact valD_len _)) | (apply s_app tab_ok tabZ_ok; (iterate 13 (exact rfl)); (first | (simp; done) | (simp; omega))) | (apply s_not_t; (iterate 4 (exact rfl))) | (apply s_not_f; (iterate 4 (exact rfl))) | (apply s_not; (iterate 4 (exact rfl)))
      | (apply s_eql_t; (iterate 5 (exact rfl)); omega) | (apply s_eql_f; (iterate 5 (exact rfl)); omega) | (apply s_neq_t; (iterate 5 (exact rfl)); omega) | (apply s_neq_f; (iterate 5 (exact rfl)); omega) | (apply s_lss_t; (iterate 5 (exact rfl)); omega)
      | (apply s_lss_f; (iterate 5 (exact rfl)); omega) | (apply s_gtr_t; (iterate 5 (exact rfl)); omega) | (apply s_gtr_f; (iterate 5 (exact rfl)); omega) | (apply s_geq_t; (iterate 5 (exact rfl)); omega) | (apply s_geq_f; (iterate 5 (exact rfl)); omega)
      | (apply s_add64; (iterate 5 (exact rfl)); omega) | (apply s_strne_t; (iterate 5 (exact rfl)); assumption) | (apply s_strne_f; (iterate 5 (exact rfl)); assumption) | (apply s_stradd; (iterate 5 (exact rfl)); omega)
      | (apply s_pn_t; (iterate 5 (exact rfl)))
      | (apply s_call; (iterate 6 (exact rfl)); first | (exact known_p; rintro _ rfl) | (exact great_p _ _ (by assumption); rintro _ (rfl | ⟨rfl, hg⟩) <;> (try (exfalso; omega))) | (exact heavy_p _ (by assumption); rintro _ (rfl | ⟨rfl, hg⟩) <;> (try (exfalso; omega))))
      | (apply s_callS; (iterate 6 (exact rfl)); first | (exact cn _; rintro _ σ ⟨rfl, rfl⟩))
      | refine al_nil ?_ | refine q_then_n ?_ | refine q_blk_n ?_ | refine q_blk_r ?_ | refine q_blk_e ?_
      | refine q_blk_o rfl ?_ | refine q_then_e ?_ | refine aw_block ?_ | refine aw_exit ?_ | refine q_then_r ?_
      | refine aw_seq ?_ | refine aw_reg ?_ | refine aw_true rfl ?_ | refine aw_false rfl ?_ | refine aw_skip ?_
      | refine aw_ret ?_ | refine al_fork ?_ ?_ | refine al_fork3 ?_ ?_ ?_
      | refine aw_draws (id := 32) (trO [0, 1, 2, 3, 4, 5, 6, 7, 8, 9] .nil) [] [] mixed_ok (by kernel_rfl) ?_
      | refine aw_draws (id := 35) (trO [0, 1, 2, 3, 4, 5, 6, 7, 8, 9, 10] .nil) [10] [10] mixed_ok (by kernel_rfl) ?_
      | refine aw_draws (id := 46) (trO [0, 1, 2, 3, 4, 5, 6, 7, 8, 9, 10, 11, 12, 13, 14, 15, 16, 17, 18, 19, 20, 21, 22] .nil) [] [] mixed_ok (by kernel_rfl) ?_)
      all_goals exact q_ret rfl rfl
  · repeat' (first
      | refine s_op rfl ?_ | (apply s_skipV; (iterate 2 (exact rfl))) | (apply s_skipU; (iterate 3 (exact rfl))) | (apply s_move; (iterate 4 (exact rfl))) | (apply s_fa_p tab_ok; (iterate 5 (exact rfl)))
      | (apply s_fa_f tab_ok; (iterate 6 (exact rfl))) | (apply s_ld_p tab_ok; (iterate 7 (exact rfl))) | (apply s_ld_f tab_ok; (iterate 6 (exact rfl))) | (apply s_ld_w tab_ok; (iterate 5 (exact rfl)); (first | exact patD_len _ | exact valD_len _)) | (apply s_assign; (iterate 4 (exact rfl)))
      | (apply s_pick_t; (iterate 5 (exact rfl))) | (apply s_pick_f; (iterate 5 (exact rfl))) | (apply s_len tab_ok; (iterate 5 (exact rfl))) | (apply s_lens str_ok; (iterate 4 (exact rfl))) | (apply s_idx tab_ok; (iterate 7 (exact rfl)); (first | exact patR_get (by assumption) | exact valR_get (by assumption) | exact row_map (by assumption) | assumption))
      | (apply s_slice tab_ok; (iterate 8 (exact rfl)); (simp; omega)) | (apply s_ext; (iterate 5 (exact rfl))) | (apply s_alloc tabZ_ok; (iterate 7 (exact rfl))) | (apply s_store tab_ok; (iterate 10 (exact rfl))) | (apply s_lit tab_ok tabZ_ok; (iterate 10 (exact rfl)))
      | (apply s_lit1 tab_ok tabZ_ok; (iterate 9 (exact rfl)); (first | exact patD_len _ | exact valD_len _)) | (apply s_app tab_ok tabZ_ok; (iterate 13 (exact rfl)); (first | (simp; done) | (simp; omega))) | (apply s_not_t; (iterate 4 (exact rfl))) | (apply s_not_f; (iterate 4 (exact rfl))) | (apply s_not; (iterate 4 (exact rfl)))
      | (apply s_eql_t; (iterate 5 (exact rfl)); omega) | (apply s_eql_f; (iterate 5 (exact rfl)); omega) | (apply s_neq_t; (iterate 5 (exact rfl)); omega) | (apply s_neq_f; (iterate 5 (exact rfl)); omega) | (apply s_lss_t; (iterate 5 (exact rfl)); omega)
      | (apply s_lss_f; (iterate 5 (exact rfl)); omega) | (apply s_gtr_t; (iterate 5 (exact rfl)); omega) | (apply s_gtr_f; (iterate 5 (exact rfl)); omega) | (apply s_geq_t; (iterate 5 (exact rfl)); omega) | (apply s_geq_f; (iterate 5 (exact rfl)); omega)
      | (apply s_add64; (iterate 5 (exact rfl)); omega) | (apply s_strne_t; (iterate 5 (exact rfl)); assumption) | (apply s_strne_f; (iterate 5 (exact rfl)); assumption) | (apply s_stradd; (iterate 5 (exact rfl)); omega)
      | (apply s_call; (iterate 6 (exact rfl)); first | (exact known_p; rintro _ rfl) | (exact great_p _ _ (by assumption); rintro _ (rfl | ⟨rfl, hg⟩) <;> (try (exfalso; omega))) | (exact heavy_p _ (by assumption); rintro _ (rfl | ⟨rfl, hg⟩) <;> (try (exfalso; omega))))
      | refine al_nil ?_ | refine q_then_n ?_ | refine q_blk_n ?_ | refine q_blk_r ?_ | refine q_blk_e ?_
      | refine q_blk_o rfl ?_ | refine q_then_e ?_ | refine aw_block ?_ | refine aw_exit ?_ | refine q_then_r ?_
      | refine aw_seq ?_ | refine aw_reg ?_ | refine aw_true rfl ?_ | refine aw_false rfl ?_ | refine aw_skip ?_
      | refine aw_ret ?_ | refine al_fork ?_ ?_ | refine al_fork3 ?_ ?_ ?_
      | refine aw_draws (id := 32) (trO [0, 1, 2, 3, 4, 5, 6, 7, 8, 9] .nil) [] [] mixed_ok (by kernel_rfl) ?_
      | refine aw_draws (id := 35) (trO [0, 1, 2, 3, 4, 5, 6, 7, 8, 9, 10] .nil) [10] [10] mixed_ok (by kernel_rfl) ?_
      | refine aw_draws (id := 46) (trO [0, 1, 2, 3, 4, 5, 6, 7, 8, 9, 10, 11, 12, 13, 14, 15, 16, 17, 18, 19, 20, 21, 22] .nil) [] [] mixed_ok (by kernel_rfl) ?_)
    all_goals exact q_ret rfl rfl
end Go.Proofs.Ytlpgekodoiioaaa
