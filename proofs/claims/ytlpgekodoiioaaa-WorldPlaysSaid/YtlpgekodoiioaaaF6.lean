/- alike, does; a script that is no more than is gone through. -/
import Derived.Test.YtlpgekodoiioaaaF5
set_option linter.unusedSimpArgs false
set_option linter.unusedVariables false
namespace Go.Proofs.Ytlpgekodoiioaaa
open Go.RowKit
-- DEF LDP: (apply s_ldF tab_ok; (iterate 5 (exact rfl)); exact hP; exact rfl)
-- DEF LDX: (apply s_ldF tab_ok; (iterate 5 (exact rfl)); exact hX; exact rfl)
-- DEF IDXH: (apply s_idxO _ tab_ok; (iterate 7 (exact rfl)); exact hH; exact ⟨by omega, rfl⟩)

set_option maxRecDepth 100000 in
theorem heavy2_c (l : List ADo) (hl : l.length ≤ 9223372036854775807) : RunsP Try.prog 11 [dosD l] (fun v => ∃ g, v = .v (.bool g) ∧ (g = false → l.length ≤ 300 ∧ ∀ x ∈ l, x.s.size ≤ 50000)) := by
  refine enterP 25 Try.func11 rfl (by kernel_rfl) rfl rfl rfl ?_
  have e1 : (l.map doD).length = l.length := by simp
  repeat' (first
      | refine s_op rfl ?_ | (apply s_move; (iterate 4 (exact rfl))) | (apply s_fa_p tab_ok; (iterate 5 (exact rfl))) | (apply s_fa_f tab_ok; (iterate 6 (exact rfl))) | (apply s_ld_p tab_ok; (iterate 7 (exact rfl)))
      | (apply s_ld_f tab_ok; (iterate 6 (exact rfl))) | (apply s_ld_w tab_ok; (iterate 5 (exact rfl)); (first | exact patD_len _ | exact valD_len _)) | (apply s_assign; (iterate 4 (exact rfl))) | (apply s_len tab_ok; (iterate 5 (exact rfl))) | (apply s_lens str_ok; (iterate 4 (exact rfl)))
      | (apply s_idx tab_ok; (iterate 7 (exact rfl)); (first | exact patR_get (by assumption) | exact valR_get (by assumption) | exact row_map (by assumption) | assumption)) | (apply s_alloc tabZ_ok; (iterate 7 (exact rfl))) | (apply s_store tab_ok; (iterate 10 (exact rfl))) | (apply s_lss_t; (iterate 5 (exact rfl)); omega) | (apply s_lss_f; (iterate 5 (exact rfl)); omega)
      | (apply s_gtr_t; (iterate 5 (exact rfl)); omega) | (apply s_gtr_f; (iterate 5 (exact rfl)); omega) | (apply s_add64; (iterate 5 (exact rfl)); omega)
      | refine al_nil ?_ | refine q_then_n ?_ | refine q_blk_n ?_ | refine q_blk_r ?_ | refine q_blk_e ?_
      | refine q_blk_o rfl ?_ | refine q_then_e ?_ | refine aw_block ?_ | refine aw_exit ?_ | refine q_then_r ?_
      | refine aw_seq ?_ | refine aw_reg ?_ | refine aw_true rfl ?_ | refine aw_false rfl ?_ | refine aw_skip ?_
      | refine aw_ret ?_)
  refine w_loop [0, 3, 6, 7, 8] (fun n vs σ => ∃ (k : Nat) (m : Int), vs = [.d (dosD l), .d (.v (.int .i64 m)), .d (dosD l), .d (.v (.int .i64 ((l.map doD).length : Int))), .d (.v (.int .i64 (k : Int)))] ∧ k ≤ l.length ∧ n = l.length - k ∧ 0 ≤ m ∧ m ≤ 50000 ∧ ∀ x ∈ l.take k, x.s.size ≤ 50000) rfl ⟨0, 0, rfl, by omega, rfl, by omega, by omega, by simp⟩ ?_
  rintro n vs σ ⟨k, m, rfl, hk, rfl, hm0, hm, hs⟩ fr hfr
  cases hfr
  by_cases hlt : k < l.length
  · obtain ⟨x, hx⟩ : ∃ x, l[k]? = some x := ⟨_, List.getElem?_eq_getElem hlt⟩
    by_cases hq : m + (1 + if (65536 : Int) < (x.s.size : Int) then 65536 else (x.s.size : Int)) ≤ 50000
    · have hxs : x.s.size ≤ 50000 := by split at hq <;> omega
      repeat' (first
      | refine s_op rfl ?_ | (apply s_move; (iterate 4 (exact rfl))) | (apply s_fa_p tab_ok; (iterate 5 (exact rfl))) | (apply s_fa_f tab_ok; (iterate 6 (exact rfl))) | (apply s_ld_p tab_ok; (iterate 7 (exact rfl)))
      | (apply s_ld_f tab_ok; (iterate 6 (exact rfl))) | (apply s_ld_w tab_ok; (iterate 5 (exact rfl)); (first | exact patD_len _ | exact valD_len _)) | (apply s_assign; (iterate 4 (exact rfl))) | (apply s_len tab_ok; (iterate 5 (exact rfl))) | (apply s_lens str_ok; (iterate 4 (exact rfl)))
      | (apply s_idx tab_ok; (iterate 7 (exact rfl)); (first | exact patR_get (by assumption) | exact valR_get (by assumption) | exact row_map (by assumption) | assumption)) | (apply s_alloc tabZ_ok; (iterate 7 (exact rfl))) | (apply s_store tab_ok; (iterate 10 (exact rfl))) | (apply s_lss_t; (iterate 5 (exact rfl)); omega) | (apply s_lss_f; (iterate 5 (exact rfl)); omega)
      | (apply s_gtr_t; (iterate 5 (exact rfl)); omega) | (apply s_gtr_f; (iterate 5 (exact rfl)); omega) | (apply s_add64; (iterate 5 (exact rfl)); omega)
      | (apply s_allocT tabZ_ok; (iterate 6 (exact rfl)))
      | (apply s_storeT tab_ok; (iterate 9 (exact rfl)))
      | (apply s_ldT tab_ok; (iterate 6 (exact rfl)))
      | (apply s_min; (iterate 5 (exact rfl)))
      | refine al_nil ?_ | refine q_then_n ?_ | refine q_blk_n ?_ | refine q_blk_r ?_ | refine q_blk_e ?_
      | refine q_blk_o rfl ?_ | refine q_then_e ?_ | refine aw_block ?_ | refine aw_exit ?_ | refine q_then_r ?_
      | refine aw_seq ?_ | refine aw_reg ?_ | refine aw_true rfl ?_ | refine aw_false rfl ?_ | refine aw_skip ?_
      | refine aw_ret ?_)
      refine ⟨_, _, rfl, by omega, k + 1, _, rfl, by omega, rfl, by omega, hq, ?_⟩
      intro y hy
      rw [List.take_add_one, hx] at hy
      rcases List.mem_append.1 hy with hy | hy
      · exact hs y hy
      · simp at hy; subst hy; exact hxs
    · repeat' (first
      | refine s_op rfl ?_ | (apply s_move; (iterate 4 (exact rfl))) | (apply s_fa_p tab_ok; (iterate 5 (exact rfl))) | (apply s_fa_f tab_ok; (iterate 6 (exact rfl))) | (apply s_ld_p tab_ok; (iterate 7 (exact rfl)))
      | (apply s_ld_f tab_ok; (iterate 6 (exact rfl))) | (apply s_ld_w tab_ok; (iterate 5 (exact rfl)); (first | exact patD_len _ | exact valD_len _)) | (apply s_assign; (iterate 4 (exact rfl))) | (apply s_len tab_ok; (iterate 5 (exact rfl))) | (apply s_lens str_ok; (iterate 4 (exact rfl)))
      | (apply s_idx tab_ok; (iterate 7 (exact rfl)); (first | exact patR_get (by assumption) | exact valR_get (by assumption) | exact row_map (by assumption) | assumption)) | (apply s_alloc tabZ_ok; (iterate 7 (exact rfl))) | (apply s_store tab_ok; (iterate 10 (exact rfl))) | (apply s_lss_t; (iterate 5 (exact rfl)); omega) | (apply s_lss_f; (iterate 5 (exact rfl)); omega)
      | (apply s_gtr_t; (iterate 5 (exact rfl)); omega) | (apply s_gtr_f; (iterate 5 (exact rfl)); omega) | (apply s_add64; (iterate 5 (exact rfl)); omega)
      | (apply s_allocT tabZ_ok; (iterate 6 (exact rfl)))
      | (apply s_storeT tab_ok; (iterate 9 (exact rfl)))
      | (apply s_ldT tab_ok; (iterate 6 (exact rfl)))
      | (apply s_min; (iterate 5 (exact rfl)))
      | refine al_nil ?_ | refine q_then_n ?_ | refine q_blk_n ?_ | refine q_blk_r ?_ | refine q_blk_e ?_
      | refine q_blk_o rfl ?_ | refine q_then_e ?_ | refine aw_block ?_ | refine aw_exit ?_ | refine q_then_r ?_
      | refine aw_seq ?_ | refine aw_reg ?_ | refine aw_true rfl ?_ | refine aw_false rfl ?_ | refine aw_skip ?_
      | refine aw_ret ?_)
      exact q_ret rfl ⟨_, rfl, _, rfl, by simp⟩
  · rw [List.take_of_length_le (by omega)] at hs
    by_cases h3 : l.length ≤ 300
    · repeat' (first
      | refine s_op rfl ?_ | (apply s_move; (iterate 4 (exact rfl))) | (apply s_fa_p tab_ok; (iterate 5 (exact rfl))) | (apply s_fa_f tab_ok; (iterate 6 (exact rfl))) | (apply s_ld_p tab_ok; (iterate 7 (exact rfl)))
      | (apply s_ld_f tab_ok; (iterate 6 (exact rfl))) | (apply s_ld_w tab_ok; (iterate 5 (exact rfl)); (first | exact patD_len _ | exact valD_len _)) | (apply s_assign; (iterate 4 (exact rfl))) | (apply s_len tab_ok; (iterate 5 (exact rfl))) | (apply s_lens str_ok; (iterate 4 (exact rfl)))
      | (apply s_idx tab_ok; (iterate 7 (exact rfl)); (first | exact patR_get (by assumption) | exact valR_get (by assumption) | exact row_map (by assumption) | assumption)) | (apply s_alloc tabZ_ok; (iterate 7 (exact rfl))) | (apply s_store tab_ok; (iterate 10 (exact rfl))) | (apply s_lss_t; (iterate 5 (exact rfl)); omega) | (apply s_lss_f; (iterate 5 (exact rfl)); omega)
      | (apply s_gtr_t; (iterate 5 (exact rfl)); omega) | (apply s_gtr_f; (iterate 5 (exact rfl)); omega) | (apply s_add64; (iterate 5 (exact rfl)); omega)
      | refine al_nil ?_ | refine q_then_n ?_ | refine q_blk_n ?_ | refine q_blk_r ?_ | refine q_blk_e ?_
      | refine q_blk_o rfl ?_ | refine q_then_e ?_ | refine aw_block ?_ | refine aw_exit ?_ | refine q_then_r ?_
      | refine aw_seq ?_ | refine aw_reg ?_ | refine aw_true rfl ?_ | refine aw_false rfl ?_ | refine aw_skip ?_
      | refine aw_ret ?_)
      exact q_ret rfl ⟨_, rfl, _, rfl, fun _ => ⟨h3, hs⟩⟩
    · repeat' (first
      | refine s_op rfl ?_ | (apply s_move; (iterate 4 (exact rfl))) | (apply s_fa_p tab_ok; (iterate 5 (exact rfl))) | (apply s_fa_f tab_ok; (iterate 6 (exact rfl))) | (apply s_ld_p tab_ok; (iterate 7 (exact rfl)))
      | (apply s_ld_f tab_ok; (iterate 6 (exact rfl))) | (apply s_ld_w tab_ok; (iterate 5 (exact rfl)); (first | exact patD_len _ | exact valD_len _)) | (apply s_assign; (iterate 4 (exact rfl))) | (apply s_len tab_ok; (iterate 5 (exact rfl))) | (apply s_lens str_ok; (iterate 4 (exact rfl)))
      | (apply s_idx tab_ok; (iterate 7 (exact rfl)); (first | exact patR_get (by assumption) | exact valR_get (by assumption) | exact row_map (by assumption) | assumption)) | (apply s_alloc tabZ_ok; (iterate 7 (exact rfl))) | (apply s_store tab_ok; (iterate 10 (exact rfl))) | (apply s_lss_t; (iterate 5 (exact rfl)); omega) | (apply s_lss_f; (iterate 5 (exact rfl)); omega)
      | (apply s_gtr_t; (iterate 5 (exact rfl)); omega) | (apply s_gtr_f; (iterate 5 (exact rfl)); omega) | (apply s_add64; (iterate 5 (exact rfl)); omega)
      | refine al_nil ?_ | refine q_then_n ?_ | refine q_blk_n ?_ | refine q_blk_r ?_ | refine q_blk_e ?_
      | refine q_blk_o rfl ?_ | refine q_then_e ?_ | refine aw_block ?_ | refine aw_exit ?_ | refine q_then_r ?_
      | refine aw_seq ?_ | refine aw_reg ?_ | refine aw_true rfl ?_ | refine aw_false rfl ?_ | refine aw_skip ?_
      | refine aw_ret ?_)
      exact q_ret rfl ⟨_, rfl, _, rfl, by simp⟩

/-- All that was there is there. -/
def Ext (σ0 σ : List AObj) : Prop := ∀ (k : Nat) (o : AObj), σ0[k]? = some o → σ[k]? = some o
theorem Ext.refl (σ : List AObj) : Ext σ σ := fun _ _ h => h
theorem Ext.fresh {σ0 σ σ' : List AObj} {l : Nat} {o : AObj} (h : Ext σ0 σ) (hc : Fresh σ l o σ') : Ext σ0 σ' ∧ ∀ k o, σ0[k]? = some o → k ≠ l :=
  ⟨fun k o e => hc.keep (h k o e), fun k o e => hc.ne (h k o e)⟩
theorem Ext.chg {σ0 σ σ' : List AObj} {l : Nat} {o : AObj} (h : Ext σ0 σ) (hc : Chg σ l o σ') (hl : ∀ k o, σ0[k]? = some o → k ≠ l) : Ext σ0 σ' :=
  fun k o e => hc.keep (hl k o e) (h k o e)

theorem opens_cons {x : AHandle} {l : List AHandle} {i : Nat} : opens (x :: l) i = if x.shut then opens l (i + 1) else i :: opens l (i + 1) := rfl

set_option maxRecDepth 100000 in
set_option maxHeartbeats 2000000 in
theorem alike_c {σ : List AObj} {loc n : Nat} {q : RL} {W : AW} (hA0 : σ[loc]? = some (wo W)) (hR0 : RefAt σ q W) (ok : W.Ok n) (hn : n ≤ 100000) :
    Runs Try.prog 19 [.ptr loc 0 0, .ptr q.p 0 0] σ (fun v σ' => v = .d (.v (.bool true)) ∧ Ext σ σ') := by
  obtain ⟨qok, F, t, vf, vh, vt, e, ht, hF0, hP, hF, hH, hT⟩ := hR0
  unfold refRow at hP
  have lh : (W.handles.map hD).length = W.handles.length := by simp
  have lf : (W.files.map fileD).length = W.files.length := by simp
  have lt : (W.trace.map opD).length = W.trace.length := by simp
  have hhn := ok.handles
  have hto := opens_len W.handles 0
  have c1 := handles_w hA0 ok hn
  have sf : RunsP Try.prog 25 [filesD W.files, filesD W.files] (fun v => v = .v (.bool true)) := by
    have := sameFiles_c W.files W.files (Nat.le_trans ok.few (by omega)); simpa using this
  have st : RunsP Try.prog 27 [traceD W.trace, traceD W.trace] (fun v => v = .v (.bool true)) := by
    have := sameTrace_c W.trace W.trace (Nat.le_trans ok.trace (by omega)); simpa using this
  have cf := fun σ loc hA => files_w (σ := σ) (loc := loc) hA ok
  have ct := fun σ loc hA => trace_w (σ := σ) (loc := loc) hA ok hn
  obtain ⟨O, hO⟩ : ∃ O, opens W.handles 0 = O := ⟨_, rfl⟩
  rw [hO] at c1 hto
  have lo : (O.map natD).length = O.length := by simp
  have hE0 := Ext.refl σ
  refine enter 61 Try.func19 rfl (by kernel_rfl) rfl rfl rfl ?_
  repeat' (first
      | refine s_op rfl ?_ | (apply s_skip; exact rfl) | (apply s_move; (iterate 4 (exact rfl))) | (apply s_fa_p tab_ok; (iterate 5 (exact rfl))) | (apply s_fa_f tab_ok; (iterate 6 (exact rfl)))
      | (apply s_ld_p tab_ok; (iterate 7 (exact rfl))) | (apply s_ld_f tab_ok; (iterate 6 (exact rfl))) | (apply s_ld_w tab_ok; (iterate 5 (exact rfl)); (first | exact patD_len _ | exact valD_len _)) | (apply s_assign; (iterate 4 (exact rfl))) | (apply s_pick_t; (iterate 5 (exact rfl)))
      | (apply s_pick_f; (iterate 5 (exact rfl))) | (apply s_len tab_ok; (iterate 5 (exact rfl))) | (apply s_lens str_ok; (iterate 4 (exact rfl))) | (apply s_idx tab_ok; (iterate 7 (exact rfl)); (first | exact patR_get (by assumption) | exact valR_get (by assumption) | exact row_map (by assumption) | assumption)) | (apply s_nilc; (iterate 5 (exact rfl)))
      | (apply s_alloc tabZ_ok; (iterate 7 (exact rfl))) | (apply s_store tab_ok; (iterate 10 (exact rfl))) | (apply s_eql_t; (iterate 5 (exact rfl)); omega) | (apply s_eql_f; (iterate 5 (exact rfl)); omega) | (apply s_neq_t; (iterate 5 (exact rfl)); omega)
      | (apply s_neq_f; (iterate 5 (exact rfl)); omega) | (apply s_lss_t; (iterate 5 (exact rfl)); omega) | (apply s_lss_f; (iterate 5 (exact rfl)); omega) | (apply s_geq_t; (iterate 5 (exact rfl)); omega) | (apply s_geq_f; (iterate 5 (exact rfl)); omega)
      | (apply s_add64; (iterate 5 (exact rfl)); omega)
      | (apply s_ldF tab_ok; (iterate 5 (exact rfl)); exact hP; exact rfl)
      | (apply s_callS; (iterate 6 (exact rfl)); first | (exact c1; rintro _ σ ⟨rfl, rfl⟩))
      | refine al_nil ?_ | refine q_then_n ?_ | refine q_blk_n ?_ | refine q_blk_r ?_ | refine q_blk_e ?_
      | refine q_blk_o rfl ?_ | refine q_then_e ?_ | refine aw_block ?_ | refine aw_exit ?_ | refine q_then_r ?_
      | refine aw_seq ?_ | refine aw_reg ?_ | refine aw_true rfl ?_ | refine aw_false rfl ?_ | refine aw_skip ?_
      | refine aw_ret ?_ | refine al_fork ?_ ?_ | refine al_fork3 ?_ ?_ ?_
      | refine aw_draws (id := 11) (trO [0, 1, 2, 3, 4, 5, 7, 8, 9] (.fork 6 (trO [10, 11, 12, 13, 14, 16, 17, 18] (.fork 15 (trO [19, 20, 21, 22] .nil) 19 (trO [15, 20, 21, 22] .nil))) 10 (trO [6, 11, 12, 13, 14, 16, 17, 18] (.fork 15 (trO [19, 20, 21, 22] .nil) 19 (trO [15, 20, 21, 22] .nil))))) [6, 10, 11, 15, 19, 20] [6, 15] mixed_ok (by kernel_rfl) ?_)
  refine w_loop [0, 1, 5, 6, 14, 15, 16] (fun n' vs σ2 => ∃ i m : Nat, vs = [.ptr loc 0 0, .ptr q.p 0 0, .d (natsD O), .d (.v (.int .i64 (m : Int))), .own q.h vh 2 0 W.handles.length, .d (.v (.int .i64 (W.handles.length : Int))), .d (.v (.int .i64 (i : Int)))] ∧ Ext σ σ2 ∧ i ≤ W.handles.length ∧ O.drop m = opens (W.handles.drop i) i ∧ m ≤ O.length ∧ n' = W.handles.length - i) rfl ⟨0, 0, rfl, hE0, by omega, hO.symm, by omega, rfl⟩ ?_
  rintro n' vs σ2 ⟨i, m, rfl, hE, hi, hd, hm, rfl⟩ fr hfr
  cases hfr
  have hA := hE _ _ hA0
  replace hP := hE _ _ hP
  replace hF := hE _ _ hF
  replace hH := hE _ _ hH
  replace hT := hE _ _ hT
  by_cases hlt : i < W.handles.length
  · obtain ⟨y, hy⟩ : ∃ y, W.handles[i]? = some y := ⟨_, List.getElem?_eq_getElem hlt⟩
    have hdr : W.handles.drop i = y :: W.handles.drop (i + 1) := by
      rw [List.drop_eq_getElem_cons hlt]
      congr 1
      rw [List.getElem?_eq_getElem hlt] at hy
      injection hy
    rw [hdr, opens_cons] at hd
    have hyr := map_get (f := hD) hy
    cases hs : y.shut
    · rw [hs] at hd
      simp only [Bool.false_eq_true, if_false] at hd
      rw [hD_open hs] at hyr
      have hml : m < O.length := by
        apply Decidable.byContradiction
        intro h
        rw [List.drop_eq_nil_of_le (by omega)] at hd; cases hd
      have hOm : O[m]? = some i := by
        have := congrArg (·[0]?) hd
        simpa [List.getElem?_drop] using this
      have hOr := map_get (f := natD) hOm
      have hd2 : O.drop (m + 1) = opens (W.handles.drop (i + 1)) (i + 1) := by
        have := congrArg List.tail hd
        simpa [List.tail_drop] using this
      repeat' (first
      | refine s_op rfl ?_ | (apply s_skip; exact rfl) | (apply s_move; (iterate 4 (exact rfl))) | (apply s_fa_p tab_ok; (iterate 5 (exact rfl))) | (apply s_fa_f tab_ok; (iterate 6 (exact rfl)))
      | (apply s_ld_p tab_ok; (iterate 7 (exact rfl))) | (apply s_ld_f tab_ok; (iterate 6 (exact rfl))) | (apply s_ld_w tab_ok; (iterate 5 (exact rfl)); (first | exact patD_len _ | exact valD_len _)) | (apply s_assign; (iterate 4 (exact rfl))) | (apply s_pick_t; (iterate 5 (exact rfl)))
      | (apply s_pick_f; (iterate 5 (exact rfl))) | (apply s_len tab_ok; (iterate 5 (exact rfl))) | (apply s_lens str_ok; (iterate 4 (exact rfl))) | (apply s_idx tab_ok; (iterate 7 (exact rfl)); (first | exact patR_get (by assumption) | exact valR_get (by assumption) | exact row_map (by assumption) | assumption)) | (apply s_nilc; (iterate 5 (exact rfl)))
      | (apply s_alloc tabZ_ok; (iterate 7 (exact rfl))) | (apply s_store tab_ok; (iterate 10 (exact rfl))) | (apply s_eql_t; (iterate 5 (exact rfl)); omega) | (apply s_eql_f; (iterate 5 (exact rfl)); omega) | (apply s_neq_t; (iterate 5 (exact rfl)); omega)
      | (apply s_neq_f; (iterate 5 (exact rfl)); omega) | (apply s_lss_t; (iterate 5 (exact rfl)); omega) | (apply s_lss_f; (iterate 5 (exact rfl)); omega) | (apply s_geq_t; (iterate 5 (exact rfl)); omega) | (apply s_geq_f; (iterate 5 (exact rfl)); omega)
      | (apply s_idxO _ tab_ok; (iterate 7 (exact rfl)); exact hH; exact ⟨by omega, rfl⟩)
      | (apply s_ldA i 0 tab_ok; (iterate 5 (exact rfl)); exact hH; exact hyr; omega; exact rfl)
      | (apply s_allocF tabZ_ok; (iterate 6 (exact rfl)); intro locX σ hc; have hX := hc.at'; have nX := (hE.fresh hc).2; replace hE := (hE.fresh hc).1; replace hH := hc.keep hH; clear hc)
      | (apply s_storeF tab_ok; (iterate 7 (exact rfl)); exact hX; (iterate 2 (exact rfl)); intro σ hc; replace hX := hc.at'; replace hE := hE.chg hc nX; clear hc)
      | (apply s_ldF tab_ok; (iterate 5 (exact rfl)); exact hX; exact rfl)
      | (apply s_addV ((m + 1 : Nat) : Int); (iterate 5 (exact rfl)); omega)
      | (apply s_addV ((i + 1 : Nat) : Int); (iterate 5 (exact rfl)); omega)
      | refine al_nil ?_ | refine q_then_n ?_ | refine q_blk_n ?_ | refine q_blk_r ?_ | refine q_blk_e ?_
      | refine q_blk_o rfl ?_ | refine q_then_e ?_ | refine aw_block ?_ | refine aw_exit ?_ | refine q_then_r ?_
      | refine aw_seq ?_ | refine aw_reg ?_ | refine aw_true rfl ?_ | refine aw_false rfl ?_ | refine aw_skip ?_
      | refine aw_ret ?_ | refine al_fork ?_ ?_ | refine al_fork3 ?_ ?_ ?_
      | refine aw_draws (id := 11) (trO [0, 1, 2, 3, 4, 5, 7, 8, 9] (.fork 6 (trO [10, 11, 12, 13, 14, 16, 17, 18] (.fork 15 (trO [19, 20, 21, 22] .nil) 19 (trO [15, 20, 21, 22] .nil))) 10 (trO [6, 11, 12, 13, 14, 16, 17, 18] (.fork 15 (trO [19, 20, 21, 22] .nil) 19 (trO [15, 20, 21, 22] .nil))))) [6, 10, 11, 15, 19, 20] [6, 15] mixed_ok (by kernel_rfl) ?_)
      exact ⟨_, _, rfl, by omega, i + 1, m + 1, rfl, hE, by omega, hd2, by omega, rfl⟩
    · rw [hs] at hd
      simp only [if_true] at hd
      simp only [hD, hs, if_true] at hyr
      repeat' (first
      | refine s_op rfl ?_ | (apply s_skip; exact rfl) | (apply s_move; (iterate 4 (exact rfl))) | (apply s_fa_p tab_ok; (iterate 5 (exact rfl))) | (apply s_fa_f tab_ok; (iterate 6 (exact rfl)))
      | (apply s_ld_p tab_ok; (iterate 7 (exact rfl))) | (apply s_ld_f tab_ok; (iterate 6 (exact rfl))) | (apply s_ld_w tab_ok; (iterate 5 (exact rfl)); (first | exact patD_len _ | exact valD_len _)) | (apply s_assign; (iterate 4 (exact rfl))) | (apply s_pick_t; (iterate 5 (exact rfl)))
      | (apply s_pick_f; (iterate 5 (exact rfl))) | (apply s_len tab_ok; (iterate 5 (exact rfl))) | (apply s_lens str_ok; (iterate 4 (exact rfl))) | (apply s_idx tab_ok; (iterate 7 (exact rfl)); (first | exact patR_get (by assumption) | exact valR_get (by assumption) | exact row_map (by assumption) | assumption)) | (apply s_nilc; (iterate 5 (exact rfl)))
      | (apply s_alloc tabZ_ok; (iterate 7 (exact rfl))) | (apply s_store tab_ok; (iterate 10 (exact rfl))) | (apply s_eql_t; (iterate 5 (exact rfl)); omega) | (apply s_eql_f; (iterate 5 (exact rfl)); omega) | (apply s_neq_t; (iterate 5 (exact rfl)); omega)
      | (apply s_neq_f; (iterate 5 (exact rfl)); omega) | (apply s_lss_t; (iterate 5 (exact rfl)); omega) | (apply s_lss_f; (iterate 5 (exact rfl)); omega) | (apply s_geq_t; (iterate 5 (exact rfl)); omega) | (apply s_geq_f; (iterate 5 (exact rfl)); omega)
      | (apply s_idxO _ tab_ok; (iterate 7 (exact rfl)); exact hH; exact ⟨by omega, rfl⟩)
      | (apply s_ldA i 0 tab_ok; (iterate 5 (exact rfl)); exact hH; exact hyr; omega; exact rfl)
      | (apply s_allocF tabZ_ok; (iterate 6 (exact rfl)); intro locX σ hc; have hX := hc.at'; have nX := (hE.fresh hc).2; replace hE := (hE.fresh hc).1; replace hH := hc.keep hH; clear hc)
      | (apply s_storeF tab_ok; (iterate 7 (exact rfl)); exact hX; (iterate 2 (exact rfl)); intro σ hc; replace hX := hc.at'; replace hE := hE.chg hc nX; clear hc)
      | (apply s_ldF tab_ok; (iterate 5 (exact rfl)); exact hX; exact rfl)
      | (apply s_addV ((i + 1 : Nat) : Int); (iterate 5 (exact rfl)); omega)
      | refine al_nil ?_ | refine q_then_n ?_ | refine q_blk_n ?_ | refine q_blk_r ?_ | refine q_blk_e ?_
      | refine q_blk_o rfl ?_ | refine q_then_e ?_ | refine aw_block ?_ | refine aw_exit ?_ | refine q_then_r ?_
      | refine aw_seq ?_ | refine aw_reg ?_ | refine aw_true rfl ?_ | refine aw_false rfl ?_ | refine aw_skip ?_
      | refine aw_ret ?_ | refine al_fork ?_ ?_ | refine al_fork3 ?_ ?_ ?_
      | refine aw_draws (id := 11) (trO [0, 1, 2, 3, 4, 5, 7, 8, 9] (.fork 6 (trO [10, 11, 12, 13, 14, 16, 17, 18] (.fork 15 (trO [19, 20, 21, 22] .nil) 19 (trO [15, 20, 21, 22] .nil))) 10 (trO [6, 11, 12, 13, 14, 16, 17, 18] (.fork 15 (trO [19, 20, 21, 22] .nil) 19 (trO [15, 20, 21, 22] .nil))))) [6, 10, 11, 15, 19, 20] [6, 15] mixed_ok (by kernel_rfl) ?_)
      exact ⟨_, _, rfl, by omega, i + 1, m, rfl, hE, by omega, hd, hm, rfl⟩
  · have hml : m = O.length := by
      have hn0 : W.handles.drop i = [] := List.drop_eq_nil_of_le (by omega)
      rw [hn0] at hd
      have := List.drop_eq_nil_iff.1 (show O.drop m = [] from hd)
      omega
    subst hml
    repeat' (first
      | refine s_op rfl ?_ | (apply s_skip; exact rfl) | (apply s_move; (iterate 4 (exact rfl))) | (apply s_fa_p tab_ok; (iterate 5 (exact rfl))) | (apply s_fa_f tab_ok; (iterate 6 (exact rfl)))
      | (apply s_ld_p tab_ok; (iterate 7 (exact rfl))) | (apply s_ld_f tab_ok; (iterate 6 (exact rfl))) | (apply s_ld_w tab_ok; (iterate 5 (exact rfl)); (first | exact patD_len _ | exact valD_len _)) | (apply s_assign; (iterate 4 (exact rfl))) | (apply s_pick_t; (iterate 5 (exact rfl)))
      | (apply s_pick_f; (iterate 5 (exact rfl))) | (apply s_len tab_ok; (iterate 5 (exact rfl))) | (apply s_lens str_ok; (iterate 4 (exact rfl))) | (apply s_idx tab_ok; (iterate 7 (exact rfl)); (first | exact patR_get (by assumption) | exact valR_get (by assumption) | exact row_map (by assumption) | assumption)) | (apply s_nilc; (iterate 5 (exact rfl)))
      | (apply s_alloc tabZ_ok; (iterate 7 (exact rfl))) | (apply s_store tab_ok; (iterate 10 (exact rfl))) | (apply s_eql_t; (iterate 5 (exact rfl)); omega) | (apply s_eql_f; (iterate 5 (exact rfl)); omega) | (apply s_neq_t; (iterate 5 (exact rfl)); omega)
      | (apply s_neq_f; (iterate 5 (exact rfl)); omega) | (apply s_lss_t; (iterate 5 (exact rfl)); omega) | (apply s_lss_f; (iterate 5 (exact rfl)); omega) | (apply s_geq_t; (iterate 5 (exact rfl)); omega) | (apply s_geq_f; (iterate 5 (exact rfl)); omega)
      | (apply s_add64; (iterate 5 (exact rfl)); omega)
      | (apply s_ldF tab_ok; (iterate 5 (exact rfl)); exact hP; exact rfl)
      | (apply s_callB; (iterate 6 (exact rfl)); exact viewL_d (viewL_own hF lf.symm viewL_nil); exact sf; exact (fun v h => ⟨_, h⟩); rintro _ rfl)
      | (apply s_callB; (iterate 6 (exact rfl)); exact viewL_d (viewL_own hT lt.symm viewL_nil); exact st; exact (fun v h => ⟨_, h⟩); rintro _ rfl)
      | (apply s_callS; (iterate 6 (exact rfl)); first | (exact cf _ _ hA; rintro _ σ ⟨rfl, rfl⟩) | (exact ct _ _ hA; rintro _ σ ⟨rfl, rfl⟩))
      | refine al_nil ?_ | refine q_then_n ?_ | refine q_blk_n ?_ | refine q_blk_r ?_ | refine q_blk_e ?_
      | refine q_blk_o rfl ?_ | refine q_then_e ?_ | refine aw_block ?_ | refine aw_exit ?_ | refine q_then_r ?_
      | refine aw_seq ?_ | refine aw_reg ?_ | refine aw_true rfl ?_ | refine aw_false rfl ?_ | refine aw_skip ?_
      | refine aw_ret ?_ | refine al_fork ?_ ?_ | refine al_fork3 ?_ ?_ ?_
      | refine aw_draws (id := 11) (trO [0, 1, 2, 3, 4, 5, 7, 8, 9] (.fork 6 (trO [10, 11, 12, 13, 14, 16, 17, 18] (.fork 15 (trO [19, 20, 21, 22] .nil) 19 (trO [15, 20, 21, 22] .nil))) 10 (trO [6, 11, 12, 13, 14, 16, 17, 18] (.fork 15 (trO [19, 20, 21, 22] .nil) 19 (trO [15, 20, 21, 22] .nil))))) [6, 10, 11, 15, 19, 20] [6, 15] mixed_ok (by kernel_rfl) ?_)
    all_goals exact q_ret rfl ⟨rfl, hE⟩

set_option maxRecDepth 100000 in
set_option maxHeartbeats 4000000 in
theorem does_c {σ : List AObj} {loc n : Nat} {q : RL} {W : AW} (hA : σ[loc]? = some (wo W)) (hR : RefAt σ q W) (hq : ¬ q.has loc) (ok : W.Ok n) (hn : n ≤ 100000) (x : ADo) (hx : x.s.size ≤ 50000) :
    Runs Try.prog 18 [.ptr loc 0 0, .ptr q.p 0 0, .d (.agg (doD x))] σ (fun v σ' => v = .d (.v (.bool true)) ∧ σ'[loc]? = some (wo (doW W x)) ∧ RefAt σ' q (doW W x)) := by
  refine enter 145 Try.func18 rfl (by kernel_rfl) rfl rfl rfl ?_
-- DEF BOX: (apply s_boxF; (iterate 6 (exact rfl)); intro locX σ hc; have hX := hc.at'; have nAX := hc.ne hA; replace hA := hc.keep hA; have nqX := (hR.fresh hc).2; replace hR := (hR.fresh hc).1; clear hc)
-- DEF C1: (apply s_callS; (iterate 6 (exact rfl)); exact c1 _ hA; rintro _ σ ⟨rfl, hc⟩; replace hA := hc.at'; replace hX := hc.keep (Ne.symm nAX) hX; replace hR := hR.chg hc hq; clear hc)
-- DEF C2: (apply s_callS; (iterate 6 (exact rfl)); exact c2 _ hR; rintro _ σ ⟨rfl, hR, hO⟩; replace hA := hO _ _ hA hq; replace hX := hO _ _ hX nqX; clear hO)
  by_cases k0 : x.kind = 0
  · have e : doW W x = (W.open_ x.s).2 := by simp [doW, k0]
    rw [e]
    have c1 := fun σ hA => open_w (σ := σ) (loc := loc) x.s hA ok hn
    have c2 := fun σ hR => ropen_c (σ := σ) (q := q) hR x.s ok hn
    generalize (W.open_ x.s).2 = W2 at c1 c2
    generalize (W.open_ x.s).1.1 = a at c1 c2
    generalize (W.open_ x.s).1.2 = b at c1 c2
    cases b
    all_goals
      repeat' (first
      | refine s_op rfl ?_ | (apply s_skip; exact rfl) | (apply s_move; (iterate 4 (exact rfl))) | (apply s_fa_p tab_ok; (iterate 5 (exact rfl))) | (apply s_fa_f tab_ok; (iterate 6 (exact rfl)))
      | (apply s_ld_p tab_ok; (iterate 7 (exact rfl))) | (apply s_ld_f tab_ok; (iterate 6 (exact rfl))) | (apply s_ld_w tab_ok; (iterate 5 (exact rfl)); (first | exact patD_len _ | exact valD_len _)) | (apply s_assign; (iterate 4 (exact rfl))) | (apply s_pick_t; (iterate 5 (exact rfl)))
      | (apply s_pick_f; (iterate 5 (exact rfl))) | (apply s_ext; (iterate 5 (exact rfl))) | (apply s_box; (iterate 7 (exact rfl))) | (apply s_eql_t; (iterate 5 (exact rfl)); omega) | (apply s_eql_f; (iterate 5 (exact rfl)); omega)
      | (apply s_streq_t; (iterate 5 (exact rfl)); assumption) | (apply s_streq_f; (iterate 5 (exact rfl)); assumption) | (apply s_booleq bool_ok; (iterate 5 (exact rfl)))
      | (apply s_boxF; (iterate 6 (exact rfl)); intro locX σ hc; have hX := hc.at'; have nAX := hc.ne hA; replace hA := hc.keep hA; have nqX := (hR.fresh hc).2; replace hR := (hR.fresh hc).1; clear hc)
      | (apply s_ldF tab_ok; (iterate 5 (exact rfl)); exact hX; exact rfl)
      | (apply s_callS; (iterate 6 (exact rfl)); exact c1 _ hA; rintro _ σ ⟨rfl, hc⟩; replace hA := hc.at'; replace hX := hc.keep (Ne.symm nAX) hX; replace hR := hR.chg hc hq; clear hc)
      | (apply s_callS; (iterate 6 (exact rfl)); exact c2 _ hR; rintro _ σ ⟨rfl, hR, hO⟩; replace hA := hO _ _ hA hq; replace hX := hO _ _ hX nqX; clear hO)
      | refine al_nil ?_ | refine q_then_n ?_ | refine q_blk_n ?_ | refine q_blk_r ?_ | refine q_blk_e ?_
      | refine q_blk_o rfl ?_ | refine q_then_e ?_ | refine aw_block ?_ | refine aw_exit ?_ | refine q_then_r ?_
      | refine aw_seq ?_ | refine aw_reg ?_ | refine aw_true rfl ?_ | refine aw_false rfl ?_ | refine aw_skip ?_
      | refine aw_ret ?_ | refine al_fork ?_ ?_ | refine al_fork3 ?_ ?_ ?_
      | refine aw_draws (id := 19) (trO [0, 1, 2, 4, 5] (.fork 3 (trO [6, 7, 8, 9] .nil) 6 (trO [3, 7, 8, 9] .nil))) [3, 6, 7] [3, 7] mixed_ok (by kernel_rfl) ?_)
      exact q_ret rfl ⟨rfl, hA, hR⟩
  · by_cases k1 : x.kind = 1
    · have e : doW W x = (W.read x.h).2 := by simp [doW, k1]
      rw [e]
      have c1 := fun σ hA => read_w (σ := σ) (loc := loc) x.h hA ok hn
      have c2 := fun σ hR => rread_c (σ := σ) (q := q) hR x.h ok hn
      generalize (W.read x.h).2 = W2 at c1 c2
      generalize (W.read x.h).1.1 = a at c1 c2
      generalize (W.read x.h).1.2.1 = s at c1 c2
      generalize (W.read x.h).1.2.2 = er at c1 c2
      have hss : s = s := rfl
      repeat' (first
      | refine s_op rfl ?_ | (apply s_skip; exact rfl) | (apply s_move; (iterate 4 (exact rfl))) | (apply s_fa_p tab_ok; (iterate 5 (exact rfl))) | (apply s_fa_f tab_ok; (iterate 6 (exact rfl)))
      | (apply s_ld_p tab_ok; (iterate 7 (exact rfl))) | (apply s_ld_f tab_ok; (iterate 6 (exact rfl))) | (apply s_ld_w tab_ok; (iterate 5 (exact rfl)); (first | exact patD_len _ | exact valD_len _)) | (apply s_assign; (iterate 4 (exact rfl))) | (apply s_pick_t; (iterate 5 (exact rfl)))
      | (apply s_pick_f; (iterate 5 (exact rfl))) | (apply s_ext; (iterate 5 (exact rfl))) | (apply s_box; (iterate 7 (exact rfl))) | (apply s_eql_t; (iterate 5 (exact rfl)); omega) | (apply s_eql_f; (iterate 5 (exact rfl)); omega)
      | (apply s_streq_t; (iterate 5 (exact rfl)); assumption) | (apply s_streq_f; (iterate 5 (exact rfl)); assumption) | (apply s_booleq bool_ok; (iterate 5 (exact rfl)))
      | (apply s_boxF; (iterate 6 (exact rfl)); intro locX σ hc; have hX := hc.at'; have nAX := hc.ne hA; replace hA := hc.keep hA; have nqX := (hR.fresh hc).2; replace hR := (hR.fresh hc).1; clear hc)
      | (apply s_ldF tab_ok; (iterate 5 (exact rfl)); exact hX; exact rfl)
      | (apply s_callS; (iterate 6 (exact rfl)); exact c1 _ hA; rintro _ σ ⟨rfl, hc⟩; replace hA := hc.at'; replace hX := hc.keep (Ne.symm nAX) hX; replace hR := hR.chg hc hq; clear hc)
      | (apply s_callS; (iterate 6 (exact rfl)); exact c2 _ hR; rintro _ σ ⟨rfl, hR, hO⟩; replace hA := hO _ _ hA hq; replace hX := hO _ _ hX nqX; clear hO)
      | refine al_nil ?_ | refine q_then_n ?_ | refine q_blk_n ?_ | refine q_blk_r ?_ | refine q_blk_e ?_
      | refine q_blk_o rfl ?_ | refine q_then_e ?_ | refine aw_block ?_ | refine aw_exit ?_ | refine q_then_r ?_
      | refine aw_seq ?_ | refine aw_reg ?_ | refine aw_true rfl ?_ | refine aw_false rfl ?_ | refine aw_skip ?_
      | refine aw_ret ?_ | refine al_fork ?_ ?_ | refine al_fork3 ?_ ?_ ?_
      | refine aw_draws (id := 19) (trO [0, 1, 2, 4, 5] (.fork 3 (trO [6, 7, 8, 9] .nil) 6 (trO [3, 7, 8, 9] .nil))) [3, 6, 7] [3, 7] mixed_ok (by kernel_rfl) ?_)
      exact q_ret rfl ⟨rfl, hA, hR⟩
    · by_cases k2 : x.kind = 2
      · have e : doW W x = (W.write x.h x.s).2 := by simp [doW, k2]
        rw [e]
        have c1 := fun σ hA => write_w (σ := σ) (loc := loc) x.h x.s (by unfold maxLen; omega) hA ok hn
        have c2 := fun σ hR => rwrite_c (σ := σ) (q := q) hR x.h x.s (by omega) ok hn
        generalize (W.write x.h x.s).2 = W2 at c1 c2
        generalize (W.write x.h x.s).1.1 = b at c1 c2
        generalize (W.write x.h x.s).1.2 = a at c1 c2
        cases b
        all_goals
          repeat' (first
      | refine s_op rfl ?_ | (apply s_skip; exact rfl) | (apply s_move; (iterate 4 (exact rfl))) | (apply s_fa_p tab_ok; (iterate 5 (exact rfl))) | (apply s_fa_f tab_ok; (iterate 6 (exact rfl)))
      | (apply s_ld_p tab_ok; (iterate 7 (exact rfl))) | (apply s_ld_f tab_ok; (iterate 6 (exact rfl))) | (apply s_ld_w tab_ok; (iterate 5 (exact rfl)); (first | exact patD_len _ | exact valD_len _)) | (apply s_assign; (iterate 4 (exact rfl))) | (apply s_pick_t; (iterate 5 (exact rfl)))
      | (apply s_pick_f; (iterate 5 (exact rfl))) | (apply s_ext; (iterate 5 (exact rfl))) | (apply s_box; (iterate 7 (exact rfl))) | (apply s_eql_t; (iterate 5 (exact rfl)); omega) | (apply s_eql_f; (iterate 5 (exact rfl)); omega)
      | (apply s_streq_t; (iterate 5 (exact rfl)); assumption) | (apply s_streq_f; (iterate 5 (exact rfl)); assumption) | (apply s_booleq bool_ok; (iterate 5 (exact rfl)))
      | (apply s_boxF; (iterate 6 (exact rfl)); intro locX σ hc; have hX := hc.at'; have nAX := hc.ne hA; replace hA := hc.keep hA; have nqX := (hR.fresh hc).2; replace hR := (hR.fresh hc).1; clear hc)
      | (apply s_ldF tab_ok; (iterate 5 (exact rfl)); exact hX; exact rfl)
      | (apply s_callS; (iterate 6 (exact rfl)); exact c1 _ hA; rintro _ σ ⟨rfl, hc⟩; replace hA := hc.at'; replace hX := hc.keep (Ne.symm nAX) hX; replace hR := hR.chg hc hq; clear hc)
      | (apply s_callS; (iterate 6 (exact rfl)); exact c2 _ hR; rintro _ σ ⟨rfl, hR, hO⟩; replace hA := hO _ _ hA hq; replace hX := hO _ _ hX nqX; clear hO)
      | refine al_nil ?_ | refine q_then_n ?_ | refine q_blk_n ?_ | refine q_blk_r ?_ | refine q_blk_e ?_
      | refine q_blk_o rfl ?_ | refine q_then_e ?_ | refine aw_block ?_ | refine aw_exit ?_ | refine q_then_r ?_
      | refine aw_seq ?_ | refine aw_reg ?_ | refine aw_true rfl ?_ | refine aw_false rfl ?_ | refine aw_skip ?_
      | refine aw_ret ?_ | refine al_fork ?_ ?_ | refine al_fork3 ?_ ?_ ?_
      | refine aw_draws (id := 19) (trO [0, 1, 2, 4, 5] (.fork 3 (trO [6, 7, 8, 9] .nil) 6 (trO [3, 7, 8, 9] .nil))) [3, 6, 7] [3, 7] mixed_ok (by kernel_rfl) ?_)
          exact q_ret rfl ⟨rfl, hA, hR⟩
      · by_cases k3 : x.kind = 3
        · have e : doW W x = (W.close x.h).2 := by simp [doW, k3]
          rw [e]
          have c1 := fun σ hA => close_w (σ := σ) (loc := loc) x.h hA ok hn
          have c2 := fun σ hR => rclose_c (σ := σ) (q := q) (W := W) hR x.h (Nat.le_trans ok.trace hn)
          generalize (W.close x.h).2 = W2 at c1 c2
          generalize (W.close x.h).1.1 = b at c1 c2
          generalize (W.close x.h).1.2 = a at c1 c2
          cases b
          all_goals
            repeat' (first
      | refine s_op rfl ?_ | (apply s_skip; exact rfl) | (apply s_move; (iterate 4 (exact rfl))) | (apply s_fa_p tab_ok; (iterate 5 (exact rfl))) | (apply s_fa_f tab_ok; (iterate 6 (exact rfl)))
      | (apply s_ld_p tab_ok; (iterate 7 (exact rfl))) | (apply s_ld_f tab_ok; (iterate 6 (exact rfl))) | (apply s_ld_w tab_ok; (iterate 5 (exact rfl)); (first | exact patD_len _ | exact valD_len _)) | (apply s_assign; (iterate 4 (exact rfl))) | (apply s_pick_t; (iterate 5 (exact rfl)))
      | (apply s_pick_f; (iterate 5 (exact rfl))) | (apply s_ext; (iterate 5 (exact rfl))) | (apply s_box; (iterate 7 (exact rfl))) | (apply s_eql_t; (iterate 5 (exact rfl)); omega) | (apply s_eql_f; (iterate 5 (exact rfl)); omega)
      | (apply s_streq_t; (iterate 5 (exact rfl)); assumption) | (apply s_streq_f; (iterate 5 (exact rfl)); assumption) | (apply s_booleq bool_ok; (iterate 5 (exact rfl)))
      | (apply s_boxF; (iterate 6 (exact rfl)); intro locX σ hc; have hX := hc.at'; have nAX := hc.ne hA; replace hA := hc.keep hA; have nqX := (hR.fresh hc).2; replace hR := (hR.fresh hc).1; clear hc)
      | (apply s_ldF tab_ok; (iterate 5 (exact rfl)); exact hX; exact rfl)
      | (apply s_callS; (iterate 6 (exact rfl)); exact c1 _ hA; rintro _ σ ⟨rfl, hc⟩; replace hA := hc.at'; replace hX := hc.keep (Ne.symm nAX) hX; replace hR := hR.chg hc hq; clear hc)
      | (apply s_callS; (iterate 6 (exact rfl)); exact c2 _ hR; rintro _ σ ⟨rfl, hR, hO⟩; replace hA := hO _ _ hA hq; replace hX := hO _ _ hX nqX; clear hO)
      | refine al_nil ?_ | refine q_then_n ?_ | refine q_blk_n ?_ | refine q_blk_r ?_ | refine q_blk_e ?_
      | refine q_blk_o rfl ?_ | refine q_then_e ?_ | refine aw_block ?_ | refine aw_exit ?_ | refine q_then_r ?_
      | refine aw_seq ?_ | refine aw_reg ?_ | refine aw_true rfl ?_ | refine aw_false rfl ?_ | refine aw_skip ?_
      | refine aw_ret ?_ | refine al_fork ?_ ?_ | refine al_fork3 ?_ ?_ ?_
      | refine aw_draws (id := 19) (trO [0, 1, 2, 4, 5] (.fork 3 (trO [6, 7, 8, 9] .nil) 6 (trO [3, 7, 8, 9] .nil))) [3, 6, 7] [3, 7] mixed_ok (by kernel_rfl) ?_)
            exact q_ret rfl ⟨rfl, hA, hR⟩
        · by_cases k4 : x.kind = 4
          · have e : doW W x = (W.drop x.h).2 := by simp [doW, k4]
            rw [e]
            have c1 := fun σ hA => drop_w (σ := σ) (loc := loc) x.h hA ok hn
            have c2 := fun σ hR => rdrop_c (σ := σ) (q := q) (W := W) hR x.h
            generalize (W.drop x.h).2 = W2 at c1 c2
            generalize (W.drop x.h).1 = a at c1 c2
            repeat' (first
      | refine s_op rfl ?_ | (apply s_skip; exact rfl) | (apply s_move; (iterate 4 (exact rfl))) | (apply s_fa_p tab_ok; (iterate 5 (exact rfl))) | (apply s_fa_f tab_ok; (iterate 6 (exact rfl)))
      | (apply s_ld_p tab_ok; (iterate 7 (exact rfl))) | (apply s_ld_f tab_ok; (iterate 6 (exact rfl))) | (apply s_ld_w tab_ok; (iterate 5 (exact rfl)); (first | exact patD_len _ | exact valD_len _)) | (apply s_assign; (iterate 4 (exact rfl))) | (apply s_pick_t; (iterate 5 (exact rfl)))
      | (apply s_pick_f; (iterate 5 (exact rfl))) | (apply s_ext; (iterate 5 (exact rfl))) | (apply s_box; (iterate 7 (exact rfl))) | (apply s_eql_t; (iterate 5 (exact rfl)); omega) | (apply s_eql_f; (iterate 5 (exact rfl)); omega)
      | (apply s_streq_t; (iterate 5 (exact rfl)); assumption) | (apply s_streq_f; (iterate 5 (exact rfl)); assumption) | (apply s_booleq bool_ok; (iterate 5 (exact rfl)))
      | (apply s_boxF; (iterate 6 (exact rfl)); intro locX σ hc; have hX := hc.at'; have nAX := hc.ne hA; replace hA := hc.keep hA; have nqX := (hR.fresh hc).2; replace hR := (hR.fresh hc).1; clear hc)
      | (apply s_ldF tab_ok; (iterate 5 (exact rfl)); exact hX; exact rfl)
      | (apply s_callS; (iterate 6 (exact rfl)); exact c1 _ hA; rintro _ σ ⟨rfl, hc⟩; replace hA := hc.at'; replace hX := hc.keep (Ne.symm nAX) hX; replace hR := hR.chg hc hq; clear hc)
      | (apply s_callS; (iterate 6 (exact rfl)); exact c2 _ hR; rintro _ σ ⟨rfl, hR, hO⟩; replace hA := hO _ _ hA hq; replace hX := hO _ _ hX nqX; clear hO)
      | refine al_nil ?_ | refine q_then_n ?_ | refine q_blk_n ?_ | refine q_blk_r ?_ | refine q_blk_e ?_
      | refine q_blk_o rfl ?_ | refine q_then_e ?_ | refine aw_block ?_ | refine aw_exit ?_ | refine q_then_r ?_
      | refine aw_seq ?_ | refine aw_reg ?_ | refine aw_true rfl ?_ | refine aw_false rfl ?_ | refine aw_skip ?_
      | refine aw_ret ?_ | refine al_fork ?_ ?_ | refine al_fork3 ?_ ?_ ?_
      | refine aw_draws (id := 19) (trO [0, 1, 2, 4, 5] (.fork 3 (trO [6, 7, 8, 9] .nil) 6 (trO [3, 7, 8, 9] .nil))) [3, 6, 7] [3, 7] mixed_ok (by kernel_rfl) ?_)
            all_goals exact q_ret rfl ⟨rfl, hA, hR⟩
          · have e : doW W x = W := by simp [doW, k0, k1, k2, k3, k4]
            rw [e]
            repeat' (first
      | refine s_op rfl ?_ | (apply s_skip; exact rfl) | (apply s_move; (iterate 4 (exact rfl))) | (apply s_fa_p tab_ok; (iterate 5 (exact rfl))) | (apply s_fa_f tab_ok; (iterate 6 (exact rfl)))
      | (apply s_ld_p tab_ok; (iterate 7 (exact rfl))) | (apply s_ld_f tab_ok; (iterate 6 (exact rfl))) | (apply s_ld_w tab_ok; (iterate 5 (exact rfl)); (first | exact patD_len _ | exact valD_len _)) | (apply s_assign; (iterate 4 (exact rfl))) | (apply s_pick_t; (iterate 5 (exact rfl)))
      | (apply s_pick_f; (iterate 5 (exact rfl))) | (apply s_ext; (iterate 5 (exact rfl))) | (apply s_box; (iterate 7 (exact rfl))) | (apply s_eql_t; (iterate 5 (exact rfl)); omega) | (apply s_eql_f; (iterate 5 (exact rfl)); omega)
      | (apply s_streq_t; (iterate 5 (exact rfl)); assumption) | (apply s_streq_f; (iterate 5 (exact rfl)); assumption) | (apply s_booleq bool_ok; (iterate 5 (exact rfl)))
      | (apply s_boxF; (iterate 6 (exact rfl)); intro locX σ hc; have hX := hc.at'; have nAX := hc.ne hA; replace hA := hc.keep hA; have nqX := (hR.fresh hc).2; replace hR := (hR.fresh hc).1; clear hc)
      | (apply s_ldF tab_ok; (iterate 5 (exact rfl)); exact hX; exact rfl)
      | refine al_nil ?_ | refine q_then_n ?_ | refine q_blk_n ?_ | refine q_blk_r ?_ | refine q_blk_e ?_
      | refine q_blk_o rfl ?_ | refine q_then_e ?_ | refine aw_block ?_ | refine aw_exit ?_ | refine q_then_r ?_
      | refine aw_seq ?_ | refine aw_reg ?_ | refine aw_true rfl ?_ | refine aw_false rfl ?_ | refine aw_skip ?_
      | refine aw_ret ?_ | refine al_fork ?_ ?_ | refine al_fork3 ?_ ?_ ?_
      | refine aw_draws (id := 19) (trO [0, 1, 2, 4, 5] (.fork 3 (trO [6, 7, 8, 9] .nil) 6 (trO [3, 7, 8, 9] .nil))) [3, 6, 7] [3, 7] mixed_ok (by kernel_rfl) ?_)
            exact q_ret rfl ⟨rfl, hA, hR⟩
end Go.Proofs.Ytlpgekodoiioaaa
