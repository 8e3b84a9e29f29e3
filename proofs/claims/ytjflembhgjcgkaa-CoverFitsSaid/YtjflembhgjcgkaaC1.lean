/- Open, Fits, some, Apart: of the document. -/
import Derived.Test.YtjflembhgjcgkaaTab
import Derived.Test.YtjflembhgjcgkaaM1
set_option linter.unusedSimpArgs false
set_option linter.unusedVariables false
namespace Go.Proofs.Ytjflembhgjcgkaa
open Go.RowKit

set_option maxRecDepth 100000 in
theorem open_c (p : Pat) : RunsP Try.prog 75 [.agg (patD p)] (fun v => v = .v (.bool (openB p))) := by
  obtain ⟨k, n, i, s, a, b, c, l⟩ := p
  refine enterP 11 Try.func75 rfl (by kernel_rfl) rfl rfl rfl ?_
  by_cases h1 : k = 1
  · repeat' (first
      | refine s_op rfl ?_ | (apply s_skip; exact rfl) | (apply s_move; (iterate 4 (exact rfl))) | (apply s_fa_p tab_ok; (iterate 5 (exact rfl))) | (apply s_fa_f tab_ok; (iterate 6 (exact rfl)))
      | (apply s_ld_p tab_ok; (iterate 7 (exact rfl))) | (apply s_ld_f tab_ok; (iterate 6 (exact rfl))) | (apply s_ld_w tab_ok; (iterate 5 (exact rfl)); (first | exact patD_len _ | exact valD_len _)) | (apply s_assign; (iterate 4 (exact rfl))) | (apply s_pick_t; (iterate 5 (exact rfl)))
      | (apply s_pick_f; (iterate 5 (exact rfl))) | (apply s_box; (iterate 7 (exact rfl))) | (apply s_eql_t; (iterate 5 (exact rfl)); omega) | (apply s_eql_f; (iterate 5 (exact rfl)); omega)
      | refine al_nil ?_ | refine q_then_n ?_ | refine q_then_r ?_ | refine aw_seq ?_ | refine aw_reg ?_
      | refine aw_ret ?_)
    exact q_ret rfl ⟨_, rfl, by simp [openB, Pat.kind, h1]⟩
  · by_cases h2 : k = 2
    · repeat' (first
      | refine s_op rfl ?_ | (apply s_skip; exact rfl) | (apply s_move; (iterate 4 (exact rfl))) | (apply s_fa_p tab_ok; (iterate 5 (exact rfl))) | (apply s_fa_f tab_ok; (iterate 6 (exact rfl)))
      | (apply s_ld_p tab_ok; (iterate 7 (exact rfl))) | (apply s_ld_f tab_ok; (iterate 6 (exact rfl))) | (apply s_ld_w tab_ok; (iterate 5 (exact rfl)); (first | exact patD_len _ | exact valD_len _)) | (apply s_assign; (iterate 4 (exact rfl))) | (apply s_pick_t; (iterate 5 (exact rfl)))
      | (apply s_pick_f; (iterate 5 (exact rfl))) | (apply s_box; (iterate 7 (exact rfl))) | (apply s_eql_t; (iterate 5 (exact rfl)); omega) | (apply s_eql_f; (iterate 5 (exact rfl)); omega)
      | refine al_nil ?_ | refine q_then_n ?_ | refine q_then_r ?_ | refine aw_seq ?_ | refine aw_reg ?_
      | refine aw_ret ?_)
      exact q_ret rfl ⟨_, rfl, by simp [openB, Pat.kind, h2]⟩
    · repeat' (first
      | refine s_op rfl ?_ | (apply s_skip; exact rfl) | (apply s_move; (iterate 4 (exact rfl))) | (apply s_fa_p tab_ok; (iterate 5 (exact rfl))) | (apply s_fa_f tab_ok; (iterate 6 (exact rfl)))
      | (apply s_ld_p tab_ok; (iterate 7 (exact rfl))) | (apply s_ld_f tab_ok; (iterate 6 (exact rfl))) | (apply s_ld_w tab_ok; (iterate 5 (exact rfl)); (first | exact patD_len _ | exact valD_len _)) | (apply s_assign; (iterate 4 (exact rfl))) | (apply s_pick_t; (iterate 5 (exact rfl)))
      | (apply s_pick_f; (iterate 5 (exact rfl))) | (apply s_box; (iterate 7 (exact rfl))) | (apply s_eql_t; (iterate 5 (exact rfl)); omega) | (apply s_eql_f; (iterate 5 (exact rfl)); omega)
      | refine al_nil ?_ | refine q_then_n ?_ | refine q_then_r ?_ | refine aw_seq ?_ | refine aw_reg ?_
      | refine aw_ret ?_)
      exact q_ret rfl ⟨_, rfl, by simp [openB, Pat.kind, h1, h2]⟩

theorem rec_pat {motive : Pat → Prop} (step : ∀ k n i s a b c l, (∀ p ∈ l, motive p) → motive (.mk k n i s a b c l)) : ∀ p, motive p := by
  intro p
  refine Pat.rec (motive_1 := motive) (motive_2 := fun l => ∀ p ∈ l, motive p) ?_ ?_ ?_ p
  · exact fun k n i s a b c l ih => step k n i s a b c l ih
  · exact fun p h => by cases h
  · intro p l h1 h2 q hq
    rcases List.mem_cons.1 hq with rfl | hq
    · exact h1
    · exact h2 q hq

set_option maxRecDepth 100000 in
theorem some_c (m : Nat) (hm : m ≤ 9223372036854775807) : ∀ p : Pat, p.small m → RunsP Try.prog 79 [.agg (patD p)] (fun v => v = .v (.bool (someB p))) := by
  refine rec_pat fun k n i s a b c l ih hp => ?_
  have hl : l.length ≤ m := hp.1
  have e1 := patR_len l
  refine enterP 31 Try.func79 rfl (by kernel_rfl) rfl rfl rfl ?_
  repeat' (first
      | refine s_op rfl ?_ | (apply s_skip; exact rfl) | (apply s_move; (iterate 4 (exact rfl))) | (apply s_fa_p tab_ok; (iterate 5 (exact rfl))) | (apply s_fa_f tab_ok; (iterate 6 (exact rfl)))
      | (apply s_ld_p tab_ok; (iterate 7 (exact rfl))) | (apply s_ld_f tab_ok; (iterate 6 (exact rfl))) | (apply s_ld_w tab_ok; (iterate 5 (exact rfl)); (first | exact patD_len _ | exact valD_len _)) | (apply s_assign; (iterate 4 (exact rfl))) | (apply s_pick_t; (iterate 5 (exact rfl)))
      | (apply s_pick_f; (iterate 5 (exact rfl))) | (apply s_len tab_ok; (iterate 5 (exact rfl))) | (apply s_lens str_ok; (iterate 4 (exact rfl))) | (apply s_idx tab_ok; (iterate 7 (exact rfl)); (first | exact patR_get (by assumption) | exact valR_get (by assumption) | exact row_map (by assumption) | assumption)) | (apply s_box; (iterate 7 (exact rfl)))
      | (apply s_not_t; (iterate 4 (exact rfl))) | (apply s_not_f; (iterate 4 (exact rfl))) | (apply s_not; (iterate 4 (exact rfl))) | (apply s_eql_t; (iterate 5 (exact rfl)); omega) | (apply s_eql_f; (iterate 5 (exact rfl)); omega)
      | (apply s_lss_t; (iterate 5 (exact rfl)); omega) | (apply s_lss_f; (iterate 5 (exact rfl)); omega) | (apply s_leq_t; (iterate 5 (exact rfl)); omega) | (apply s_leq_f; (iterate 5 (exact rfl)); omega) | (apply s_geq_t; (iterate 5 (exact rfl)); omega)
      | (apply s_geq_f; (iterate 5 (exact rfl)); omega) | (apply s_add64; (iterate 5 (exact rfl)); omega)
      | refine al_nil ?_ | refine q_then_n ?_ | refine q_blk_n ?_ | refine q_blk_r ?_ | refine q_blk_e ?_
      | refine q_blk_o rfl ?_ | refine q_then_e ?_ | refine aw_block ?_ | refine aw_exit ?_ | refine q_then_r ?_
      | refine aw_seq ?_ | refine aw_reg ?_ | refine aw_true rfl ?_ | refine aw_false rfl ?_ | refine aw_skip ?_
      | refine aw_ret ?_)
  refine w_loop [1, 3] (fun n' vs σ => ∃ j : Nat, vs = [.ptr 0 0 0, .d (.v (.int .i64 (j : Int)))] ∧ σ = [.row 41 ((patD (.mk k n i s a b c l)).map .d)] ∧ j ≤ l.length ∧ n' = l.length - j ∧ (k = 5 → someL l = someL (l.drop j))) rfl ⟨0, rfl, rfl, by omega, rfl, by simp⟩ ?_
  rintro n' vs σ ⟨j, rfl, rfl, hj, rfl, hs⟩ fr hfr
  cases hfr
  by_cases h5 : k = 5
  · have hs := hs h5
    by_cases hlt : j < l.length
    · obtain ⟨q, hq⟩ := getS hlt
      have hr := ih q (List.mem_of_getElem? hq) (Pat.small_get hp hq)
      rw [someL_drop hq] at hs
      cases hb : someB q <;> rw [hb] at hr hs
      · repeat' (first
      | refine s_op rfl ?_ | (apply s_skip; exact rfl) | (apply s_move; (iterate 4 (exact rfl))) | (apply s_fa_p tab_ok; (iterate 5 (exact rfl))) | (apply s_fa_f tab_ok; (iterate 6 (exact rfl)))
      | (apply s_ld_p tab_ok; (iterate 7 (exact rfl))) | (apply s_ld_f tab_ok; (iterate 6 (exact rfl))) | (apply s_ld_w tab_ok; (iterate 5 (exact rfl)); (first | exact patD_len _ | exact valD_len _)) | (apply s_assign; (iterate 4 (exact rfl))) | (apply s_pick_t; (iterate 5 (exact rfl)))
      | (apply s_pick_f; (iterate 5 (exact rfl))) | (apply s_len tab_ok; (iterate 5 (exact rfl))) | (apply s_lens str_ok; (iterate 4 (exact rfl))) | (apply s_idx tab_ok; (iterate 7 (exact rfl)); (first | exact patR_get (by assumption) | exact valR_get (by assumption) | exact row_map (by assumption) | assumption)) | (apply s_box; (iterate 7 (exact rfl)))
      | (apply s_not_t; (iterate 4 (exact rfl))) | (apply s_not_f; (iterate 4 (exact rfl))) | (apply s_not; (iterate 4 (exact rfl))) | (apply s_eql_t; (iterate 5 (exact rfl)); omega) | (apply s_eql_f; (iterate 5 (exact rfl)); omega)
      | (apply s_lss_t; (iterate 5 (exact rfl)); omega) | (apply s_lss_f; (iterate 5 (exact rfl)); omega) | (apply s_leq_t; (iterate 5 (exact rfl)); omega) | (apply s_leq_f; (iterate 5 (exact rfl)); omega) | (apply s_geq_t; (iterate 5 (exact rfl)); omega)
      | (apply s_geq_f; (iterate 5 (exact rfl)); omega) | (apply s_add64; (iterate 5 (exact rfl)); omega)
      | (apply s_call; (iterate 6 (exact rfl)); first | (exact hr; rintro _ rfl))
      | refine al_nil ?_ | refine q_then_n ?_ | refine q_blk_n ?_ | refine q_blk_r ?_ | refine q_blk_e ?_
      | refine q_blk_o rfl ?_ | refine q_then_e ?_ | refine aw_block ?_ | refine aw_exit ?_ | refine q_then_r ?_
      | refine aw_seq ?_ | refine aw_reg ?_ | refine aw_true rfl ?_ | refine aw_false rfl ?_ | refine aw_skip ?_
      | refine aw_ret ?_)
        exact q_ret rfl ⟨_, rfl, by simp [someB, h5, hs]⟩
      · repeat' (first
      | refine s_op rfl ?_ | (apply s_skip; exact rfl) | (apply s_move; (iterate 4 (exact rfl))) | (apply s_fa_p tab_ok; (iterate 5 (exact rfl))) | (apply s_fa_f tab_ok; (iterate 6 (exact rfl)))
      | (apply s_ld_p tab_ok; (iterate 7 (exact rfl))) | (apply s_ld_f tab_ok; (iterate 6 (exact rfl))) | (apply s_ld_w tab_ok; (iterate 5 (exact rfl)); (first | exact patD_len _ | exact valD_len _)) | (apply s_assign; (iterate 4 (exact rfl))) | (apply s_pick_t; (iterate 5 (exact rfl)))
      | (apply s_pick_f; (iterate 5 (exact rfl))) | (apply s_len tab_ok; (iterate 5 (exact rfl))) | (apply s_lens str_ok; (iterate 4 (exact rfl))) | (apply s_idx tab_ok; (iterate 7 (exact rfl)); (first | exact patR_get (by assumption) | exact valR_get (by assumption) | exact row_map (by assumption) | assumption)) | (apply s_box; (iterate 7 (exact rfl)))
      | (apply s_not_t; (iterate 4 (exact rfl))) | (apply s_not_f; (iterate 4 (exact rfl))) | (apply s_not; (iterate 4 (exact rfl))) | (apply s_eql_t; (iterate 5 (exact rfl)); omega) | (apply s_eql_f; (iterate 5 (exact rfl)); omega)
      | (apply s_lss_t; (iterate 5 (exact rfl)); omega) | (apply s_lss_f; (iterate 5 (exact rfl)); omega) | (apply s_leq_t; (iterate 5 (exact rfl)); omega) | (apply s_leq_f; (iterate 5 (exact rfl)); omega) | (apply s_geq_t; (iterate 5 (exact rfl)); omega)
      | (apply s_geq_f; (iterate 5 (exact rfl)); omega) | (apply s_add64; (iterate 5 (exact rfl)); omega)
      | (apply s_call; (iterate 6 (exact rfl)); first | (exact hr; rintro _ rfl))
      | refine al_nil ?_ | refine q_then_n ?_ | refine q_blk_n ?_ | refine q_blk_r ?_ | refine q_blk_e ?_
      | refine q_blk_o rfl ?_ | refine q_then_e ?_ | refine aw_block ?_ | refine aw_exit ?_ | refine q_then_r ?_
      | refine aw_seq ?_ | refine aw_reg ?_ | refine aw_true rfl ?_ | refine aw_false rfl ?_ | refine aw_skip ?_
      | refine aw_ret ?_)
        exact ⟨_, _, rfl, by omega, j + 1, rfl, rfl, by omega, rfl, fun _ => by simpa using hs⟩
    · have : l.drop j = [] := List.drop_eq_nil_of_le (by omega)
      rw [this] at hs
      repeat' (first
      | refine s_op rfl ?_ | (apply s_skip; exact rfl) | (apply s_move; (iterate 4 (exact rfl))) | (apply s_fa_p tab_ok; (iterate 5 (exact rfl))) | (apply s_fa_f tab_ok; (iterate 6 (exact rfl)))
      | (apply s_ld_p tab_ok; (iterate 7 (exact rfl))) | (apply s_ld_f tab_ok; (iterate 6 (exact rfl))) | (apply s_ld_w tab_ok; (iterate 5 (exact rfl)); (first | exact patD_len _ | exact valD_len _)) | (apply s_assign; (iterate 4 (exact rfl))) | (apply s_pick_t; (iterate 5 (exact rfl)))
      | (apply s_pick_f; (iterate 5 (exact rfl))) | (apply s_len tab_ok; (iterate 5 (exact rfl))) | (apply s_lens str_ok; (iterate 4 (exact rfl))) | (apply s_idx tab_ok; (iterate 7 (exact rfl)); (first | exact patR_get (by assumption) | exact valR_get (by assumption) | exact row_map (by assumption) | assumption)) | (apply s_box; (iterate 7 (exact rfl)))
      | (apply s_not_t; (iterate 4 (exact rfl))) | (apply s_not_f; (iterate 4 (exact rfl))) | (apply s_not; (iterate 4 (exact rfl))) | (apply s_eql_t; (iterate 5 (exact rfl)); omega) | (apply s_eql_f; (iterate 5 (exact rfl)); omega)
      | (apply s_lss_t; (iterate 5 (exact rfl)); omega) | (apply s_lss_f; (iterate 5 (exact rfl)); omega) | (apply s_leq_t; (iterate 5 (exact rfl)); omega) | (apply s_leq_f; (iterate 5 (exact rfl)); omega) | (apply s_geq_t; (iterate 5 (exact rfl)); omega)
      | (apply s_geq_f; (iterate 5 (exact rfl)); omega) | (apply s_add64; (iterate 5 (exact rfl)); omega)
      | refine al_nil ?_ | refine q_then_n ?_ | refine q_blk_n ?_ | refine q_blk_r ?_ | refine q_blk_e ?_
      | refine q_blk_o rfl ?_ | refine q_then_e ?_ | refine aw_block ?_ | refine aw_exit ?_ | refine q_then_r ?_
      | refine aw_seq ?_ | refine aw_reg ?_ | refine aw_true rfl ?_ | refine aw_false rfl ?_ | refine aw_skip ?_
      | refine aw_ret ?_)
      exact q_ret rfl ⟨_, rfl, by simp [someB, h5, hs, someL]⟩
  · have h3 : k < 1 ∨ (1 ≤ k ∧ k ≤ 5) ∨ 5 < k := by omega
    have hv : someB (.mk k n i s a b c l) = decide (1 ≤ k ∧ k ≤ 5) := by simp [someB, h5]
    rw [hv]
    by_cases hlt : j < l.length <;> rcases h3 with h3 | ⟨h3, h4⟩ | h3 <;>
    repeat' (first
      | refine s_op rfl ?_ | (apply s_skip; exact rfl) | (apply s_move; (iterate 4 (exact rfl))) | (apply s_fa_p tab_ok; (iterate 5 (exact rfl))) | (apply s_fa_f tab_ok; (iterate 6 (exact rfl)))
      | (apply s_ld_p tab_ok; (iterate 7 (exact rfl))) | (apply s_ld_f tab_ok; (iterate 6 (exact rfl))) | (apply s_ld_w tab_ok; (iterate 5 (exact rfl)); (first | exact patD_len _ | exact valD_len _)) | (apply s_assign; (iterate 4 (exact rfl))) | (apply s_pick_t; (iterate 5 (exact rfl)))
      | (apply s_pick_f; (iterate 5 (exact rfl))) | (apply s_len tab_ok; (iterate 5 (exact rfl))) | (apply s_lens str_ok; (iterate 4 (exact rfl))) | (apply s_idx tab_ok; (iterate 7 (exact rfl)); (first | exact patR_get (by assumption) | exact valR_get (by assumption) | exact row_map (by assumption) | assumption)) | (apply s_box; (iterate 7 (exact rfl)))
      | (apply s_not_t; (iterate 4 (exact rfl))) | (apply s_not_f; (iterate 4 (exact rfl))) | (apply s_not; (iterate 4 (exact rfl))) | (apply s_eql_t; (iterate 5 (exact rfl)); omega) | (apply s_eql_f; (iterate 5 (exact rfl)); omega)
      | (apply s_lss_t; (iterate 5 (exact rfl)); omega) | (apply s_lss_f; (iterate 5 (exact rfl)); omega) | (apply s_leq_t; (iterate 5 (exact rfl)); omega) | (apply s_leq_f; (iterate 5 (exact rfl)); omega) | (apply s_geq_t; (iterate 5 (exact rfl)); omega)
      | (apply s_geq_f; (iterate 5 (exact rfl)); omega) | (apply s_add64; (iterate 5 (exact rfl)); omega)
      | refine al_nil ?_ | refine q_then_n ?_ | refine q_blk_n ?_ | refine q_blk_r ?_ | refine q_blk_e ?_
      | refine q_blk_o rfl ?_ | refine q_then_e ?_ | refine aw_block ?_ | refine aw_exit ?_ | refine q_then_r ?_
      | refine aw_seq ?_ | refine aw_reg ?_ | refine aw_true rfl ?_ | refine aw_false rfl ?_ | refine aw_skip ?_
      | refine aw_ret ?_)
    all_goals exact q_ret rfl ⟨_, rfl, by simp; omega⟩
end Go.Proofs.Ytjflembhgjcgkaa
