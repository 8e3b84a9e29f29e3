/- C39: the document's places, facts, trees: Same, alike, below, known, One. -/
import Derived.Test.YtjflembhgjcgkaaTP10C33
import Derived.Test.YtjflembhgjcgkaaTP10M15
import Derived.Test.YtjflembhgjcgkaaTP10XAhAiAj
set_option linter.unusedSimpArgs false
set_option linter.unusedVariables false
namespace Go.Proofs.Ytjflembhgjcgkaa
open Go.RowKit

theorem take_next {l m : List Int} {k : Nat} {x : Int} (h : l.take k = m.take k) (h1 : l[k]? = some x) (h2 : m[k]? = some x) : l.take (k + 1) = m.take (k + 1) := by
  rw [List.take_add_one, List.take_add_one, h, h1, h2]

set_option maxRecDepth 100000 in
theorem same20_c (a b : List Int) (hl : a.length ≤ 9223372036854775807) (hm : b.length ≤ 9223372036854775807) : RunsP Try.prog 20 [intsD a, intsD b] (fun v => v = .v (.bool (decide (a = b)))) := by
  have e1 : (a.map intRow).length = a.length := by simp
  have e2 : (b.map intRow).length = b.length := by simp
  refine enterP 26 Try.func20 rfl (by kernel_rfl) rfl rfl rfl ?_
  by_cases hlen : a.length = b.length
  · repeat' (first | refine s_op rfl ?_ | (apply s_move; (iterate 4 (exact rfl))) | (apply s_assign; (iterate 4 (exact rfl))) | (apply s_len tab_ok; (iterate 5 (exact rfl))) | (apply s_neq_f; (iterate 5 (exact rfl)); omega) | refine al_nil ?_ | refine q_then_n ?_ | refine aw_block ?_ | refine aw_seq ?_ | refine aw_reg ?_ | refine aw_false rfl ?_ | refine aw_skip ?_)
    refine w_loop [0, 1, 5] (fun n vs σ => ∃ k : Nat, vs = [.d (intsD a), .d (intsD b), .d (.v (.int .i64 (k : Int)))] ∧ σ = [] ∧ k ≤ a.length ∧ n = a.length - k ∧ a.take k = b.take k) rfl ⟨0, rfl, rfl, by omega, rfl, by simp⟩ ?_
    rintro n vs σ ⟨k, rfl, rfl, hk, rfl, ht⟩ fr hfr
    cases hfr
    by_cases hlt : k < a.length
    · obtain ⟨x, hx⟩ := getS hlt
      obtain ⟨y, hy⟩ : ∃ y, b[k]? = some y := getS (by omega)
      by_cases hxy : x = y
      · repeat' (first | refine s_op rfl ?_ | (apply s_move; (iterate 4 (exact rfl))) | (apply s_ld_f tab_ok; (iterate 6 (exact rfl))) | (apply s_assign; (iterate 4 (exact rfl))) | (apply s_len tab_ok; (iterate 5 (exact rfl))) | (apply s_idx tab_ok; (iterate 7 (exact rfl)); (first | exact patR_get (by assumption) | exact valR_get (by assumption) | exact row_map (by assumption) | assumption)) | (apply s_neq_f; (iterate 5 (exact rfl)); omega) | (apply s_lss_t; (iterate 5 (exact rfl)); omega) | (apply s_add64; (iterate 5 (exact rfl)); omega) | refine al_nil ?_ | refine q_then_n ?_ | refine q_blk_n ?_ | refine aw_block ?_ | refine aw_seq ?_ | refine aw_reg ?_ | refine aw_true rfl ?_ | refine aw_false rfl ?_ | refine aw_skip ?_ | refine aw_draws (id := 6) (trO [0, 1, 2, 3, 4, 5, 6, 7, 8] .nil) [] [] mixed_ok (by kernel_rfl) ?_)
        exact ⟨_, _, rfl, by omega, k + 1, rfl, rfl, by omega, rfl, take_next ht hx (by rw [hxy]; exact hy)⟩
      · repeat' (first | refine s_op rfl ?_ | (apply s_move; (iterate 4 (exact rfl))) | (apply s_ld_f tab_ok; (iterate 6 (exact rfl))) | (apply s_assign; (iterate 4 (exact rfl))) | (apply s_len tab_ok; (iterate 5 (exact rfl))) | (apply s_idx tab_ok; (iterate 7 (exact rfl)); (first | exact patR_get (by assumption) | exact valR_get (by assumption) | exact row_map (by assumption) | assumption)) | (apply s_neq_t; (iterate 5 (exact rfl)); omega) | (apply s_lss_t; (iterate 5 (exact rfl)); omega) | refine al_nil ?_ | refine q_then_n ?_ | refine q_blk_r ?_ | refine aw_block ?_ | refine q_then_r ?_ | refine aw_seq ?_ | refine aw_reg ?_ | refine aw_true rfl ?_ | refine aw_skip ?_ | refine aw_ret ?_ | refine aw_draws (id := 6) (trO [0, 1, 2, 3, 4, 5, 6, 7, 8] .nil) [] [] mixed_ok (by kernel_rfl) ?_)
        refine q_ret rfl ⟨_, rfl, ?_⟩
        rw [decide_eq_false]
        intro e
        rw [e, hy] at hx
        injection hx with hx
        exact hxy hx.symm
    · repeat' (first | refine s_op rfl ?_ | (apply s_move; (iterate 4 (exact rfl))) | (apply s_assign; (iterate 4 (exact rfl))) | (apply s_len tab_ok; (iterate 5 (exact rfl))) | (apply s_lss_f; (iterate 5 (exact rfl)); omega) | refine al_nil ?_ | refine q_then_n ?_ | refine q_blk_e ?_ | refine q_then_e ?_ | refine aw_exit ?_ | refine aw_seq ?_ | refine aw_reg ?_ | refine aw_false rfl ?_ | refine aw_ret ?_)
      refine q_ret rfl ⟨_, rfl, ?_⟩
      rw [List.take_of_length_le (by omega), List.take_of_length_le (by omega)] at ht
      rw [decide_eq_true ht]
  · repeat' (first | refine s_op rfl ?_ | (apply s_move; (iterate 4 (exact rfl))) | (apply s_assign; (iterate 4 (exact rfl))) | (apply s_len tab_ok; (iterate 5 (exact rfl))) | (apply s_neq_t; (iterate 5 (exact rfl)); omega) | refine al_nil ?_ | refine q_then_n ?_ | refine q_then_r ?_ | refine aw_seq ?_ | refine aw_reg ?_ | refine aw_true rfl ?_ | refine aw_ret ?_)
    refine q_ret rfl ⟨_, rfl, ?_⟩
    rw [decide_eq_false (fun e => hlen (by rw [e]))]

end Go.Proofs.Ytjflembhgjcgkaa
