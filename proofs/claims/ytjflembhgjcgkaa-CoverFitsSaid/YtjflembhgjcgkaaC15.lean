/- C15: anys, of the program. -/
import Derived.Test.YtjflembhgjcgkaaC14
import Derived.Test.YtjflembhgjcgkaaM4
set_option linter.unusedSimpArgs false
set_option linter.unusedVariables false
-- ALLUNDEF -- BOXZ
namespace Go.Proofs.Ytjflembhgjcgkaa
open Go.RowKit

theorem set_next {α : Type} (x y : α) (k n : Nat) (h : k < n) : (List.replicate k y ++ List.replicate (n - k) x).set k y = List.replicate (k + 1) y ++ List.replicate (n - (k + 1)) x := by
  rw [List.set_append_right _ _ (by simp)]
  obtain ⟨r, hr⟩ : ∃ r, n - k = r + 1 := ⟨n - k - 1, by omega⟩
  rw [hr, List.replicate_succ, show n - (k + 1) = r by omega, ← replicate_next]
  simp

theorem get_next {α : Type} (x y : α) (k n : Nat) (h : k < n) : (List.replicate k y ++ List.replicate (n - k) x)[k]? = some x := by
  rw [List.getElem?_append_right (by simp), List.length_replicate, Nat.sub_self, List.getElem?_replicate, if_pos (by omega)]
set_option maxRecDepth 100000 in
theorem anys_c (n : Nat) (hn : n ≤ 1000000000) : RunsP Try.prog 65 [.v (.int .i64 (n : Int))] (fun v => v = patsD (anysL n)) := by
  refine RunsP.weak ((RunsP.ofOwn (rows := List.replicate n (rowVnil 2)) ?_).mono fun v h => h ▸ wk_vanys n)
  refine enter 18 Try.func65 rfl (by kernel_rfl) rfl rfl rfl ?_
  repeat' (first
      | refine s_op rfl ?_ | (apply s_move; (iterate 4 (exact rfl))) | (apply s_fa_p tab_ok; (iterate 5 (exact rfl))) | (apply s_fa_f tab_ok; (iterate 6 (exact rfl))) | (apply s_assign; (iterate 4 (exact rfl)))
      | (apply s_len tab_ok; (iterate 5 (exact rfl))) | (apply s_lens str_ok; (iterate 4 (exact rfl))) | (apply s_idx tab_ok; (iterate 7 (exact rfl)); (first | exact patR_get (by assumption) | exact valR_get (by assumption) | exact row_map (by assumption) | assumption)) | (apply s_store tab_ok; (iterate 10 (exact rfl))) | (apply s_lss_t; (iterate 5 (exact rfl)); omega)
      | (apply s_lss_f; (iterate 5 (exact rfl)); omega) | (apply s_add64; (iterate 5 (exact rfl)); omega)
      | (apply s_makeSliceF tab_ok tabZ_ok n; (iterate 11 (exact rfl)); exact ⟨by omega, rfl⟩; intro loc σ hc)
      | refine al_nil ?_ | refine q_then_n ?_ | refine q_blk_n ?_ | refine q_blk_r ?_ | refine q_blk_e ?_
      | refine q_blk_o rfl ?_ | refine q_then_e ?_ | refine aw_block ?_ | refine aw_exit ?_ | refine q_then_r ?_
      | refine aw_seq ?_ | refine aw_reg ?_ | refine aw_true rfl ?_ | refine aw_false rfl ?_ | refine aw_skip ?_
      | refine aw_ret ?_)
  refine w_loop [3, 8, 9] (fun n' vs σ => ∃ k : Nat, vs = [.own loc 0 8 0 n, .d (.v (.int .i64 (n : Int))), .d (.v (.int .i64 (k : Int)))] ∧ σ[loc]? = some (.arr 41 8 0 (List.replicate k (rowVnil 2) ++ List.replicate (n - k) (rowVnil 0))) ∧ k ≤ n ∧ n' = n - k) rfl ⟨0, rfl, hc.at', by omega, rfl⟩ ?_
  clear hc
  rintro n' vs σ ⟨k, rfl, hA, hk, rfl⟩ fr hfr
  cases hfr
  by_cases hlt : k < n
  · repeat' (first
      | refine s_op rfl ?_ | (apply s_move; (iterate 4 (exact rfl))) | (apply s_fa_p tab_ok; (iterate 5 (exact rfl))) | (apply s_fa_f tab_ok; (iterate 6 (exact rfl))) | (apply s_assign; (iterate 4 (exact rfl)))
      | (apply s_len tab_ok; (iterate 5 (exact rfl))) | (apply s_lens str_ok; (iterate 4 (exact rfl))) | (apply s_idx tab_ok; (iterate 7 (exact rfl)); (first | exact patR_get (by assumption) | exact valR_get (by assumption) | exact row_map (by assumption) | assumption)) | (apply s_store tab_ok; (iterate 10 (exact rfl))) | (apply s_lss_t; (iterate 5 (exact rfl)); omega)
      | (apply s_lss_f; (iterate 5 (exact rfl)); omega) | (apply s_add64; (iterate 5 (exact rfl)); omega)
      | (apply s_idxO (k * 8) tab_ok; (iterate 7 (exact rfl)); exact hA; exact ⟨by omega, by omega⟩)
      | (apply s_stA k 0 tab_ok (r := rowVnil 0); (iterate 8 (exact rfl)); exact hA; exact get_next _ _ _ _ hlt; omega; omega; exact set_next _ _ _ _ hlt; intro σ hc; replace hA := hc.at'; clear hc)
      | refine al_nil ?_ | refine q_then_n ?_ | refine q_blk_n ?_ | refine q_blk_r ?_ | refine q_blk_e ?_
      | refine q_blk_o rfl ?_ | refine q_then_e ?_ | refine aw_block ?_ | refine aw_exit ?_ | refine q_then_r ?_
      | refine aw_seq ?_ | refine aw_reg ?_ | refine aw_true rfl ?_ | refine aw_false rfl ?_ | refine aw_skip ?_
      | refine aw_ret ?_)
    exact ⟨_, _, rfl, by omega, k + 1, rfl, hA, by omega, rfl⟩
  · have : k = n := by omega
    subst this
    repeat' (first
      | refine s_op rfl ?_ | (apply s_move; (iterate 4 (exact rfl))) | (apply s_fa_p tab_ok; (iterate 5 (exact rfl))) | (apply s_fa_f tab_ok; (iterate 6 (exact rfl))) | (apply s_assign; (iterate 4 (exact rfl)))
      | (apply s_len tab_ok; (iterate 5 (exact rfl))) | (apply s_lens str_ok; (iterate 4 (exact rfl))) | (apply s_idx tab_ok; (iterate 7 (exact rfl)); (first | exact patR_get (by assumption) | exact valR_get (by assumption) | exact row_map (by assumption) | assumption)) | (apply s_store tab_ok; (iterate 10 (exact rfl))) | (apply s_lss_t; (iterate 5 (exact rfl)); omega)
      | (apply s_lss_f; (iterate 5 (exact rfl)); omega) | (apply s_add64; (iterate 5 (exact rfl)); omega)
      | refine al_nil ?_ | refine q_then_n ?_ | refine q_blk_n ?_ | refine q_blk_r ?_ | refine q_blk_e ?_
      | refine q_blk_o rfl ?_ | refine q_then_e ?_ | refine aw_block ?_ | refine aw_exit ?_ | refine q_then_r ?_
      | refine aw_seq ?_ | refine aw_reg ?_ | refine aw_true rfl ?_ | refine aw_false rfl ?_ | refine aw_skip ?_
      | refine aw_ret ?_)
    refine q_ret rfl ⟨loc, 0, 41, ?_, ?_⟩
    · rw [List.length_replicate]; rfl
    · rw [hA]; simp
end Go.Proofs.Ytjflembhgjcgkaa
