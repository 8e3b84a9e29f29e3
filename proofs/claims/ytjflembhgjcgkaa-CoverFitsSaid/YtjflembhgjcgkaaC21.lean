/- C21: useful's own function, of the program. -/
import Derived.Test.YtjflembhgjcgkaaC19
import Derived.Test.YtjflembhgjcgkaaC20
import Derived.Test.YtjflembhgjcgkaaM8
set_option linter.unusedSimpArgs false
set_option linter.unusedVariables false
-- ALLUNDEF
namespace Go.Proofs.Ytjflembhgjcgkaa
open Go.RowKit

def resW : Option (List Pat) → DV
  | some w => .tup [patsD w, .v (.bool true)]
  | none => .tup [.nil, .v (.bool false)]

section
variable {g : Sg} {m A B : Nat} {rows : List (List Pat)} {v : List Pat}
theorem UOk.rowsB (u : UOk g m A B rows v) (hB : B ≤ m) : RowsB m rows :=
  ⟨u.len, fun r hr => ⟨u.small r hr, by rw [u.wid r hr]; exact Nat.le_trans u.vlen hB⟩⟩
end

set_option maxRecDepth 100000 in
set_option maxHeartbeats 4000000 in
theorem with_c (g : Sg) (m : Nat) (hm : m ≤ 10000000) (rows : List (List Pat)) (v0 : Pat) (vs kids : List Pat) (k n i : Int) (s : ByteArray) (a b c : Int) (l : List Pat) (h : Head) (ha : asksH (.mk k n i s a b c l) = some h) (hr : RowsB m rows) (hne : ∀ r ∈ rows, r ≠ []) (hk : kids.length ≤ 10000000) (hv : vs.length ≤ 10000000)
    (o : Option (List Pat)) (ho : ∀ w, o = some w → w.length = kids.length + vs.length)
    (hrec : RunsP Try.prog 63 [.agg (sigD g), rowsD (belowL rows h kids.length), patsD (kids ++ vs)] (fun x => x = resW o)) :
    RunsP Try.prog 90 [.agg (patD (.mk k n i s a b c l)), patsD kids, .fptr (sigD g), .fptr [rowsD rows], .fptr [patsD (v0 :: vs)]] (fun x => x = resW (o.map fun w => setL (.mk k n i s a b c l) (w.take kids.length) :: w.drop kids.length)) := by
  have hask := asks_c (.mk k n i s a b c l)
  rw [ha] at hask
  have e1 := patR_len kids
  have e2 := patR_len vs
  have e3 : (patR (v0 :: vs)).length = vs.length + 1 := by simp [patR_len]
  have hbl : RunsP Try.prog 91 [rowsD rows, .agg (headD h), .v (.int .i64 ((patR kids).length : Int))] (fun x => x = rowsD (belowL rows h kids.length)) := by rw [e1]; exact below_c h kids.length hk hm hr hne
  have hcc := concatP_c (patR kids) (patR vs) (by omega) (by omega)
  have hrec' : RunsP Try.prog 63 [.agg (sigD g), rowsD (belowL rows h kids.length), .lst 8 (patR kids ++ patR vs)] (fun x => x = resW o) := by rw [← patR_append]; exact hrec
  cases o with
  | none =>
    refine enterPB 51 tab_ok Try.func90 rfl (by kernel_rfl) rfl rfl rfl ?_
    repeat' (first
      | refine s_op rfl ?_ | (apply s_move; (iterate 4 (exact rfl))) | (apply s_fa_p tab_ok; (iterate 5 (exact rfl))) | (apply s_fa_f tab_ok; (iterate 6 (exact rfl))) | (apply s_ld_p tab_ok; (iterate 7 (exact rfl)))
      | (apply s_ld_f tab_ok; (iterate 6 (exact rfl))) | (apply s_ld_w tab_ok; (iterate 5 (exact rfl)); (first | exact patD_len _ | exact valD_len _)) | (apply s_assign; (iterate 4 (exact rfl))) | (apply s_len tab_ok; (iterate 5 (exact rfl))) | (apply s_lens str_ok; (iterate 4 (exact rfl)))
      | (apply s_ext; (iterate 5 (exact rfl))) | (apply s_build tabZ_ok; (iterate 5 (exact rfl))) | (apply s_alloc tabZ_ok; (iterate 7 (exact rfl))) | (apply s_box; (iterate 7 (exact rfl))) | (apply s_store tab_ok; (iterate 10 (exact rfl)))
      | (apply s_lit tab_ok tabZ_ok; (iterate 10 (exact rfl))) | (apply s_lit1 tab_ok tabZ_ok; (iterate 9 (exact rfl)); (first | exact patD_len _ | exact valD_len _)) | (apply s_not_t; (iterate 4 (exact rfl))) | (apply s_not_f; (iterate 4 (exact rfl))) | (apply s_not; (iterate 4 (exact rfl)))
      | (apply s_sliceE tab_ok (rows := patR (v0 :: vs)) (rows' := patR vs); (iterate 8 (exact rfl)); (simp; omega); exact (by simp [patR]))
      | (apply s_call; (iterate 6 (exact rfl)); first | (exact hask; rintro _ rfl) | (exact hbl; rintro _ rfl) | (exact hcc; rintro _ rfl) | (exact hrec'; rintro _ rfl))
      | refine al_nil ?_ | refine q_then_n ?_ | refine q_then_r ?_ | refine aw_seq ?_ | refine aw_reg ?_
      | refine aw_true rfl ?_ | refine aw_false rfl ?_ | refine aw_skip ?_ | refine aw_ret ?_ | refine al_fork ?_ ?_
      | refine al_fork3 ?_ ?_ ?_
      | refine aw_draws (id := 2) (trO [0, 1, 2, 3, 4, 6, 7, 8] (.fork 5 (trO [9, 10, 11, 12, 13, 14, 15, 16] .nil) 9 (trO [5, 10, 11, 12, 13, 14, 15, 16] .nil))) [5, 9, 10, 11] [] mixed_ok (by kernel_rfl) ?_
      | refine aw_draws (id := 6) (trO [0, 2, 3, 4, 5, 1, 6, 7, 8, 9] .nil) [1, 6, 7] [] mixed_ok (by kernel_rfl) ?_)
    all_goals exact q_retB (resB_2 rfl (resV_t rfl) (resV_t rfl) rfl) ⟨_, rfl, rfl⟩
  | some w =>
    have hwl := ho w rfl
    have e4 := patR_len w
    have hcl := cloneP_c (patR (w.take kids.length)) (by rw [patR_len, List.length_take]; omega)
    have hc2 := concatP_c [patD (setL (.mk k n i s a b c l) (w.take kids.length))] (patR (w.drop kids.length)) (by simp) (by rw [patR_len, List.length_drop]; omega)
    refine enterPB 51 tab_ok Try.func90 rfl (by kernel_rfl) rfl rfl rfl ?_
    repeat' (first
      | refine s_op rfl ?_ | (apply s_move; (iterate 4 (exact rfl))) | (apply s_fa_p tab_ok; (iterate 5 (exact rfl))) | (apply s_fa_f tab_ok; (iterate 6 (exact rfl))) | (apply s_ld_p tab_ok; (iterate 7 (exact rfl)))
      | (apply s_ld_f tab_ok; (iterate 6 (exact rfl))) | (apply s_ld_w tab_ok; (iterate 5 (exact rfl)); (first | exact patD_len _ | exact valD_len _)) | (apply s_assign; (iterate 4 (exact rfl))) | (apply s_len tab_ok; (iterate 5 (exact rfl))) | (apply s_lens str_ok; (iterate 4 (exact rfl)))
      | (apply s_ext; (iterate 5 (exact rfl))) | (apply s_build tabZ_ok; (iterate 5 (exact rfl))) | (apply s_alloc tabZ_ok; (iterate 7 (exact rfl))) | (apply s_box; (iterate 7 (exact rfl))) | (apply s_store tab_ok; (iterate 10 (exact rfl)))
      | (apply s_lit tab_ok tabZ_ok; (iterate 10 (exact rfl))) | (apply s_lit1 tab_ok tabZ_ok; (iterate 9 (exact rfl)); (first | exact patD_len _ | exact valD_len _)) | (apply s_not_t; (iterate 4 (exact rfl))) | (apply s_not_f; (iterate 4 (exact rfl))) | (apply s_not; (iterate 4 (exact rfl)))
      | (apply s_sliceE tab_ok (rows := patR (v0 :: vs)) (rows' := patR vs); (iterate 8 (exact rfl)); (simp; omega); exact (by simp [patR]))
      | (apply s_sliceE tab_ok (rows := patR w) (lw := none) (rows' := patR (w.take kids.length)); (iterate 8 (exact rfl)); (simp; omega); exact (by rw [patR_take]; simp [e1]))
      | (apply s_sliceE tab_ok (rows := patR w) (hg2 := none) (rows' := patR (w.drop kids.length)); (iterate 8 (exact rfl)); (simp; omega); exact (by rw [patR_drop]; simp [e1, List.take_of_length_le]))
      | (apply s_call; (iterate 6 (exact rfl)); first | (exact hask; rintro _ rfl) | (exact hbl; rintro _ rfl) | (exact hcc; rintro _ rfl) | (exact hrec'; rintro _ rfl) | (exact hcl; rintro _ rfl) | (exact hc2; rintro _ rfl))
      | refine al_nil ?_ | refine q_then_n ?_ | refine q_then_r ?_ | refine aw_seq ?_ | refine aw_reg ?_
      | refine aw_true rfl ?_ | refine aw_false rfl ?_ | refine aw_skip ?_ | refine aw_ret ?_ | refine al_fork ?_ ?_
      | refine al_fork3 ?_ ?_ ?_
      | refine aw_draws (id := 2) (trO [0, 1, 2, 3, 4, 6, 7, 8] (.fork 5 (trO [9, 10, 11, 12, 13, 14, 15, 16] .nil) 9 (trO [5, 10, 11, 12, 13, 14, 15, 16] .nil))) [5, 9, 10, 11] [] mixed_ok (by kernel_rfl) ?_
      | refine aw_draws (id := 6) (trO [0, 2, 3, 4, 5, 1, 6, 7, 8, 9] .nil) [1, 6, 7] [] mixed_ok (by kernel_rfl) ?_)
    all_goals exact q_retB (resB_2 rfl (resV_t rfl) (resV_t rfl) rfl) ⟨_, rfl, rfl⟩
end Go.Proofs.Ytjflembhgjcgkaa
