/- C12: Kids, alone, pair: of the document; may: of the program. -/
import Derived.Test.YtjflembhgjcgkaaC4
import Derived.Test.YtjflembhgjcgkaaM3
set_option linter.unusedSimpArgs false
set_option linter.unusedVariables false
-- ALLUNDEF -- BOXZ
namespace Go.Proofs.Ytjflembhgjcgkaa
open Go.RowKit

/-! Those at a field. -/
theorem kids_take {l : List Pat} {j : Nat} {p : Pat} (c : Int) (k : Nat) (hp : l[j]? = some p) : kidsL (l.take (j + 1)) c k = kidsL (l.take j) c k ++ (if p.kind = 5 ∧ p.n = c then (p.l[k]?).toList else []) := by
  rw [List.take_add_one, hp]
  unfold kidsL
  rw [List.filterMap_append]
  congr 1
  simp only [Option.toList_some, List.filterMap_cons, List.filterMap_nil]
  split
  · rename_i h
    split at h
    · rename_i h2; rw [if_pos h2, h]; rfl
    · rename_i h2; rw [if_neg h2]
  · rename_i q h
    split at h
    · rename_i h2; rw [if_pos h2, h]; rfl
    · cases h
theorem kidsL_length (l : List Pat) (c : Int) (k : Nat) : (kidsL l c k).length ≤ l.length := List.length_filterMap_le _ _

theorem kids_yes {l : List Pat} {j : Nat} {p r : Pat} {c : Int} {k : Nat} (hp : l[j]? = some p) (h5 : p.kind = 5) (hn : p.n = c) (hr : p.l[k]? = some r) : kidsL (l.take (j + 1)) c k = kidsL (l.take j) c k ++ [r] := by
  rw [kids_take c k hp, if_pos ⟨h5, hn⟩, hr]; rfl
theorem kids_no {l : List Pat} {j : Nat} {p : Pat} {c : Int} {k : Nat} (hp : l[j]? = some p) (h : ¬ (p.kind = 5 ∧ p.n = c ∧ k < p.l.length)) : kidsL (l.take (j + 1)) c k = kidsL (l.take j) c k := by
  rw [kids_take c k hp]
  split
  · rename_i h2
    rw [List.getElem?_eq_none (Nat.le_of_not_lt fun q => h ⟨h2.1, h2.2, q⟩)]; simp
  · simp
theorem patR_one (p : Pat) : patR [p] = [patD p] := rfl
set_option maxRecDepth 100000 in
set_option maxHeartbeats 4000000 in
theorem rkids_c (l : List Pat) (c : Int) (f : Nat) (hl : l.length ≤ 1000000000) (hs : ∀ p ∈ l, p.l.length ≤ 1000000000) (hf : f ≤ 1000000000) : RunsP Try.prog 72 [patsD l, .v (.int .i64 c), .v (.int .i64 (f : Int))] (fun v => v = patsD (kidsL l c f)) := by
  refine RunsP.ofOwn (rows := patR (kidsL l c f)) ?_
  have e1 := patR_len l
  refine enter 52 Try.func72 rfl (by kernel_rfl) rfl rfl rfl ?_
  repeat' (first
      | refine s_op rfl ?_ | (apply s_skipV; (iterate 2 (exact rfl))) | (apply s_skipU; (iterate 3 (exact rfl))) | (apply s_move; (iterate 4 (exact rfl))) | (apply s_fa_p tab_ok; (iterate 5 (exact rfl)))
      | (apply s_fa_f tab_ok; (iterate 6 (exact rfl))) | (apply s_ld_p tab_ok; (iterate 7 (exact rfl))) | (apply s_ld_f tab_ok; (iterate 6 (exact rfl))) | (apply s_ld_w tab_ok; (iterate 5 (exact rfl)); (first | exact patD_len _ | exact valD_len _)) | (apply s_assign; (iterate 4 (exact rfl)))
      | (apply s_pick_t; (iterate 5 (exact rfl))) | (apply s_pick_f; (iterate 5 (exact rfl))) | (apply s_len tab_ok; (iterate 5 (exact rfl))) | (apply s_lens str_ok; (iterate 4 (exact rfl))) | (apply s_idx tab_ok; (iterate 7 (exact rfl)); (first | exact patR_get (by assumption) | exact valR_get (by assumption) | exact row_map (by assumption) | assumption))
      | (apply s_lit tab_ok tabZ_ok; (iterate 10 (exact rfl))) | (apply s_lit1 tab_ok tabZ_ok; (iterate 9 (exact rfl)); (first | exact patD_len _ | exact valD_len _)) | (apply s_app tab_ok tabZ_ok; (iterate 13 (exact rfl)); (first | (simp; done) | (simp; omega))) | (apply s_eql_t; (iterate 5 (exact rfl)); omega) | (apply s_eql_f; (iterate 5 (exact rfl)); omega)
      | (apply s_lss_t; (iterate 5 (exact rfl)); omega) | (apply s_lss_f; (iterate 5 (exact rfl)); omega) | (apply s_add64; (iterate 5 (exact rfl)); omega)
      | refine al_nil ?_ | refine q_then_n ?_ | refine q_blk_n ?_ | refine q_blk_r ?_ | refine q_blk_e ?_
      | refine q_blk_o rfl ?_ | refine q_then_e ?_ | refine aw_block ?_ | refine aw_exit ?_ | refine q_then_r ?_
      | refine aw_seq ?_ | refine aw_reg ?_ | refine aw_true rfl ?_ | refine aw_false rfl ?_ | refine aw_skip ?_
      | refine aw_ret ?_)
  refine w_adoptF 7 41 8 rfl ?_
  intro loc σ hc
  refine w_loop [0, 1, 2, 7, 8] (fun n vs σ => ∃ k ver : Nat, vs = [.d (patsD l), .d (.v (.int .i64 c)), .d (.v (.int .i64 (f : Int))), .own loc ver 8 0 (patR (kidsL (l.take k) c f)).length, .d (.v (.int .i64 (k : Int)))] ∧ σ[loc]? = some (.arr 41 8 ver (patR (kidsL (l.take k) c f))) ∧ k ≤ l.length ∧ n = l.length - k) rfl ⟨0, 0, rfl, hc.at', by omega, rfl⟩ ?_
  clear hc
  rintro n vs σ ⟨k, ver, rfl, hA, hk, rfl⟩ fr hfr
  cases hfr
  have lk : (kidsL (l.take k) c f).length ≤ 1000000000 := Nat.le_trans (kidsL_length _ _ _) (by rw [List.length_take]; omega)
  have ek := patR_len (kidsL (l.take k) c f)
  by_cases hlt : k < l.length
  · obtain ⟨⟨qk, qn, qi, qs, qa, qb, qc, ql⟩, hq⟩ := getS hlt
    have hql : ql.length ≤ 1000000000 := hs _ (List.mem_of_getElem? hq)
    have e2 := patR_len ql
    by_cases h5 : qk = 5
    · by_cases hn : qn = c
      · by_cases hfl : f < ql.length
        · obtain ⟨r, hr⟩ := getS hfl
          have ht := kids_yes (c := c) hq h5 hn hr
          repeat' (first
      | refine s_op rfl ?_ | (apply s_skipV; (iterate 2 (exact rfl))) | (apply s_skipU; (iterate 3 (exact rfl))) | (apply s_move; (iterate 4 (exact rfl))) | (apply s_fa_p tab_ok; (iterate 5 (exact rfl)))
      | (apply s_fa_f tab_ok; (iterate 6 (exact rfl))) | (apply s_ld_p tab_ok; (iterate 7 (exact rfl))) | (apply s_ld_f tab_ok; (iterate 6 (exact rfl))) | (apply s_ld_w tab_ok; (iterate 5 (exact rfl)); (first | exact patD_len _ | exact valD_len _)) | (apply s_assign; (iterate 4 (exact rfl)))
      | (apply s_pick_t; (iterate 5 (exact rfl))) | (apply s_pick_f; (iterate 5 (exact rfl))) | (apply s_len tab_ok; (iterate 5 (exact rfl))) | (apply s_lens str_ok; (iterate 4 (exact rfl))) | (apply s_idx tab_ok; (iterate 7 (exact rfl)); (first | exact patR_get (by assumption) | exact valR_get (by assumption) | exact row_map (by assumption) | assumption))
      | (apply s_lit tab_ok tabZ_ok; (iterate 10 (exact rfl))) | (apply s_lit1 tab_ok tabZ_ok; (iterate 9 (exact rfl)); (first | exact patD_len _ | exact valD_len _)) | (apply s_eql_t; (iterate 5 (exact rfl)); omega) | (apply s_eql_f; (iterate 5 (exact rfl)); omega) | (apply s_lss_t; (iterate 5 (exact rfl)); omega)
      | (apply s_lss_f; (iterate 5 (exact rfl)); omega) | (apply s_add64; (iterate 5 (exact rfl)); omega)
      | (apply s_appF tab_ok tabZ_ok (rows2 := [patD r]) (rows3 := patR (kidsL (l.take (k + 1)) c f)) (m := (patR (kidsL (l.take (k + 1)) c f)).length); (iterate 10 (exact rfl)); exact hA; exact src_of (Tab.slIs tab_ok (t := 26) rfl) (rows_d rfl); (rw [ht, patR_append, patR_one]); (rw [ht, patR_append, patR_one]; simp; omega); intro σ hc; replace hA := hc.at'; clear hc)
      | refine al_nil ?_ | refine q_then_n ?_ | refine q_blk_n ?_ | refine q_blk_r ?_ | refine q_blk_e ?_
      | refine q_blk_o rfl ?_ | refine q_then_e ?_ | refine aw_block ?_ | refine aw_exit ?_ | refine q_then_r ?_
      | refine aw_seq ?_ | refine aw_reg ?_ | refine aw_true rfl ?_ | refine aw_false rfl ?_ | refine aw_skip ?_
      | refine aw_ret ?_)
          exact ⟨_, _, rfl, by omega, k + 1, _, rfl, hA, by omega, rfl⟩
        · have ht := kids_no (c := c) (k := f) hq (fun q => hfl q.2.2)
          repeat' (first
      | refine s_op rfl ?_ | (apply s_skipV; (iterate 2 (exact rfl))) | (apply s_skipU; (iterate 3 (exact rfl))) | (apply s_move; (iterate 4 (exact rfl))) | (apply s_fa_p tab_ok; (iterate 5 (exact rfl)))
      | (apply s_fa_f tab_ok; (iterate 6 (exact rfl))) | (apply s_ld_p tab_ok; (iterate 7 (exact rfl))) | (apply s_ld_f tab_ok; (iterate 6 (exact rfl))) | (apply s_ld_w tab_ok; (iterate 5 (exact rfl)); (first | exact patD_len _ | exact valD_len _)) | (apply s_assign; (iterate 4 (exact rfl)))
      | (apply s_pick_t; (iterate 5 (exact rfl))) | (apply s_pick_f; (iterate 5 (exact rfl))) | (apply s_len tab_ok; (iterate 5 (exact rfl))) | (apply s_lens str_ok; (iterate 4 (exact rfl))) | (apply s_idx tab_ok; (iterate 7 (exact rfl)); (first | exact patR_get (by assumption) | exact valR_get (by assumption) | exact row_map (by assumption) | assumption))
      | (apply s_lit tab_ok tabZ_ok; (iterate 10 (exact rfl))) | (apply s_lit1 tab_ok tabZ_ok; (iterate 9 (exact rfl)); (first | exact patD_len _ | exact valD_len _)) | (apply s_app tab_ok tabZ_ok; (iterate 13 (exact rfl)); (first | (simp; done) | (simp; omega))) | (apply s_eql_t; (iterate 5 (exact rfl)); omega) | (apply s_eql_f; (iterate 5 (exact rfl)); omega)
      | (apply s_lss_t; (iterate 5 (exact rfl)); omega) | (apply s_lss_f; (iterate 5 (exact rfl)); omega) | (apply s_add64; (iterate 5 (exact rfl)); omega)
      | refine al_nil ?_ | refine q_then_n ?_ | refine q_blk_n ?_ | refine q_blk_r ?_ | refine q_blk_e ?_
      | refine q_blk_o rfl ?_ | refine q_then_e ?_ | refine aw_block ?_ | refine aw_exit ?_ | refine q_then_r ?_
      | refine aw_seq ?_ | refine aw_reg ?_ | refine aw_true rfl ?_ | refine aw_false rfl ?_ | refine aw_skip ?_
      | refine aw_ret ?_)
          exact ⟨_, _, rfl, by omega, k + 1, ver, by rw [ht]; rfl, by rw [ht]; exact hA, by omega, rfl⟩
      · have ht := kids_no (c := c) (k := f) hq (fun q => hn q.2.1)
        repeat' (first
      | refine s_op rfl ?_ | (apply s_skipV; (iterate 2 (exact rfl))) | (apply s_skipU; (iterate 3 (exact rfl))) | (apply s_move; (iterate 4 (exact rfl))) | (apply s_fa_p tab_ok; (iterate 5 (exact rfl)))
      | (apply s_fa_f tab_ok; (iterate 6 (exact rfl))) | (apply s_ld_p tab_ok; (iterate 7 (exact rfl))) | (apply s_ld_f tab_ok; (iterate 6 (exact rfl))) | (apply s_ld_w tab_ok; (iterate 5 (exact rfl)); (first | exact patD_len _ | exact valD_len _)) | (apply s_assign; (iterate 4 (exact rfl)))
      | (apply s_pick_t; (iterate 5 (exact rfl))) | (apply s_pick_f; (iterate 5 (exact rfl))) | (apply s_len tab_ok; (iterate 5 (exact rfl))) | (apply s_lens str_ok; (iterate 4 (exact rfl))) | (apply s_idx tab_ok; (iterate 7 (exact rfl)); (first | exact patR_get (by assumption) | exact valR_get (by assumption) | exact row_map (by assumption) | assumption))
      | (apply s_lit tab_ok tabZ_ok; (iterate 10 (exact rfl))) | (apply s_lit1 tab_ok tabZ_ok; (iterate 9 (exact rfl)); (first | exact patD_len _ | exact valD_len _)) | (apply s_app tab_ok tabZ_ok; (iterate 13 (exact rfl)); (first | (simp; done) | (simp; omega))) | (apply s_eql_t; (iterate 5 (exact rfl)); omega) | (apply s_eql_f; (iterate 5 (exact rfl)); omega)
      | (apply s_lss_t; (iterate 5 (exact rfl)); omega) | (apply s_lss_f; (iterate 5 (exact rfl)); omega) | (apply s_add64; (iterate 5 (exact rfl)); omega)
      | refine al_nil ?_ | refine q_then_n ?_ | refine q_blk_n ?_ | refine q_blk_r ?_ | refine q_blk_e ?_
      | refine q_blk_o rfl ?_ | refine q_then_e ?_ | refine aw_block ?_ | refine aw_exit ?_ | refine q_then_r ?_
      | refine aw_seq ?_ | refine aw_reg ?_ | refine aw_true rfl ?_ | refine aw_false rfl ?_ | refine aw_skip ?_
      | refine aw_ret ?_)
        exact ⟨_, _, rfl, by omega, k + 1, ver, by rw [ht]; rfl, by rw [ht]; exact hA, by omega, rfl⟩
    · have ht := kids_no (c := c) (k := f) hq (fun q => h5 q.1)
      repeat' (first
      | refine s_op rfl ?_ | (apply s_skipV; (iterate 2 (exact rfl))) | (apply s_skipU; (iterate 3 (exact rfl))) | (apply s_move; (iterate 4 (exact rfl))) | (apply s_fa_p tab_ok; (iterate 5 (exact rfl)))
      | (apply s_fa_f tab_ok; (iterate 6 (exact rfl))) | (apply s_ld_p tab_ok; (iterate 7 (exact rfl))) | (apply s_ld_f tab_ok; (iterate 6 (exact rfl))) | (apply s_ld_w tab_ok; (iterate 5 (exact rfl)); (first | exact patD_len _ | exact valD_len _)) | (apply s_assign; (iterate 4 (exact rfl)))
      | (apply s_pick_t; (iterate 5 (exact rfl))) | (apply s_pick_f; (iterate 5 (exact rfl))) | (apply s_len tab_ok; (iterate 5 (exact rfl))) | (apply s_lens str_ok; (iterate 4 (exact rfl))) | (apply s_idx tab_ok; (iterate 7 (exact rfl)); (first | exact patR_get (by assumption) | exact valR_get (by assumption) | exact row_map (by assumption) | assumption))
      | (apply s_lit tab_ok tabZ_ok; (iterate 10 (exact rfl))) | (apply s_lit1 tab_ok tabZ_ok; (iterate 9 (exact rfl)); (first | exact patD_len _ | exact valD_len _)) | (apply s_app tab_ok tabZ_ok; (iterate 13 (exact rfl)); (first | (simp; done) | (simp; omega))) | (apply s_eql_t; (iterate 5 (exact rfl)); omega) | (apply s_eql_f; (iterate 5 (exact rfl)); omega)
      | (apply s_lss_t; (iterate 5 (exact rfl)); omega) | (apply s_lss_f; (iterate 5 (exact rfl)); omega) | (apply s_add64; (iterate 5 (exact rfl)); omega)
      | refine al_nil ?_ | refine q_then_n ?_ | refine q_blk_n ?_ | refine q_blk_r ?_ | refine q_blk_e ?_
      | refine q_blk_o rfl ?_ | refine q_then_e ?_ | refine aw_block ?_ | refine aw_exit ?_ | refine q_then_r ?_
      | refine aw_seq ?_ | refine aw_reg ?_ | refine aw_true rfl ?_ | refine aw_false rfl ?_ | refine aw_skip ?_
      | refine aw_ret ?_)
      exact ⟨_, _, rfl, by omega, k + 1, ver, by rw [ht]; rfl, by rw [ht]; exact hA, by omega, rfl⟩
  · rw [List.take_of_length_le (by omega)] at hA
    rw [List.take_of_length_le (by omega)]
    repeat' (first
      | refine s_op rfl ?_ | (apply s_skipV; (iterate 2 (exact rfl))) | (apply s_skipU; (iterate 3 (exact rfl))) | (apply s_move; (iterate 4 (exact rfl))) | (apply s_fa_p tab_ok; (iterate 5 (exact rfl)))
      | (apply s_fa_f tab_ok; (iterate 6 (exact rfl))) | (apply s_ld_p tab_ok; (iterate 7 (exact rfl))) | (apply s_ld_f tab_ok; (iterate 6 (exact rfl))) | (apply s_ld_w tab_ok; (iterate 5 (exact rfl)); (first | exact patD_len _ | exact valD_len _)) | (apply s_assign; (iterate 4 (exact rfl)))
      | (apply s_pick_t; (iterate 5 (exact rfl))) | (apply s_pick_f; (iterate 5 (exact rfl))) | (apply s_len tab_ok; (iterate 5 (exact rfl))) | (apply s_lens str_ok; (iterate 4 (exact rfl))) | (apply s_idx tab_ok; (iterate 7 (exact rfl)); (first | exact patR_get (by assumption) | exact valR_get (by assumption) | exact row_map (by assumption) | assumption))
      | (apply s_lit tab_ok tabZ_ok; (iterate 10 (exact rfl))) | (apply s_lit1 tab_ok tabZ_ok; (iterate 9 (exact rfl)); (first | exact patD_len _ | exact valD_len _)) | (apply s_app tab_ok tabZ_ok; (iterate 13 (exact rfl)); (first | (simp; done) | (simp; omega))) | (apply s_eql_t; (iterate 5 (exact rfl)); omega) | (apply s_eql_f; (iterate 5 (exact rfl)); omega)
      | (apply s_lss_t; (iterate 5 (exact rfl)); omega) | (apply s_lss_f; (iterate 5 (exact rfl)); omega) | (apply s_add64; (iterate 5 (exact rfl)); omega)
      | refine al_nil ?_ | refine q_then_n ?_ | refine q_blk_n ?_ | refine q_blk_r ?_ | refine q_blk_e ?_
      | refine q_blk_o rfl ?_ | refine q_then_e ?_ | refine aw_block ?_ | refine aw_exit ?_ | refine q_then_r ?_
      | refine aw_seq ?_ | refine aw_reg ?_ | refine aw_true rfl ?_ | refine aw_false rfl ?_ | refine aw_skip ?_
      | refine aw_ret ?_)
    exact q_ret rfl ⟨loc, ver, 41, rfl, hA⟩
end Go.Proofs.Ytjflembhgjcgkaa
