/- C49: At, Alike, has, First, of the tree. -/
import Derived.Test.YtjflembhgjcgkaaTP10C24
import Derived.Test.YtjflembhgjcgkaaTP10M20
import Derived.Test.YtjflembhgjcgkaaTP10XAhAiAj
import Derived.Test.YtjflembhgjcgkaaTP10C5
set_option linter.unusedSimpArgs false
set_option linter.unusedVariables false
namespace Go.Proofs.Ytjflembhgjcgkaa
open Go.RowKit

def zeroVl : Val := .mk 0 0 ⟨#[]⟩ []
def atD : Option Val → DV
  | none => .tup [.agg (valD zeroVl), .v (.bool false)]
  | some w => .tup [.agg (valD w), .v (.bool true)]
def rowV : List DV := [.v (.int .u8 0), .v (.int .i64 0), .v (.string ⟨#[]⟩), .nil]
theorem wk_at : Wk (.tup [.agg rowV, .v (.bool false)]) (atD none) := Wk.tup ⟨Wk.agg ⟨Wk.refl _, Wk.refl _, Wk.refl _, Wk.nil 4, trivial⟩, Wk.refl _, trivial⟩
theorem at_no {v : Val} {i : Int} {path : List Int} (h : i < 0 ∨ (v.l.length : Int) ≤ i) : atF v (i :: path) = none := by
  simp only [atF]
  split
  · rfl
  · rw [List.getElem?_eq_none (by omega)]
theorem at_yes {v w : Val} {i : Nat} {path : List Int} (h : v.l[i]? = some w) : atF v ((i : Int) :: path) = atF w path := by
  simp only [atF]
  rw [if_neg (by omega), Int.toNat_natCast, h]
set_option maxRecDepth 100000 in
set_option maxHeartbeats 4000000 in
theorem at41_c (v : Val) (hv : v.small 9223372036854775807) (path : List Int) (hp : path.length ≤ 9223372036854775807) : RunsP Try.prog 41 [.agg (valD v), intsD path] (fun r => r = atD (atF v path)) := by
  refine RunsP.weak ?_
  obtain ⟨vk, vn, vs, vl⟩ := v
  have e2 : (path.map intRow).length = path.length := by simp
  refine enterPB 31 tab_ok Try.func41 rfl (by kernel_rfl) rfl rfl rfl ?_
  repeat' (first | refine s_op rfl ?_ | (apply s_move; (iterate 4 (exact rfl))) | (apply s_assign; (iterate 4 (exact rfl))) | (apply s_len tab_ok; (iterate 5 (exact rfl))) | (apply s_boxF (d := 2); (iterate 6 (exact rfl)); intro locP σ hc; have hP := hc.at'; clear hc) | (apply s_allocF tabZ_ok (d := 4); (iterate 6 (exact rfl)); intro locR σ hc; have hR := hc.at'; have nPR := hc.ne hP; replace hP := hc.keep hP; clear hc) | refine al_nil ?_ | refine q_then_n ?_ | refine aw_block ?_ | refine aw_seq ?_ | refine aw_reg ?_)
  refine w_loop [2, 4, 8, 9, 10] (fun n0 vs' σ => ∃ (j : Nat) (k n : Int) (s : ByteArray) (l : List Val), vs' = [.ptr locP 0 0, .ptr locR 0 0, .d (intsD path), .d (.v (.int .i64 ((path.map intRow).length : Int))), .d (.v (.int .i64 (j : Int)))] ∧ σ[locP]? = some (.row 60 ((valD (.mk k n s l)).map .d)) ∧ σ[locR]? = some (.row 60 (rowV.map .d)) ∧ Val.small 9223372036854775807 (.mk k n s l) ∧ j ≤ path.length ∧ n0 = path.length - j ∧ atF (.mk vk vn vs vl) path = atF (.mk k n s l) (path.drop j)) rfl ⟨0, _, _, _, _, rfl, hP, hR, hv, by omega, rfl, rfl⟩ ?_
  clear hR hP hv
  rintro n0 vs' σ ⟨j, k, n, s, l, rfl, hP, hR, hv, hj, rfl, hs⟩ fr hfr
  cases hfr
  have e1 := valR_len l
  have hl : l.length ≤ 9223372036854775807 := hv.1
  by_cases hlt : j < path.length
  · obtain ⟨x, hx⟩ := getS hlt
    rw [drop_get hx] at hs
    by_cases hn : x < 0
    · rw [at_no (.inl hn)] at hs
      repeat' (first | refine s_op rfl ?_ | (apply s_skipV; (iterate 2 (exact rfl))) | (apply s_move; (iterate 4 (exact rfl))) | (apply s_ld_f tab_ok; (iterate 6 (exact rfl))) | (apply s_assign; (iterate 4 (exact rfl))) | (apply s_pick_t; (iterate 5 (exact rfl))) | (apply s_idx tab_ok; (iterate 7 (exact rfl)); (first | exact patR_get (by assumption) | exact valR_get (by assumption) | exact row_map (by assumption) | exact brR_get (by assumption) | exact treeR_get (by assumption) | assumption)) | (apply s_build tabZ_ok; (iterate 5 (exact rfl))) | (apply s_lss_t; (iterate 5 (exact rfl)); omega) | (apply s_storeF tab_ok; (iterate 7 (exact rfl)); exact hR; (iterate 2 (exact rfl)); intro σ hc; replace hR := hc.at'; clear hc) | refine al_nil ?_ | refine q_then_n ?_ | refine q_blk_r ?_ | refine aw_block ?_ | refine q_then_r ?_ | refine aw_seq ?_ | refine aw_reg ?_ | refine aw_true rfl ?_ | refine aw_skip ?_ | refine aw_ret ?_)
      all_goals exact q_retB (resB_2 rfl (resV_c (t := 60) rfl rfl hR rfl) (resV_t rfl) rfl) ⟨_, rfl, by rw [hs]; exact wk_at⟩
    · obtain ⟨m, rfl⟩ : ∃ m : Nat, x = m := ⟨x.toNat, by omega⟩
      by_cases hm : m < l.length
      · obtain ⟨⟨uk, un, us, ul⟩, hu⟩ := getS hm
        rw [at_yes (v := .mk k n s l) hu] at hs
        have hus := Val.small_get hv hu
        repeat' (first | refine s_op rfl ?_ | (apply s_move; (iterate 4 (exact rfl))) | (apply s_fa_p tab_ok; (iterate 5 (exact rfl))) | (apply s_ld_f tab_ok; (iterate 6 (exact rfl))) | (apply s_assign; (iterate 4 (exact rfl))) | (apply s_pick_f; (iterate 5 (exact rfl))) | (apply s_len tab_ok; (iterate 5 (exact rfl))) | (apply s_idx tab_ok; (iterate 7 (exact rfl)); (first | exact patR_get (by assumption) | exact valR_get (by assumption) | exact row_map (by assumption) | exact brR_get (by assumption) | exact treeR_get (by assumption) | assumption)) | (apply s_lss_t; (iterate 5 (exact rfl)); omega) | (apply s_lss_f; (iterate 5 (exact rfl)); omega) | (apply s_geq_f; (iterate 5 (exact rfl)); omega) | (apply s_add64; (iterate 5 (exact rfl)); omega) | (apply s_ldF tab_ok; (iterate 5 (exact rfl)); exact hP; exact rfl) | (apply s_storeF tab_ok; (iterate 7 (exact rfl)); exact hP; (iterate 2 (exact rfl)); intro σ hc; replace hP := hc.at'; replace hR := hc.keep (by first | assumption | (apply Ne.symm; assumption) | omega) hR; clear hc) | refine al_nil ?_ | refine q_then_n ?_ | refine q_blk_n ?_ | refine aw_block ?_ | refine aw_seq ?_ | refine aw_reg ?_ | refine aw_true rfl ?_ | refine aw_false rfl ?_ | refine aw_skip ?_)
        all_goals exact ⟨_, _, rfl, by omega, j + 1, _, _, _, _, rfl, hP, hR, hus, by omega, rfl, hs⟩
      · rw [at_no (v := .mk k n s l) (.inr (by simp only [Val.l]; omega))] at hs
        repeat' (first | refine s_op rfl ?_ | (apply s_move; (iterate 4 (exact rfl))) | (apply s_fa_p tab_ok; (iterate 5 (exact rfl))) | (apply s_ld_f tab_ok; (iterate 6 (exact rfl))) | (apply s_assign; (iterate 4 (exact rfl))) | (apply s_pick_f; (iterate 5 (exact rfl))) | (apply s_len tab_ok; (iterate 5 (exact rfl))) | (apply s_idx tab_ok; (iterate 7 (exact rfl)); (first | exact patR_get (by assumption) | exact valR_get (by assumption) | exact row_map (by assumption) | exact brR_get (by assumption) | exact treeR_get (by assumption) | assumption)) | (apply s_build tabZ_ok; (iterate 5 (exact rfl))) | (apply s_lss_t; (iterate 5 (exact rfl)); omega) | (apply s_lss_f; (iterate 5 (exact rfl)); omega) | (apply s_geq_t; (iterate 5 (exact rfl)); omega) | (apply s_ldF tab_ok; (iterate 5 (exact rfl)); exact hP; exact rfl) | (apply s_storeF tab_ok; (iterate 7 (exact rfl)); exact hR; (iterate 2 (exact rfl)); intro σ hc; replace hR := hc.at'; clear hc) | refine al_nil ?_ | refine q_then_n ?_ | refine q_blk_r ?_ | refine aw_block ?_ | refine q_then_r ?_ | refine aw_seq ?_ | refine aw_reg ?_ | refine aw_true rfl ?_ | refine aw_skip ?_ | refine aw_ret ?_)
        all_goals exact q_retB (resB_2 rfl (resV_c (t := 60) rfl rfl hR rfl) (resV_t rfl) rfl) ⟨_, rfl, by rw [hs]; exact wk_at⟩
  · have hd : path.drop j = [] := List.drop_eq_nil_of_le (by omega)
    rw [hd] at hs
    repeat' (first | refine s_op rfl ?_ | (apply s_assign; (iterate 4 (exact rfl))) | (apply s_lss_f; (iterate 5 (exact rfl)); omega) | (apply s_ldF tab_ok; (iterate 5 (exact rfl)); exact hP; exact rfl) | (apply s_storeF tab_ok; (iterate 7 (exact rfl)); exact hR; (iterate 2 (exact rfl)); intro σ hc; replace hR := hc.at'; clear hc) | refine al_nil ?_ | refine q_then_n ?_ | refine q_blk_e ?_ | refine q_then_e ?_ | refine aw_exit ?_ | refine aw_seq ?_ | refine aw_reg ?_ | refine aw_false rfl ?_ | refine aw_ret ?_)
    all_goals exact q_retB (resB_2 rfl (resV_c (t := 60) rfl rfl hR rfl) (resV_t rfl) rfl) ⟨_, rfl, by rw [hs]; exact Wk.refl _⟩

/-! has. -/
set_option maxRecDepth 100000 in
set_option maxHeartbeats 4000000 in
theorem hasT_c (t : TreeT) (v : Val) : RunsP Try.prog 101 [.agg (brD t), .agg (valD v)] (fun r => r = .v (.bool (hasB t v))) := by
  obtain ⟨bk, bn, bi, bs, tk, tn, tp, tc, te⟩ := t
  obtain ⟨k, n, s, l⟩ := v
  have e1 := valR_len l
  have hl0 : l = [] ↔ l.length = 0 := List.length_eq_zero_iff.symm
  simp only [hasB, TreeT.bk, TreeT.bn, TreeT.bi, TreeT.bs, Val.kind, Val.n, Val.s, Val.l, hl0]
  refine enterP 54 Try.func101 rfl (by kernel_rfl) rfl rfl rfl ?_
  by_cases h3 : bk = 3
  · rw [if_pos h3]
    repeat' (first | refine s_op rfl ?_ | (apply s_skipV; (iterate 2 (exact rfl))) | (apply s_move; (iterate 4 (exact rfl))) | (apply s_fa_f tab_ok; (iterate 6 (exact rfl))) | (apply s_ld_f tab_ok; (iterate 6 (exact rfl))) | (apply s_assign; (iterate 4 (exact rfl))) | (apply s_pick_t; (iterate 5 (exact rfl))) | (apply s_pick_f; (iterate 5 (exact rfl))) | (apply s_boxZ; (iterate 5 (exact rfl)); first | exact rfl | exact allD_mapd _) | (apply s_eql_t; (iterate 5 (exact rfl)); omega) | (apply s_eqlS; (iterate 5 (exact rfl)); all_goals intro _) | refine al_nil ?_ | refine q_then_n ?_ | refine q_blk_r ?_ | refine aw_block ?_ | refine q_then_r ?_ | refine aw_seq ?_ | refine aw_reg ?_ | refine aw_true rfl ?_ | refine aw_ret ?_)
    all_goals (refine q_ret rfl ⟨_, rfl, ?_⟩; simp_all)
  · rw [if_neg h3]
    by_cases h4 : bk = 4
    · rw [if_pos h4]
      repeat' (first | refine s_op rfl ?_ | (apply s_skipV; (iterate 2 (exact rfl))) | (apply s_move; (iterate 4 (exact rfl))) | (apply s_fa_f tab_ok; (iterate 6 (exact rfl))) | (apply s_ld_f tab_ok; (iterate 6 (exact rfl))) | (apply s_assign; (iterate 4 (exact rfl))) | (apply s_pick_t; (iterate 5 (exact rfl))) | (apply s_pick_f; (iterate 5 (exact rfl))) | (apply s_boxZ; (iterate 5 (exact rfl)); first | exact rfl | exact allD_mapd _) | (apply s_eql_t; (iterate 5 (exact rfl)); omega) | (apply s_eql_f; (iterate 5 (exact rfl)); omega) | (apply s_eqlS; (iterate 5 (exact rfl)); all_goals intro _) | (apply s_streqS; (iterate 5 (exact rfl)); all_goals intro _) | refine al_nil ?_ | refine q_then_n ?_ | refine q_blk_r ?_ | refine aw_block ?_ | refine q_then_r ?_ | refine aw_seq ?_ | refine aw_reg ?_ | refine aw_true rfl ?_ | refine aw_false rfl ?_ | refine aw_ret ?_)
      all_goals (refine q_ret rfl ⟨_, rfl, ?_⟩; simp_all)
    · rw [if_neg h4]
      by_cases h5 : bk = 5
      · rw [if_pos h5]
        by_cases g1 : k = 11
        · by_cases g2 : n = bn
          · repeat' (first | refine s_op rfl ?_ | (apply s_skipV; (iterate 2 (exact rfl))) | (apply s_skipU; (iterate 3 (exact rfl))) | (apply s_move; (iterate 4 (exact rfl))) | (apply s_fa_f tab_ok; (iterate 6 (exact rfl))) | (apply s_ld_f tab_ok; (iterate 6 (exact rfl))) | (apply s_assign; (iterate 4 (exact rfl))) | (apply s_pick_t; (iterate 5 (exact rfl))) | (apply s_boxZ; (iterate 5 (exact rfl)); first | exact rfl | exact allD_mapd _) | (apply s_eql_t; (iterate 5 (exact rfl)); omega) | (apply s_eql_f; (iterate 5 (exact rfl)); omega) | refine al_nil ?_ | refine q_then_n ?_ | refine q_blk_r ?_ | refine aw_block ?_ | refine q_then_r ?_ | refine aw_seq ?_ | refine aw_reg ?_ | refine aw_true rfl ?_ | refine aw_false rfl ?_ | refine aw_ret ?_)
            all_goals (refine q_ret rfl ⟨_, rfl, ?_⟩; simp [g1, g2])
          · repeat' (first | refine s_op rfl ?_ | (apply s_skipV; (iterate 2 (exact rfl))) | (apply s_skipU; (iterate 3 (exact rfl))) | (apply s_move; (iterate 4 (exact rfl))) | (apply s_fa_f tab_ok; (iterate 6 (exact rfl))) | (apply s_ld_f tab_ok; (iterate 6 (exact rfl))) | (apply s_assign; (iterate 4 (exact rfl))) | (apply s_pick_t; (iterate 5 (exact rfl))) | (apply s_boxZ; (iterate 5 (exact rfl)); first | exact rfl | exact allD_mapd _) | (apply s_eql_t; (iterate 5 (exact rfl)); omega) | (apply s_eql_f; (iterate 5 (exact rfl)); omega) | refine al_nil ?_ | refine q_then_n ?_ | refine q_blk_r ?_ | refine aw_block ?_ | refine q_then_r ?_ | refine aw_seq ?_ | refine aw_reg ?_ | refine aw_true rfl ?_ | refine aw_false rfl ?_ | refine aw_ret ?_)
            all_goals (refine q_ret rfl ⟨_, rfl, ?_⟩; simp [g1, g2])
        · by_cases g3 : k = 4
          · by_cases g4 : l.length = 0
            · by_cases g2 : n = bn
              · repeat' (first | refine s_op rfl ?_ | (apply s_move; (iterate 4 (exact rfl))) | (apply s_fa_f tab_ok; (iterate 6 (exact rfl))) | (apply s_ld_f tab_ok; (iterate 6 (exact rfl))) | (apply s_assign; (iterate 4 (exact rfl))) | (apply s_pick_t; (iterate 5 (exact rfl))) | (apply s_pick_f; (iterate 5 (exact rfl))) | (apply s_len tab_ok; (iterate 5 (exact rfl))) | (apply s_boxZ; (iterate 5 (exact rfl)); first | exact rfl | exact allD_mapd _) | (apply s_eql_t; (iterate 5 (exact rfl)); omega) | (apply s_eql_f; (iterate 5 (exact rfl)); omega) | refine al_nil ?_ | refine q_then_n ?_ | refine q_blk_r ?_ | refine aw_block ?_ | refine q_then_r ?_ | refine aw_seq ?_ | refine aw_reg ?_ | refine aw_true rfl ?_ | refine aw_false rfl ?_ | refine aw_ret ?_)
                all_goals (refine q_ret rfl ⟨_, rfl, ?_⟩; simp [g1, g2, g3, g4])
              · repeat' (first | refine s_op rfl ?_ | (apply s_move; (iterate 4 (exact rfl))) | (apply s_fa_f tab_ok; (iterate 6 (exact rfl))) | (apply s_ld_f tab_ok; (iterate 6 (exact rfl))) | (apply s_assign; (iterate 4 (exact rfl))) | (apply s_pick_t; (iterate 5 (exact rfl))) | (apply s_pick_f; (iterate 5 (exact rfl))) | (apply s_len tab_ok; (iterate 5 (exact rfl))) | (apply s_boxZ; (iterate 5 (exact rfl)); first | exact rfl | exact allD_mapd _) | (apply s_eql_t; (iterate 5 (exact rfl)); omega) | (apply s_eql_f; (iterate 5 (exact rfl)); omega) | refine al_nil ?_ | refine q_then_n ?_ | refine q_blk_r ?_ | refine aw_block ?_ | refine q_then_r ?_ | refine aw_seq ?_ | refine aw_reg ?_ | refine aw_true rfl ?_ | refine aw_false rfl ?_ | refine aw_ret ?_)
                all_goals (refine q_ret rfl ⟨_, rfl, ?_⟩; simp [g1, g2, g3, g4])
            · repeat' (first | refine s_op rfl ?_ | (apply s_skipV; (iterate 2 (exact rfl))) | (apply s_move; (iterate 4 (exact rfl))) | (apply s_fa_f tab_ok; (iterate 6 (exact rfl))) | (apply s_ld_f tab_ok; (iterate 6 (exact rfl))) | (apply s_assign; (iterate 4 (exact rfl))) | (apply s_pick_t; (iterate 5 (exact rfl))) | (apply s_pick_f; (iterate 5 (exact rfl))) | (apply s_len tab_ok; (iterate 5 (exact rfl))) | (apply s_boxZ; (iterate 5 (exact rfl)); first | exact rfl | exact allD_mapd _) | (apply s_eql_t; (iterate 5 (exact rfl)); omega) | (apply s_eql_f; (iterate 5 (exact rfl)); omega) | refine al_nil ?_ | refine q_then_n ?_ | refine q_blk_r ?_ | refine aw_block ?_ | refine q_then_r ?_ | refine aw_seq ?_ | refine aw_reg ?_ | refine aw_true rfl ?_ | refine aw_false rfl ?_ | refine aw_ret ?_)
              all_goals (refine q_ret rfl ⟨_, rfl, ?_⟩; simp [g1, g3, g4])
          · repeat' (first | refine s_op rfl ?_ | (apply s_skipV; (iterate 2 (exact rfl))) | (apply s_move; (iterate 4 (exact rfl))) | (apply s_fa_f tab_ok; (iterate 6 (exact rfl))) | (apply s_ld_f tab_ok; (iterate 6 (exact rfl))) | (apply s_assign; (iterate 4 (exact rfl))) | (apply s_pick_f; (iterate 5 (exact rfl))) | (apply s_boxZ; (iterate 5 (exact rfl)); first | exact rfl | exact allD_mapd _) | (apply s_eql_t; (iterate 5 (exact rfl)); omega) | (apply s_eql_f; (iterate 5 (exact rfl)); omega) | refine al_nil ?_ | refine q_then_n ?_ | refine q_blk_r ?_ | refine aw_block ?_ | refine q_then_r ?_ | refine aw_seq ?_ | refine aw_reg ?_ | refine aw_true rfl ?_ | refine aw_false rfl ?_ | refine aw_ret ?_)
            all_goals (refine q_ret rfl ⟨_, rfl, ?_⟩; simp [g1, g3])
      · rw [if_neg h5]
        repeat' (first | refine s_op rfl ?_ | (apply s_fa_f tab_ok; (iterate 6 (exact rfl))) | (apply s_ld_f tab_ok; (iterate 6 (exact rfl))) | (apply s_assign; (iterate 4 (exact rfl))) | (apply s_boxZ; (iterate 5 (exact rfl)); first | exact rfl | exact allD_mapd _) | (apply s_eql_f; (iterate 5 (exact rfl)); omega) | refine al_nil ?_ | refine q_then_n ?_ | refine q_blk_n ?_ | refine aw_block ?_ | refine aw_seq ?_ | refine aw_reg ?_ | refine aw_false rfl ?_ | refine aw_skip ?_ | refine aw_ret ?_)
        all_goals exact q_ret rfl ⟨_, rfl, rfl⟩

/-! First. -/
set_option maxRecDepth 100000 in
theorem at82_c (p : Pat) (v : Val) (h : RunsP Try.prog 32 [.agg (patD p), .agg (valD v)] (fun r => r = .v (.bool (fitsB p v)))) : RunsP Try.prog 82 [.agg (patD p), .fptr (valD v)] (fun r => r = .v (.bool (fitsB p v))) := by
  refine enterP 7 Try.func82 rfl (by kernel_rfl) rfl rfl rfl ?_
  repeat' (first | refine s_op rfl ?_ | (apply s_ld_w tab_ok; (iterate 5 (exact rfl)); (first | exact patD_len _ | exact valD_len _ | exact brD_len _ | exact treeD_len _)) | (apply s_assign; (iterate 4 (exact rfl))) | (apply s_boxZ; (iterate 5 (exact rfl)); first | exact rfl | exact allD_mapd _) | (apply s_call; (iterate 6 (exact rfl)); first | (exact h; rintro _ rfl)) | refine al_nil ?_ | refine q_then_n ?_ | refine aw_seq ?_ | refine aw_reg ?_ | refine aw_ret ?_)
  exact q_ret rfl ⟨_, rfl, rfl⟩
theorem first_here {l : List Pat} {v : Val} {k : Nat} {p : Pat} (h1 : (l.take k).any (fun p => fitsB p v) = false) (hp : l[k]? = some p) (h2 : fitsB p v = true) : firstF l v = some k := by
  unfold firstF
  rw [List.findIdx?_eq_some_iff_getElem]
  have hk := List.getElem?_eq_some_iff.1 hp
  refine ⟨hk.1, by rw [hk.2]; exact h2, fun j hj => ?_⟩
  rw [List.any_eq_false] at h1
  have hk1 := hk.1
  have hjl : j < (l.take k).length := by rw [List.length_take]; omega
  have := h1 (l.take k)[j] (List.getElem_mem _)
  rw [List.getElem_take] at this
  exact this
theorem first_not {l : List Pat} {v : Val} (h1 : l.any (fun p => fitsB p v) = false) : firstF l v = none := by
  unfold firstF
  rw [List.findIdx?_eq_none_iff]
  intro p hp
  rw [List.any_eq_false] at h1
  simpa using h1 p hp
def idxD (o : Option Nat) : DV := .v (.int .i64 (match o with | some k => (k : Int) | none => -1))
set_option maxRecDepth 100000 in
theorem index81_c (l : List Pat) (v : Val) (hl : l.length ≤ 9223372036854775807) (h : ∀ p ∈ l, RunsP Try.prog 32 [.agg (patD p), .agg (valD v)] (fun r => r = .v (.bool (fitsB p v)))) :
    RunsP Try.prog 81 [patsD l, .clo (.func 82) [] [.fptr (valD v)]] (fun r => r = idxD (firstF l v)) := by
  refine enterP 19 Try.func81 rfl (by kernel_rfl) rfl rfl rfl ?_
  have e1 := patR_len l
  repeat' (first | refine s_op rfl ?_ | (apply s_move; (iterate 4 (exact rfl))) | (apply s_assign; (iterate 4 (exact rfl))) | (apply s_len tab_ok; (iterate 5 (exact rfl))) | refine al_nil ?_ | refine q_then_n ?_ | refine aw_block ?_ | refine aw_seq ?_ | refine aw_reg ?_)
  refine w_loop [0, 1, 7, 8] (fun n vs σ => ∃ k : Nat, vs = [.d (patsD l), .d (.clo (.func 82) [] [.fptr (valD v)]), .d (.v (.int .i64 ((patR l).length : Int))), .d (.v (.int .i64 (k : Int)))] ∧ σ = [] ∧ k ≤ l.length ∧ n = l.length - k ∧ (l.take k).any (fun p => fitsB p v) = false) rfl ⟨0, rfl, rfl, by omega, rfl, by simp⟩ ?_
  rintro n vs σ ⟨k, rfl, rfl, hk, rfl, hp'⟩ fr hfr
  cases hfr
  by_cases hlt : k < l.length
  · obtain ⟨q, hq⟩ := getS hlt
    have hr := at82_c q v (h q (List.mem_of_getElem? hq))
    cases hb : fitsB q v <;> rw [hb] at hr
    · repeat' (first | refine s_op rfl ?_ | (apply s_move; (iterate 4 (exact rfl))) | (apply s_ld_w tab_ok; (iterate 5 (exact rfl)); (first | exact patD_len _ | exact valD_len _ | exact brD_len _ | exact treeD_len _)) | (apply s_assign; (iterate 4 (exact rfl))) | (apply s_idx tab_ok; (iterate 7 (exact rfl)); (first | exact patR_get (by assumption) | exact valR_get (by assumption) | exact row_map (by assumption) | exact brR_get (by assumption) | exact treeR_get (by assumption) | assumption)) | (apply s_lss_t; (iterate 5 (exact rfl)); omega) | (apply s_add64; (iterate 5 (exact rfl)); omega) | (apply s_call; (iterate 6 (exact rfl)); first | (exact hr; rintro _ rfl)) | refine al_nil ?_ | refine q_then_n ?_ | refine q_blk_n ?_ | refine aw_block ?_ | refine aw_seq ?_ | refine aw_reg ?_ | refine aw_true rfl ?_ | refine aw_false rfl ?_ | refine aw_skip ?_)
      exact ⟨_, _, rfl, by omega, k + 1, rfl, rfl, by omega, rfl, any_take hp' hq hb⟩
    · repeat' (first | refine s_op rfl ?_ | (apply s_move; (iterate 4 (exact rfl))) | (apply s_ld_w tab_ok; (iterate 5 (exact rfl)); (first | exact patD_len _ | exact valD_len _ | exact brD_len _ | exact treeD_len _)) | (apply s_assign; (iterate 4 (exact rfl))) | (apply s_idx tab_ok; (iterate 7 (exact rfl)); (first | exact patR_get (by assumption) | exact valR_get (by assumption) | exact row_map (by assumption) | exact brR_get (by assumption) | exact treeR_get (by assumption) | assumption)) | (apply s_lss_t; (iterate 5 (exact rfl)); omega) | (apply s_call; (iterate 6 (exact rfl)); first | (exact hr; rintro _ rfl)) | refine al_nil ?_ | refine q_then_n ?_ | refine q_blk_r ?_ | refine aw_block ?_ | refine q_then_r ?_ | refine aw_seq ?_ | refine aw_reg ?_ | refine aw_true rfl ?_ | refine aw_skip ?_ | refine aw_ret ?_)
      exact q_ret rfl ⟨_, rfl, by rw [first_here hp' hq hb]; rfl⟩
  · repeat' (first | refine s_op rfl ?_ | (apply s_assign; (iterate 4 (exact rfl))) | (apply s_lss_f; (iterate 5 (exact rfl)); omega) | refine al_nil ?_ | refine q_then_n ?_ | refine q_blk_e ?_ | refine q_then_e ?_ | refine aw_exit ?_ | refine aw_seq ?_ | refine aw_reg ?_ | refine aw_false rfl ?_ | refine aw_ret ?_)
    exact q_ret rfl ⟨_, rfl, by rw [first_not (by rwa [List.take_of_length_le (by omega)] at hp')]; rfl⟩
def firstD (o : Option Nat) : DV := .tup [.v (.int .i64 (match o with | some k => (k : Int) | none => 0)), .v (.bool o.isSome)]
set_option maxRecDepth 100000 in
theorem First39_c (l : List Pat) (v : Val) (hl : l.length ≤ 9223372036854775807) (h : ∀ p ∈ l, RunsP Try.prog 32 [.agg (patD p), .agg (valD v)] (fun r => r = .v (.bool (fitsB p v)))) :
    RunsP Try.prog 39 [patsD l, .agg (valD v)] (fun r => r = firstD (firstF l v)) := by
  have hi := index81_c l v hl h
  obtain ⟨vk, vn, vs, vl⟩ := v
  have hlen : ∀ k, firstF l (.mk vk vn vs vl) = some k → k < l.length := fun k e => by
    unfold firstF at e
    exact (List.findIdx?_eq_some_iff_getElem.1 e).1
  refine enterPB 14 tab_ok Try.func39 rfl (by kernel_rfl) rfl rfl rfl ?_
  cases hf : firstF l (.mk vk vn vs vl) with
  | none =>
    rw [hf] at hi
    have hi : RunsP Try.prog 81 [patsD l, .clo (.func 82) [] [.fptr (valD (.mk vk vn vs vl))]] (fun r => r = .v (.int .i64 (-1))) := hi
    have hm : (if (0 : Int) > -1 then (0 : Int) else -1) = 0 := rfl
    repeat' (first | refine s_op rfl ?_ | (apply s_move; (iterate 4 (exact rfl))) | (apply s_assign; (iterate 4 (exact rfl))) | (apply s_mkf; (iterate 4 (exact rfl))) | (apply s_boxZ; (iterate 5 (exact rfl)); first | exact rfl | exact allD_mapd _) | (apply s_geq_f; (iterate 5 (exact rfl)); omega) | (apply s_max; (iterate 5 (exact rfl))) | (apply s_call; (iterate 6 (exact rfl)); first | (exact hi; rintro _ rfl)) | refine al_nil ?_ | refine q_then_n ?_ | refine aw_seq ?_ | refine aw_reg ?_ | refine aw_ret ?_)
    exact q_retB (resB_2 rfl (resV_t rfl) (resV_t rfl) rfl) ⟨_, rfl, rfl⟩
  | some k =>
    rw [hf] at hi
    have hi : RunsP Try.prog 81 [patsD l, .clo (.func 82) [] [.fptr (valD (.mk vk vn vs vl))]] (fun r => r = .v (.int .i64 (k : Int))) := hi
    have hkl := hlen k hf
    repeat' (first | refine s_op rfl ?_ | (apply s_move; (iterate 4 (exact rfl))) | (apply s_assign; (iterate 4 (exact rfl))) | (apply s_mkf; (iterate 4 (exact rfl))) | (apply s_boxZ; (iterate 5 (exact rfl)); first | exact rfl | exact allD_mapd _) | (apply s_geq_t; (iterate 5 (exact rfl)); omega) | (apply s_max; (iterate 5 (exact rfl))) | (apply s_call; (iterate 6 (exact rfl)); first | (exact hi; rintro _ rfl)) | refine al_nil ?_ | refine q_then_n ?_ | refine aw_seq ?_ | refine aw_reg ?_ | refine aw_ret ?_)
    refine q_retB (resB_2 rfl (resV_t rfl) (resV_t rfl) rfl) ⟨_, rfl, ?_⟩
    have hm : (if (0 : Int) > (k : Int) then (0 : Int) else (k : Int)) = k := if_neg (by omega)
    show DV.tup [.v (.int .i64 (if (0 : Int) > (k : Int) then (0 : Int) else (k : Int))), .v (.bool true)] = _
    rw [hm]
    rfl
end Go.Proofs.Ytjflembhgjcgkaa
