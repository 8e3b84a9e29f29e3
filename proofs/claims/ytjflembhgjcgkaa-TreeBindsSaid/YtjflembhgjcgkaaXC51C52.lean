/- C51, C52: in one. -/
import Derived.Test.YtjflembhgjcgkaaC42
import Derived.Test.YtjflembhgjcgkaaC48
import Derived.Test.YtjflembhgjcgkaaXC32C47
set_option linter.unusedSimpArgs false
set_option linter.unusedVariables false
/- C51: the document's Binds. -/
-- ALLUNDEF -- BOXZ
-- LEN: patD_len valD_len brD_len treeD_len bindD_len
-- ROW: patR_get valR_get row_map brR_get treeR_get
namespace Go.Proofs.Ytjflembhgjcgkaa
open Go.RowKit

set_option maxRecDepth 100000 in
set_option maxHeartbeats 4000000 in
theorem rbinds_c : ∀ (p : Pat) (path : List Int), massP p + path.length ≤ 10000000 → RunsP Try.prog 19 [.agg (patD p), intsD path] (fun v => v = .lst 2 ((bindsF p path).map bindD)) := by
  refine rec_pat fun k n i s a b c l ih path hm => ?_
  have e1 := patR_len l
  have hml := massL_len l
  simp only [massP] at hm
  simp only [bindsF]
  by_cases h1 : k = 1
  · rw [if_pos h1]
    refine enterPB 39 tab_ok Try.func19 rfl (by kernel_rfl) rfl rfl rfl ?_
    repeat' (first | refine s_op rfl ?_ | (apply s_move; (iterate 4 (exact rfl))) | (apply s_fa_f tab_ok; (iterate 6 (exact rfl))) | (apply s_ld_f tab_ok; (iterate 6 (exact rfl))) | (apply s_assign; (iterate 4 (exact rfl))) | (apply s_build tabZ_ok; (iterate 5 (exact rfl))) | (apply s_boxZ; (iterate 5 (exact rfl)); first | exact rfl | exact allD_mapd _) | (apply s_lit tab_ok tabZ_ok; (iterate 10 (exact rfl))) | (apply s_eql_t; (iterate 5 (exact rfl)); omega) | refine al_nil ?_ | refine q_then_n ?_ | refine q_then_r ?_ | refine aw_seq ?_ | refine aw_reg ?_ | refine aw_true rfl ?_ | refine aw_ret ?_)
    all_goals exact q_retB (resB_1 rfl (resV_t rfl)) ⟨_, rfl, rfl⟩
  · rw [if_neg h1]
    by_cases h5 : k = 5
    · rw [if_pos h5]
      refine RunsP.ofOwn (rows := (bindsL l path 0).map bindD) ?_
      refine enter 39 Try.func19 rfl (by kernel_rfl) rfl rfl rfl ?_
      repeat' (first | refine s_op rfl ?_ | (apply s_fa_f tab_ok; (iterate 6 (exact rfl))) | (apply s_ld_f tab_ok; (iterate 6 (exact rfl))) | (apply s_assign; (iterate 4 (exact rfl))) | (apply s_boxZ; (iterate 5 (exact rfl)); first | exact rfl | exact allD_mapd _) | (apply s_eql_f; (iterate 5 (exact rfl)); omega) | refine al_nil ?_ | refine q_then_n ?_ | refine aw_block ?_ | refine aw_seq ?_ | refine aw_reg ?_ | refine aw_false rfl ?_ | refine aw_skip ?_)
      refine w_adoptF 5 47 2 rfl ?_
      intro loc σ hc
      have hA := hc.at'
      clear hc
      refine w_loop [1, 2, 5, 6] (fun n0 vs σ => ∃ j ver : Nat, vs = [.d (intsD path), .d (.fptr (patD (.mk k n i s a b c l))), .own loc ver 2 0 ((bindsL (l.take j) path 0).map bindD).length, .d (.v (.int .i64 (j : Int)))] ∧ σ[loc]? = some (.arr 47 2 ver ((bindsL (l.take j) path 0).map bindD)) ∧ j ≤ l.length ∧ n0 = l.length - j) rfl ⟨0, 0, rfl, by simpa [bindsL] using hA, by omega, rfl⟩ ?_
      clear hA
      rintro n0 vs σ ⟨j, ver, rfl, hA, hj, rfl⟩ fr hfr
      cases hfr
      by_cases hlt : j < l.length
      · obtain ⟨q, hq⟩ := getS hlt
        have hqm := massL_mem (List.mem_of_getElem? hq)
        have h1 := ih q (List.mem_of_getElem? hq) (path ++ [(j : Int)]) (by simp only [List.length_append, List.length_cons, List.length_nil]; omega)
        have h2 := below59_c path (j : Int) (by omega)
        have ht := binds_take (path := path) hq
        have hbl := bindsL_len (l.take (j + 1)) path 0
        have hmt2 : massL (l.take (j + 1)) ≤ massL l := by
          have := massL_append (l.take (j + 1)) (l.drop (j + 1))
          rw [List.take_append_drop] at this; omega
        rw [ht] at hbl
        repeat' (first | refine s_op rfl ?_ | (apply s_move; (iterate 4 (exact rfl))) | (apply s_fa_f tab_ok; (iterate 6 (exact rfl))) | (apply s_ld_f tab_ok; (iterate 6 (exact rfl))) | (apply s_ld_w tab_ok; (iterate 5 (exact rfl)); (first | exact patD_len _ | exact valD_len _ | exact brD_len _ | exact treeD_len _ | exact bindD_len _)) | (apply s_assign; (iterate 4 (exact rfl))) | (apply s_pick_t; (iterate 5 (exact rfl))) | (apply s_len tab_ok; (iterate 5 (exact rfl))) | (apply s_idx tab_ok; (iterate 7 (exact rfl)); (first | exact patR_get (by assumption) | exact valR_get (by assumption) | exact row_map (by assumption) | exact brR_get (by assumption) | exact treeR_get (by assumption) | assumption)) | (apply s_eql_t; (iterate 5 (exact rfl)); omega) | (apply s_lss_t; (iterate 5 (exact rfl)); omega) | (apply s_add64; (iterate 5 (exact rfl)); omega) | (apply s_appF tab_ok tabZ_ok (rows2 := (bindsF q (path ++ [(j : Int)])).map bindD) (rows3 := (bindsL (l.take (j + 1)) path 0).map bindD) (m := ((bindsL (l.take (j + 1)) path 0).map bindD).length); (iterate 10 (exact rfl)); exact hA; exact src_of (Tab.slIs tab_ok (t := 43) rfl) (rows_d rfl); (rw [ht, List.map_append]); (simp only [ht, List.length_map, List.length_append, and_true, true_and] at hbl ⊢; omega); intro σ hc; replace hA := hc.at'; clear hc) | (apply s_call; (iterate 6 (exact rfl)); first | (exact h2; rintro _ rfl) | (exact h1; rintro _ rfl)) | refine al_nil ?_ | refine q_then_n ?_ | refine q_blk_n ?_ | refine aw_block ?_ | refine aw_seq ?_ | refine aw_reg ?_ | refine aw_true rfl ?_ | refine aw_skip ?_ | refine aw_draws (id := 7) (trO [0, 1, 2, 3, 4, 5, 6, 7, 8, 9, 10, 11] .nil) [8, 9, 10] [10] mixed_ok (by kernel_rfl) ?_)
        all_goals exact ⟨_, _, rfl, by omega, j + 1, ver + 1, rfl, hA, by omega, rfl⟩
      · rw [List.take_of_length_le (by omega)] at hA
        rw [List.take_of_length_le (by omega)]
        repeat' (first | refine s_op rfl ?_ | (apply s_skipV; (iterate 2 (exact rfl))) | (apply s_move; (iterate 4 (exact rfl))) | (apply s_fa_f tab_ok; (iterate 6 (exact rfl))) | (apply s_ld_f tab_ok; (iterate 6 (exact rfl))) | (apply s_assign; (iterate 4 (exact rfl))) | (apply s_pick_f; (iterate 5 (exact rfl))) | (apply s_len tab_ok; (iterate 5 (exact rfl))) | (apply s_lss_f; (iterate 5 (exact rfl)); omega) | refine al_nil ?_ | refine q_then_n ?_ | refine q_blk_e ?_ | refine q_then_e ?_ | refine aw_exit ?_ | refine aw_seq ?_ | refine aw_reg ?_ | refine aw_false rfl ?_ | refine aw_ret ?_)
        all_goals exact q_ret rfl ⟨loc, ver, 47, rfl, hA⟩
    · rw [if_neg h5]
      refine RunsP.weak ?_
      refine enterPB 39 tab_ok Try.func19 rfl (by kernel_rfl) rfl rfl rfl ?_
      repeat' (first | refine s_op rfl ?_ | (apply s_fa_f tab_ok; (iterate 6 (exact rfl))) | (apply s_ld_f tab_ok; (iterate 6 (exact rfl))) | (apply s_assign; (iterate 4 (exact rfl))) | (apply s_boxZ; (iterate 5 (exact rfl)); first | exact rfl | exact allD_mapd _) | (apply s_eql_f; (iterate 5 (exact rfl)); omega) | refine al_nil ?_ | refine q_then_n ?_ | refine aw_block ?_ | refine aw_seq ?_ | refine aw_reg ?_ | refine aw_false rfl ?_ | refine aw_skip ?_)
      refine w_loop [2, 5, 6] (fun n0 vs σ => vs = [.d (.fptr (patD (.mk k n i s a b c l))), .d .nil, .d (.v (.int .i64 0))] ∧ n0 = 0) rfl ⟨rfl, rfl⟩ ?_
      rintro n0 vs σ ⟨rfl, rfl⟩ fr hfr
      cases hfr
      by_cases h0 : 0 < l.length
      · repeat' (first | refine s_op rfl ?_ | (apply s_move; (iterate 4 (exact rfl))) | (apply s_fa_f tab_ok; (iterate 6 (exact rfl))) | (apply s_ld_f tab_ok; (iterate 6 (exact rfl))) | (apply s_assign; (iterate 4 (exact rfl))) | (apply s_pick_t; (iterate 5 (exact rfl))) | (apply s_len tab_ok; (iterate 5 (exact rfl))) | (apply s_eql_f; (iterate 5 (exact rfl)); omega) | (apply s_lss_t; (iterate 5 (exact rfl)); omega) | refine al_nil ?_ | refine q_then_n ?_ | refine q_blk_e ?_ | refine q_then_e ?_ | refine aw_exit ?_ | refine aw_seq ?_ | refine aw_reg ?_ | refine aw_false rfl ?_ | refine aw_ret ?_)
        all_goals exact q_retB (resB_1 rfl (resV_t rfl)) ⟨_, rfl, Wk.nil 2⟩
      · repeat' (first | refine s_op rfl ?_ | (apply s_skipV; (iterate 2 (exact rfl))) | (apply s_move; (iterate 4 (exact rfl))) | (apply s_fa_f tab_ok; (iterate 6 (exact rfl))) | (apply s_ld_f tab_ok; (iterate 6 (exact rfl))) | (apply s_assign; (iterate 4 (exact rfl))) | (apply s_pick_f; (iterate 5 (exact rfl))) | (apply s_len tab_ok; (iterate 5 (exact rfl))) | (apply s_lss_f; (iterate 5 (exact rfl)); omega) | refine al_nil ?_ | refine q_then_n ?_ | refine q_blk_e ?_ | refine q_then_e ?_ | refine aw_exit ?_ | refine aw_seq ?_ | refine aw_reg ?_ | refine aw_false rfl ?_ | refine aw_ret ?_)
        all_goals exact q_retB (resB_1 rfl (resV_t rfl)) ⟨_, rfl, Wk.nil 2⟩

end Go.Proofs.Ytjflembhgjcgkaa

/- C52: the law's walk: TreeBinds. -/
-- ALLUNDEF -- BOXZ
-- LEN: patD_len valD_len brD_len treeD_len bindD_len
-- ROW: patR_get valR_get row_map brR_get treeR_get
namespace Go.Proofs.Ytjflembhgjcgkaa
open Go.RowKit

mutual
theorem binds_path : ∀ (p : Pat) (path : List Int) (b : BindT), b ∈ bindsF p path → b.path.length ≤ path.length + massP p
  | .mk k n i s a c d l, path, b, h => by
    simp only [bindsF] at h
    simp only [massP]
    split at h
    · rw [List.mem_singleton.1 h]; simp only; omega
    · split at h
      · have := bindsL_path l path 0 b h; omega
      · cases h
theorem bindsL_path : ∀ (l : List Pat) (path : List Int) (i : Nat) (b : BindT), b ∈ bindsL l path i → b.path.length ≤ path.length + 1 + massL l
  | [], _, _, b, h => by cases h
  | p :: l, path, i, b, h => by
    simp only [bindsL, List.mem_append] at h
    simp only [massL]
    rcases h with h | h
    · have := binds_path p _ b h
      simp only [List.length_append, List.length_cons, List.length_nil] at this
      omega
    · have := bindsL_path l path (i + 1) b h; omega
end
set_option maxRecDepth 100000 in
set_option maxHeartbeats 4000000 in
theorem treeBinds_c (hkn : RunsP Try.prog 12 [] (fun v => v = .v (.bool true))) (p : Pat) (hp : p.low) : RunsP Try.prog 4 [.agg (patD p)] (fun v => v = .v (.bool true)) := by
  have hsz := sizeZ_c (.mk 0 0 0 ⟨#[]⟩ 0 0 0 [p]) ⟨by simp [ByteArray.size], by simp, hp, trivial⟩ 0
  simp only [Pat.l] at hsz
  by_cases hm : massP p ≤ 3000
  · have hb := Binds_c p (by omega)
    have hr := (rbinds_c p [] (by simp; omega)).wkA (args' := [.agg (patD p), .nil]) (.cons (Wk.refl _) (.cons (Wk.nil 1) .nil))
    have hpl := fun b h => binds_path p [] b h
    have hbl := bindsF_len p []
    generalize bindsF p [] = L at hb hr hpl hbl
    have e1 : (L.map bindD).length = L.length := by simp
    obtain ⟨k, n, i, s, a, b, c, l⟩ := p
    refine enterPB 52 tab_ok Try.func4 rfl (by kernel_rfl) rfl rfl rfl ?_
    repeat' (first
      | refine s_op rfl ?_ | (apply s_skipV; (iterate 2 (exact rfl))) | (apply s_skipU; (iterate 3 (exact rfl))) | (apply s_move; (iterate 4 (exact rfl))) | (apply s_fa_p tab_ok; (iterate 5 (exact rfl)))
      | (apply s_fa_f tab_ok; (iterate 6 (exact rfl))) | (apply s_ld_p tab_ok; (iterate 7 (exact rfl))) | (apply s_ld_f tab_ok; (iterate 6 (exact rfl))) | (apply s_ld_w tab_ok; (iterate 5 (exact rfl)); (first | exact patD_len _ | exact valD_len _ | exact brD_len _ | exact treeD_len _ | exact bindD_len _)) | (apply s_assign; (iterate 4 (exact rfl)))
      | (apply s_pick_t; (iterate 5 (exact rfl))) | (apply s_pick_f; (iterate 5 (exact rfl))) | (apply s_len tab_ok; (iterate 5 (exact rfl))) | (apply s_lens str_ok; (iterate 4 (exact rfl))) | (apply s_idx tab_ok; (iterate 7 (exact rfl)); (first | exact patR_get (by assumption) | exact valR_get (by assumption) | exact row_map (by assumption) | exact brR_get (by assumption) | exact treeR_get (by assumption) | assumption))
      | (apply s_boxZ; (iterate 5 (exact rfl)); first | exact rfl | exact allD_mapd _) | (apply s_lit tab_ok tabZ_ok; (iterate 10 (exact rfl))) | (apply s_lit1 tab_ok tabZ_ok; (iterate 9 (exact rfl)); (first | exact patD_len _ | exact valD_len _ | exact brD_len _ | exact treeD_len _ | exact bindD_len _)) | (apply s_not_t; (iterate 4 (exact rfl))) | (apply s_not_f; (iterate 4 (exact rfl)))
      | (apply s_not; (iterate 4 (exact rfl))) | (apply s_neq_t; (iterate 5 (exact rfl)); omega) | (apply s_neq_f; (iterate 5 (exact rfl)); omega) | (apply s_lss_t; (iterate 5 (exact rfl)); omega) | (apply s_lss_f; (iterate 5 (exact rfl)); omega)
      | (apply s_gtr_t; (iterate 5 (exact rfl)); omega) | (apply s_gtr_f; (iterate 5 (exact rfl)); omega) | (apply s_add64; (iterate 5 (exact rfl)); omega)
      | (apply s_call; (iterate 6 (exact rfl)); exact hsz; rintro _ ⟨z, rfl, hz⟩)
      | (apply s_gtrS; (iterate 5 (exact rfl)); all_goals intro hz3)
      | (apply s_call; (iterate 6 (exact rfl)); first | (exact hkn; rintro _ rfl) | (exact hb; rintro _ rfl) | (exact hr; rintro _ rfl))
      | refine al_nil ?_ | refine q_then_n ?_ | refine q_blk_n ?_ | refine q_blk_r ?_ | refine q_blk_e ?_
      | refine q_blk_o rfl ?_ | refine q_then_e ?_ | refine aw_block ?_ | refine aw_exit ?_ | refine q_then_r ?_
      | refine aw_seq ?_ | refine aw_reg ?_ | refine aw_true rfl ?_ | refine aw_false rfl ?_ | refine aw_skip ?_
      | refine aw_ret ?_ | refine al_fork ?_ ?_ | refine al_fork3 ?_ ?_ ?_
      | refine aw_draws (id := 5) (trO [0, 2, 1, 3, 4, 5] .nil) [1, 3] [] mixed_ok (by kernel_rfl) ?_
      | refine aw_draws (id := 11) (trO [0, 1, 2, 3, 4, 5, 6, 7, 8, 9, 10, 11, 12, 13, 14, 15, 16, 17, 18, 19, 20, 21, 22, 23, 24] .nil) [22] [] mixed_ok (by kernel_rfl) ?_)
    · exact q_retB (resB_1 rfl (resV_t rfl)) ⟨_, rfl, rfl⟩
    all_goals
      refine w_loop [3, 4, 21, 22, 23] (fun n0 vs σ => ∃ j : Nat, vs = [.d (.lst 2 (L.map bindD)), .d (.lst 2 (L.map bindD)), .d (.lst 2 (L.map bindD)), .d (.v (.int .i64 ((L.map bindD).length : Int))), .d (.v (.int .i64 (j : Int)))] ∧ j ≤ L.length ∧ n0 = L.length - j) rfl ⟨0, rfl, by omega, rfl⟩ ?_
      rintro n0 vs σ ⟨j, rfl, hj, rfl⟩ fr hfr
      cases hfr
      by_cases hlt : j < L.length
      · obtain ⟨⟨bn, bp⟩, hx⟩ := getS hlt
        have hxl := hpl _ (List.mem_of_getElem? hx)
        simp only [List.length_nil] at hxl
        have hs := same20_c bp bp (by omega) (by omega)
        rw [decide_eq_true rfl] at hs
        have hx2 := row_map (f := bindD) hx
        repeat' (first
      | refine s_op rfl ?_ | (apply s_skipV; (iterate 2 (exact rfl))) | (apply s_skipU; (iterate 3 (exact rfl))) | (apply s_move; (iterate 4 (exact rfl))) | (apply s_fa_p tab_ok; (iterate 5 (exact rfl)))
      | (apply s_fa_f tab_ok; (iterate 6 (exact rfl))) | (apply s_ld_p tab_ok; (iterate 7 (exact rfl))) | (apply s_ld_f tab_ok; (iterate 6 (exact rfl))) | (apply s_ld_w tab_ok; (iterate 5 (exact rfl)); (first | exact patD_len _ | exact valD_len _ | exact brD_len _ | exact treeD_len _ | exact bindD_len _)) | (apply s_assign; (iterate 4 (exact rfl)))
      | (apply s_pick_t; (iterate 5 (exact rfl))) | (apply s_pick_f; (iterate 5 (exact rfl))) | (apply s_len tab_ok; (iterate 5 (exact rfl))) | (apply s_lens str_ok; (iterate 4 (exact rfl))) | (apply s_idx tab_ok; (iterate 7 (exact rfl)); (first | exact patR_get (by assumption) | exact valR_get (by assumption) | exact row_map (by assumption) | exact brR_get (by assumption) | exact treeR_get (by assumption) | assumption))
      | (apply s_boxZ; (iterate 5 (exact rfl)); first | exact rfl | exact allD_mapd _) | (apply s_lit tab_ok tabZ_ok; (iterate 10 (exact rfl))) | (apply s_lit1 tab_ok tabZ_ok; (iterate 9 (exact rfl)); (first | exact patD_len _ | exact valD_len _ | exact brD_len _ | exact treeD_len _ | exact bindD_len _)) | (apply s_not_t; (iterate 4 (exact rfl))) | (apply s_not_f; (iterate 4 (exact rfl)))
      | (apply s_not; (iterate 4 (exact rfl))) | (apply s_neq_t; (iterate 5 (exact rfl)); omega) | (apply s_neq_f; (iterate 5 (exact rfl)); omega) | (apply s_lss_t; (iterate 5 (exact rfl)); omega) | (apply s_lss_f; (iterate 5 (exact rfl)); omega)
      | (apply s_gtr_t; (iterate 5 (exact rfl)); omega) | (apply s_gtr_f; (iterate 5 (exact rfl)); omega) | (apply s_add64; (iterate 5 (exact rfl)); omega)
      | (apply s_call; (iterate 6 (exact rfl)); first | (exact hs; rintro _ rfl))
      | refine al_nil ?_ | refine q_then_n ?_ | refine q_blk_n ?_ | refine q_blk_r ?_ | refine q_blk_e ?_
      | refine q_blk_o rfl ?_ | refine q_then_e ?_ | refine aw_block ?_ | refine aw_exit ?_ | refine q_then_r ?_
      | refine aw_seq ?_ | refine aw_reg ?_ | refine aw_true rfl ?_ | refine aw_false rfl ?_ | refine aw_skip ?_
      | refine aw_ret ?_ | refine al_fork ?_ ?_ | refine al_fork3 ?_ ?_ ?_
      | refine aw_draws (id := 5) (trO [0, 2, 1, 3, 4, 5] .nil) [1, 3] [] mixed_ok (by kernel_rfl) ?_
      | refine aw_draws (id := 11) (trO [0, 1, 2, 3, 4, 5, 6, 7, 8, 9, 10, 11, 12, 13, 14, 15, 16, 17, 18, 19, 20, 21, 22, 23, 24] .nil) [22] [] mixed_ok (by kernel_rfl) ?_)
        all_goals exact ⟨_, _, rfl, by omega, j + 1, rfl, by omega, rfl⟩
      · repeat' (first
      | refine s_op rfl ?_ | (apply s_skipV; (iterate 2 (exact rfl))) | (apply s_skipU; (iterate 3 (exact rfl))) | (apply s_move; (iterate 4 (exact rfl))) | (apply s_fa_p tab_ok; (iterate 5 (exact rfl)))
      | (apply s_fa_f tab_ok; (iterate 6 (exact rfl))) | (apply s_ld_p tab_ok; (iterate 7 (exact rfl))) | (apply s_ld_f tab_ok; (iterate 6 (exact rfl))) | (apply s_ld_w tab_ok; (iterate 5 (exact rfl)); (first | exact patD_len _ | exact valD_len _ | exact brD_len _ | exact treeD_len _ | exact bindD_len _)) | (apply s_assign; (iterate 4 (exact rfl)))
      | (apply s_pick_t; (iterate 5 (exact rfl))) | (apply s_pick_f; (iterate 5 (exact rfl))) | (apply s_len tab_ok; (iterate 5 (exact rfl))) | (apply s_lens str_ok; (iterate 4 (exact rfl))) | (apply s_idx tab_ok; (iterate 7 (exact rfl)); (first | exact patR_get (by assumption) | exact valR_get (by assumption) | exact row_map (by assumption) | exact brR_get (by assumption) | exact treeR_get (by assumption) | assumption))
      | (apply s_boxZ; (iterate 5 (exact rfl)); first | exact rfl | exact allD_mapd _) | (apply s_lit tab_ok tabZ_ok; (iterate 10 (exact rfl))) | (apply s_lit1 tab_ok tabZ_ok; (iterate 9 (exact rfl)); (first | exact patD_len _ | exact valD_len _ | exact brD_len _ | exact treeD_len _ | exact bindD_len _)) | (apply s_not_t; (iterate 4 (exact rfl))) | (apply s_not_f; (iterate 4 (exact rfl)))
      | (apply s_not; (iterate 4 (exact rfl))) | (apply s_neq_t; (iterate 5 (exact rfl)); omega) | (apply s_neq_f; (iterate 5 (exact rfl)); omega) | (apply s_lss_t; (iterate 5 (exact rfl)); omega) | (apply s_lss_f; (iterate 5 (exact rfl)); omega)
      | (apply s_gtr_t; (iterate 5 (exact rfl)); omega) | (apply s_gtr_f; (iterate 5 (exact rfl)); omega) | (apply s_add64; (iterate 5 (exact rfl)); omega)
      | refine al_nil ?_ | refine q_then_n ?_ | refine q_blk_n ?_ | refine q_blk_r ?_ | refine q_blk_e ?_
      | refine q_blk_o rfl ?_ | refine q_then_e ?_ | refine aw_block ?_ | refine aw_exit ?_ | refine q_then_r ?_
      | refine aw_seq ?_ | refine aw_reg ?_ | refine aw_true rfl ?_ | refine aw_false rfl ?_ | refine aw_skip ?_
      | refine aw_ret ?_ | refine al_fork ?_ ?_ | refine al_fork3 ?_ ?_ ?_
      | refine aw_draws (id := 5) (trO [0, 2, 1, 3, 4, 5] .nil) [1, 3] [] mixed_ok (by kernel_rfl) ?_
      | refine aw_draws (id := 11) (trO [0, 1, 2, 3, 4, 5, 6, 7, 8, 9, 10, 11, 12, 13, 14, 15, 16, 17, 18, 19, 20, 21, 22, 23, 24] .nil) [22] [] mixed_ok (by kernel_rfl) ?_)
        all_goals exact q_retB (resB_1 rfl (resV_t rfl)) ⟨_, rfl, rfl⟩
  · obtain ⟨k, n, i, s, a, b, c, l⟩ := p
    have hml : massL [.mk k n i s a b c l] = massP (.mk k n i s a b c l) := by simp [massL]
    rw [hml] at hsz
    generalize massP (.mk k n i s a b c l) = M at hsz hm
    refine enterPB 52 tab_ok Try.func4 rfl (by kernel_rfl) rfl rfl rfl ?_
    repeat' (first
      | refine s_op rfl ?_ | (apply s_skipV; (iterate 2 (exact rfl))) | (apply s_skipU; (iterate 3 (exact rfl))) | (apply s_move; (iterate 4 (exact rfl))) | (apply s_fa_p tab_ok; (iterate 5 (exact rfl)))
      | (apply s_fa_f tab_ok; (iterate 6 (exact rfl))) | (apply s_ld_p tab_ok; (iterate 7 (exact rfl))) | (apply s_ld_f tab_ok; (iterate 6 (exact rfl))) | (apply s_ld_w tab_ok; (iterate 5 (exact rfl)); (first | exact patD_len _ | exact valD_len _ | exact brD_len _ | exact treeD_len _ | exact bindD_len _)) | (apply s_assign; (iterate 4 (exact rfl)))
      | (apply s_pick_t; (iterate 5 (exact rfl))) | (apply s_pick_f; (iterate 5 (exact rfl))) | (apply s_len tab_ok; (iterate 5 (exact rfl))) | (apply s_lens str_ok; (iterate 4 (exact rfl))) | (apply s_idx tab_ok; (iterate 7 (exact rfl)); (first | exact patR_get (by assumption) | exact valR_get (by assumption) | exact row_map (by assumption) | exact brR_get (by assumption) | exact treeR_get (by assumption) | assumption))
      | (apply s_boxZ; (iterate 5 (exact rfl)); first | exact rfl | exact allD_mapd _) | (apply s_lit tab_ok tabZ_ok; (iterate 10 (exact rfl))) | (apply s_lit1 tab_ok tabZ_ok; (iterate 9 (exact rfl)); (first | exact patD_len _ | exact valD_len _ | exact brD_len _ | exact treeD_len _ | exact bindD_len _)) | (apply s_not_t; (iterate 4 (exact rfl))) | (apply s_not_f; (iterate 4 (exact rfl)))
      | (apply s_not; (iterate 4 (exact rfl))) | (apply s_neq_t; (iterate 5 (exact rfl)); omega) | (apply s_neq_f; (iterate 5 (exact rfl)); omega) | (apply s_lss_t; (iterate 5 (exact rfl)); omega) | (apply s_lss_f; (iterate 5 (exact rfl)); omega)
      | (apply s_gtr_t; (iterate 5 (exact rfl)); omega) | (apply s_gtr_f; (iterate 5 (exact rfl)); omega) | (apply s_add64; (iterate 5 (exact rfl)); omega)
      | (apply s_call; (iterate 6 (exact rfl)); exact hsz; rintro _ ⟨z, rfl, hz⟩; have hz := hz.2 (by omega) (by omega); have hz3 : z > 3000 := by omega)
      | (apply s_call; (iterate 6 (exact rfl)); first | (exact hkn; rintro _ rfl))
      | refine al_nil ?_ | refine q_then_n ?_ | refine q_blk_n ?_ | refine q_blk_r ?_ | refine q_blk_e ?_
      | refine q_blk_o rfl ?_ | refine q_then_e ?_ | refine aw_block ?_ | refine aw_exit ?_ | refine q_then_r ?_
      | refine aw_seq ?_ | refine aw_reg ?_ | refine aw_true rfl ?_ | refine aw_false rfl ?_ | refine aw_skip ?_
      | refine aw_ret ?_ | refine al_fork ?_ ?_ | refine al_fork3 ?_ ?_ ?_
      | refine aw_draws (id := 5) (trO [0, 2, 1, 3, 4, 5] .nil) [1, 3] [] mixed_ok (by kernel_rfl) ?_
      | refine aw_draws (id := 11) (trO [0, 1, 2, 3, 4, 5, 6, 7, 8, 9, 10, 11, 12, 13, 14, 15, 16, 17, 18, 19, 20, 21, 22, 23, 24] .nil) [22] [] mixed_ok (by kernel_rfl) ?_)
    all_goals exact q_retB (resB_1 rfl (resV_t rfl)) ⟨_, rfl, rfl⟩
end Go.Proofs.Ytjflembhgjcgkaa
