/- C50: step, Run, of the tree. -/
import Derived.Test.YtjflembhgjcgkaaTP10C49
import Derived.Test.YtjflembhgjcgkaaTP10XC40C41
set_option linter.unusedSimpArgs false
set_option linter.unusedVariables false
namespace Go.Proofs.Ytjflembhgjcgkaa
open Go.RowKit

def stepD (t : TreeT) : Option TreeT → DV
  | none => .tup [.agg (treeD t), .v (.bool false)]
  | some u => .tup [.agg (treeD u), .v (.bool true)]
theorem find_drop {α : Type} {f : α → Bool} {l : List α} {k : Nat} {x : α} (h : l[k]? = some x) : (l.drop k).find? f = if f x = true then some x else (l.drop (k + 1)).find? f := by
  rw [drop_get h, List.find?_cons]
  split <;> simp_all

section
variable {bk bn bi k n : Int} {bs : ByteArray} {p : List Int} {c e : List TreeT} {vk vn : Int} {vs : ByteArray} {vl : List Val}
def treeZ : List DV := [.v (.int .u8 0), .v (.int .i64 0), .nil, .nil, .nil]
set_option maxRecDepth 100000 in
set_option maxHeartbeats 4000000 in
theorem step_none (h : RunsP Try.prog 41 [.agg (valD (.mk vk vn vs vl)), intsD p] (fun r => r = atD none)) : RunsP Try.prog 80 [.agg (valD (.mk vk vn vs vl)), .agg (treeD (.mk bk bn bi bs k n p c e))] (fun r => r = stepD (.mk bk bn bi bs k n p c e) none) := by
  unfold atD zeroVl at h
  refine enterPB 43 tab_ok Try.func80 rfl (by kernel_rfl) rfl rfl rfl ?_
  repeat' (first | refine s_op rfl ?_ | (apply s_move; (iterate 4 (exact rfl))) | (apply s_fa_f tab_ok; (iterate 6 (exact rfl))) | (apply s_ld_f tab_ok; (iterate 6 (exact rfl))) | (apply s_assign; (iterate 4 (exact rfl))) | (apply s_ext; (iterate 5 (exact rfl))) | (apply s_boxZ; (iterate 5 (exact rfl)); first | exact rfl | exact allD_mapd _) | (apply s_not_f; (iterate 4 (exact rfl))) | (apply s_allocF tabZ_ok (d := 4); (iterate 6 (exact rfl)); intro locR σ hc; have hR := hc.at'; clear hc) | (apply s_allocF tabZ_ok (d := 6); (iterate 6 (exact rfl)); intro locW σ hc; have hW := hc.at'; have nRW := hc.ne hR; replace hR := hc.keep hR; clear hc) | (apply s_storeF tab_ok; (iterate 7 (exact rfl)); exact hW; (iterate 2 (exact rfl)); intro σ hc; replace hW := hc.at'; replace hR := hc.keep (by first | assumption | (apply Ne.symm; assumption) | omega) hR; clear hc) | (apply s_storeF tab_ok; (iterate 7 (exact rfl)); exact hR; (iterate 2 (exact rfl)); intro σ hc; replace hR := hc.at'; clear hc) | (apply s_call; (iterate 6 (exact rfl)); first | (exact h; rintro _ rfl)) | refine al_nil ?_ | refine q_then_n ?_ | refine q_then_r ?_ | refine aw_seq ?_ | refine aw_reg ?_ | refine aw_true rfl ?_ | refine aw_ret ?_)
  all_goals exact q_retB (resB_2 rfl (resV_c (t := 33) rfl rfl hR rfl) (resV_t rfl) rfl) ⟨_, rfl, rfl⟩
set_option maxRecDepth 100000 in
set_option maxHeartbeats 8000000 in
theorem step_some {w : Val} (h : RunsP Try.prog 41 [.agg (valD (.mk vk vn vs vl)), intsD p] (fun r => r = atD (some w))) (hc : c.length ≤ 9223372036854775807) : RunsP Try.prog 80 [.agg (valD (.mk vk vn vs vl)), .agg (treeD (.mk bk bn bi bs k n p c e))] (fun r => r = stepD (.mk bk bn bi bs k n p c e) (match c.find? fun c => hasB c w with | some c => some c | none => e.head?)) := by
  unfold atD at h
  have e1 := brR_len c
  have e2 := treeR_len e
  have hhas := fun t => hasT_c t w
  obtain ⟨wk, wn, ws, wl⟩ := w
  refine enterPB 43 tab_ok Try.func80 rfl (by kernel_rfl) rfl rfl rfl ?_
  repeat' (first | refine s_op rfl ?_ | (apply s_move; (iterate 4 (exact rfl))) | (apply s_fa_f tab_ok; (iterate 6 (exact rfl))) | (apply s_ld_f tab_ok; (iterate 6 (exact rfl))) | (apply s_assign; (iterate 4 (exact rfl))) | (apply s_len tab_ok; (iterate 5 (exact rfl))) | (apply s_ext; (iterate 5 (exact rfl))) | (apply s_boxZ; (iterate 5 (exact rfl)); first | exact rfl | exact allD_mapd _) | (apply s_not_t; (iterate 4 (exact rfl))) | (apply s_allocF tabZ_ok (d := 4); (iterate 6 (exact rfl)); intro locR σ hc; have hR := hc.at'; clear hc) | (apply s_allocF tabZ_ok (d := 6); (iterate 6 (exact rfl)); intro locW σ hc; have hW := hc.at'; have nRW := hc.ne hR; replace hR := hc.keep hR; clear hc) | (apply s_storeF tab_ok; (iterate 7 (exact rfl)); exact hW; (iterate 2 (exact rfl)); intro σ hc; replace hW := hc.at'; replace hR := hc.keep (by first | assumption | (apply Ne.symm; assumption) | omega) hR; clear hc) | (apply s_call; (iterate 6 (exact rfl)); first | (exact h; rintro _ rfl)) | refine al_nil ?_ | refine q_then_n ?_ | refine aw_block ?_ | refine aw_seq ?_ | refine aw_reg ?_ | refine aw_false rfl ?_ | refine aw_skip ?_)
  refine w_loop [3, 4, 6, 22, 23, 24] (fun n0 vs' σ => ∃ j : Nat, vs' = [.d (.fptr (treeD (.mk bk bn bi bs k n p c e))), .ptr locR 0 0, .ptr locW 0 0, .d (.lst 9 (brR c)), .d (.v (.int .i64 ((brR c).length : Int))), .d (.v (.int .i64 (j : Int)))] ∧ σ[locR]? = some (.row 33 (treeZ.map .d)) ∧ σ[locW]? = some (.row 60 ((valD (.mk wk wn ws wl)).map .d)) ∧ j ≤ c.length ∧ n0 = c.length - j ∧ (c.find? fun c => hasB c (.mk wk wn ws wl)) = (c.drop j).find? fun c => hasB c (.mk wk wn ws wl)) rfl ⟨0, rfl, hR, hW, by omega, rfl, rfl⟩ ?_
  clear hR hW
  rintro n0 vs' σ ⟨j, rfl, hR, hW, hj, rfl, hf⟩ fr hfr
  cases hfr
  by_cases hlt : j < c.length
  · obtain ⟨⟨xk, xn, xi, xs, tk, tn, tp, tc, te⟩, hx⟩ := getS hlt
    have hh := hhas (.mk xk xn xi xs tk tn tp tc te)
    rw [find_drop hx] at hf
    cases hb : hasB (.mk xk xn xi xs tk tn tp tc te) (.mk wk wn ws wl) <;> rw [hb] at hh hf
    · rw [if_neg (by decide)] at hf
      repeat' (first | refine s_op rfl ?_ | (apply s_move; (iterate 4 (exact rfl))) | (apply s_ld_f tab_ok; (iterate 6 (exact rfl))) | (apply s_idx tab_ok; (iterate 7 (exact rfl)); (first | exact patR_get (by assumption) | exact valR_get (by assumption) | exact row_map (by assumption) | exact brR_get (by assumption) | exact treeR_get (by assumption) | assumption)) | (apply s_lss_t; (iterate 5 (exact rfl)); omega) | (apply s_add64; (iterate 5 (exact rfl)); omega) | (apply s_allocF tabZ_ok (d := 9); (iterate 6 (exact rfl)); intro locB σ hc; have hB := hc.at'; have nRB := hc.ne hR; replace hR := hc.keep hR; have nWB := hc.ne hW; replace hW := hc.keep hW; clear hc) | (apply s_storeF tab_ok; (iterate 7 (exact rfl)); exact hB; (iterate 2 (exact rfl)); intro σ hc; replace hB := hc.at'; replace hR := hc.keep (by first | assumption | (apply Ne.symm; assumption) | omega) hR; replace hW := hc.keep (by first | assumption | (apply Ne.symm; assumption) | omega) hW; clear hc) | (apply s_ldF tab_ok; (iterate 5 (exact rfl)); (first | exact hB | exact hW | exact hR); exact rfl) | (apply s_call; (iterate 6 (exact rfl)); first | (exact hh; rintro _ rfl)) | refine al_nil ?_ | refine q_then_n ?_ | refine q_blk_n ?_ | refine aw_block ?_ | refine aw_seq ?_ | refine aw_reg ?_ | refine aw_true rfl ?_ | refine aw_false rfl ?_ | refine aw_skip ?_)
      all_goals exact ⟨_, _, rfl, by omega, j + 1, rfl, hR, hW, by omega, rfl, hf⟩
    · rw [if_pos rfl] at hf
      rw [hf]
      repeat' (first | refine s_op rfl ?_ | (apply s_fa_p tab_ok; (iterate 5 (exact rfl))) | (apply s_ld_f tab_ok; (iterate 6 (exact rfl))) | (apply s_assign; (iterate 4 (exact rfl))) | (apply s_idx tab_ok; (iterate 7 (exact rfl)); (first | exact patR_get (by assumption) | exact valR_get (by assumption) | exact row_map (by assumption) | exact brR_get (by assumption) | exact treeR_get (by assumption) | assumption)) | (apply s_lss_t; (iterate 5 (exact rfl)); omega) | (apply s_allocF tabZ_ok (d := 9); (iterate 6 (exact rfl)); intro locB σ hc; have hB := hc.at'; have nRB := hc.ne hR; replace hR := hc.keep hR; have nWB := hc.ne hW; replace hW := hc.keep hW; clear hc) | (apply s_storeF tab_ok; (iterate 7 (exact rfl)); exact hB; (iterate 2 (exact rfl)); intro σ hc; replace hB := hc.at'; replace hR := hc.keep (by first | assumption | (apply Ne.symm; assumption) | omega) hR; replace hW := hc.keep (by first | assumption | (apply Ne.symm; assumption) | omega) hW; clear hc) | (apply s_ldF tab_ok; (iterate 5 (exact rfl)); (first | exact hB | exact hW | exact hR); exact rfl) | (apply s_storeF tab_ok; (iterate 7 (exact rfl)); exact hR; (iterate 2 (exact rfl)); intro σ hc; replace hR := hc.at'; clear hc) | (apply s_call; (iterate 6 (exact rfl)); first | (exact hh; rintro _ rfl)) | refine al_nil ?_ | refine q_then_n ?_ | refine q_blk_r ?_ | refine aw_block ?_ | refine q_then_r ?_ | refine aw_seq ?_ | refine aw_reg ?_ | refine aw_true rfl ?_ | refine aw_skip ?_ | refine aw_ret ?_)
      all_goals exact q_retB (resB_2 rfl (resV_c (t := 33) rfl rfl hR rfl) (resV_t rfl) rfl) ⟨_, rfl, rfl⟩
  · have hd : c.drop j = [] := List.drop_eq_nil_of_le (by omega)
    rw [hd] at hf
    have hf : (c.find? fun c => hasB c (.mk wk wn ws wl)) = none := hf
    rw [hf]
    cases e with
    | nil =>
      have e3 : (treeR []).length = 0 := rfl
      repeat' (first | refine s_op rfl ?_ | (apply s_fa_f tab_ok; (iterate 6 (exact rfl))) | (apply s_ld_f tab_ok; (iterate 6 (exact rfl))) | (apply s_assign; (iterate 4 (exact rfl))) | (apply s_len tab_ok; (iterate 5 (exact rfl))) | (apply s_eql_t; (iterate 5 (exact rfl)); omega) | (apply s_lss_f; (iterate 5 (exact rfl)); omega) | (apply s_storeF tab_ok; (iterate 7 (exact rfl)); exact hR; (iterate 2 (exact rfl)); intro σ hc; replace hR := hc.at'; clear hc) | refine al_nil ?_ | refine q_then_n ?_ | refine q_blk_e ?_ | refine q_then_e ?_ | refine aw_exit ?_ | refine q_then_r ?_ | refine aw_seq ?_ | refine aw_reg ?_ | refine aw_true rfl ?_ | refine aw_false rfl ?_ | refine aw_ret ?_)
      all_goals exact q_retB (resB_2 rfl (resV_c (t := 33) rfl rfl hR rfl) (resV_t rfl) rfl) ⟨_, rfl, rfl⟩
    | cons u e =>
      obtain ⟨xk, xn, xi, xs, tk, tn, tp, tc, te⟩ := u
      simp only [List.length_cons] at e2
      repeat' (first | refine s_op rfl ?_ | (apply s_fa_f tab_ok; (iterate 6 (exact rfl))) | (apply s_ld_f tab_ok; (iterate 6 (exact rfl))) | (apply s_assign; (iterate 4 (exact rfl))) | (apply s_len tab_ok; (iterate 5 (exact rfl))) | (apply s_eql_f; (iterate 5 (exact rfl)); omega) | (apply s_lss_f; (iterate 5 (exact rfl)); omega) | (apply s_storeF tab_ok; (iterate 7 (exact rfl)); exact hR; (iterate 2 (exact rfl)); intro σ hc; replace hR := hc.at'; clear hc) | (apply s_idx tab_ok (row := treeD (.mk xk xn xi xs tk tn tp tc te)); (iterate 7 (exact rfl)); exact rfl) | refine al_nil ?_ | refine q_then_n ?_ | refine q_blk_e ?_ | refine q_then_e ?_ | refine aw_exit ?_ | refine aw_seq ?_ | refine aw_reg ?_ | refine aw_false rfl ?_ | refine aw_skip ?_ | refine aw_ret ?_)
      all_goals exact q_retB (resB_2 rfl (resV_c (t := 33) rfl rfl hR rfl) (resV_t rfl) rfl) ⟨_, rfl, rfl⟩
end
theorem step_c (t : TreeT) (ht : t.small) (v : Val) (hv : v.small 9223372036854775807) : RunsP Try.prog 80 [.agg (valD v), .agg (treeD t)] (fun r => r = stepD t (stepF t v)) := by
  obtain ⟨bk, bn, bi, bs, k, n, p, c, e⟩ := t
  have h := at41_c v hv p ht.1
  obtain ⟨vk, vn, vs, vl⟩ := v
  unfold stepF
  simp only [TreeT.path, TreeT.cases, TreeT.els]
  cases ha : atF (.mk vk vn vs vl) p with
  | none => rw [ha] at h; exact step_none h
  | some w => rw [ha] at h; exact step_some h ht.2.1

theorem run_two {t : TreeT} {v : Val} (h : t.kind = 2) : runF t v = some t.n := by rw [runF_def, if_pos h]
theorem run_three {t : TreeT} {v : Val} (h : t.kind = 3) : runF t v = (stepF t v).bind fun u => runF u v := by
  rw [runF_def, if_neg (by omega), if_pos h]; cases stepF t v <;> rfl
theorem run_else {t : TreeT} {v : Val} (h2 : t.kind ≠ 2) (h3 : t.kind ≠ 3) : runF t v = none := by rw [runF_def, if_neg h2, if_neg h3]
def runD (o : Option Int) : DV := match o with
  | some n => .tup [.v (.int .i64 n), .v (.bool true)]
  | none => .tup [.v (.int .i64 0), .v (.bool false)]
theorem step_small {t u : TreeT} {v : Val} (ht : t.small) (h : stepF t v = some u) : u.small := by
  obtain ⟨bk, bn, bi, bs, k, n, p, c, e⟩ := t
  obtain ⟨_, _, _, h4, h5⟩ := ht
  unfold stepF at h
  simp only [TreeT.path, TreeT.cases, TreeT.els] at h
  split at h
  · cases h
  · split at h
    · rename_i hf
      injection h with h
      subst h
      exact TreeT.smallL_mem h4 _ (List.mem_of_find?_eq_some hf)
    · cases e with
      | nil => cases h
      | cons x e => injection h with h; subst h; exact h5.1
set_option maxRecDepth 100000 in
set_option maxHeartbeats 8000000 in
theorem Run37_c (t : TreeT) (ht : t.small) (v : Val) (hv : v.small 9223372036854775807) : RunsP Try.prog 37 [.agg (treeD t), .agg (valD v)] (fun r => r = runD (runF t v)) := by
  obtain ⟨bk, bn, bi, bs, k, n, p, c, e⟩ := t
  obtain ⟨vk, vn, vs, vl⟩ := v
  refine enterPB 26 tab_ok Try.func37 rfl (by kernel_rfl) rfl rfl rfl ?_
  repeat' (first | refine s_op rfl ?_ | (apply s_assign; (iterate 4 (exact rfl))) | (apply s_boxF (d := 2); (iterate 6 (exact rfl)); intro locT σ hc; have hT := hc.at'; clear hc) | (apply s_boxZ; (iterate 5 (exact rfl)); first | exact rfl | exact allD_mapd _) | refine al_nil ?_ | refine q_then_n ?_ | refine aw_block ?_ | refine aw_seq ?_ | refine aw_reg ?_)
  refine w_loop [2, 3, 6] (fun n0 vs' σ => ∃ (ck cn ci : Int) (cs : ByteArray) (tk tn : Int) (tp : List Int) (tc te : List TreeT), vs' = [.ptr locT 0 0, .d (.fptr (valD (.mk vk vn vs vl))), .d (.clo (.func 80) [] [])] ∧ σ[locT]? = some (.row 33 ((treeD (.mk ck cn ci cs tk tn tp tc te)).map .d)) ∧ TreeT.small (.mk ck cn ci cs tk tn tp tc te) ∧ n0 = szT (.mk ck cn ci cs tk tn tp tc te) ∧ runF (.mk bk bn bi bs k n p c e) (.mk vk vn vs vl) = runF (.mk ck cn ci cs tk tn tp tc te) (.mk vk vn vs vl)) rfl ⟨bk, bn, bi, bs, k, n, p, c, e, rfl, hT, ht, rfl, rfl⟩ ?_
  clear hT ht
  rintro n0 vs' σ ⟨ck, cn, ci, cs, tk, tn, tp, tc, te, rfl, hT, ht, rfl, hr⟩ fr hfr
  cases hfr
  by_cases h3 : tk = 3
  · have hst := step_c (.mk ck cn ci cs tk tn tp tc te) ht (.mk vk vn vs vl) hv
    rw [run_three (t := .mk ck cn ci cs tk tn tp tc te) h3] at hr
    cases hs : stepF (.mk ck cn ci cs tk tn tp tc te) (.mk vk vn vs vl) with
    | none =>
      rw [hs] at hst hr
      unfold stepD at hst
      repeat' (first | refine s_op rfl ?_ | (apply s_move; (iterate 4 (exact rfl))) | (apply s_fa_p tab_ok; (iterate 5 (exact rfl))) | (apply s_ld_f tab_ok; (iterate 6 (exact rfl))) | (apply s_assign; (iterate 4 (exact rfl))) | (apply s_ext; (iterate 5 (exact rfl))) | (apply s_build tabZ_ok; (iterate 5 (exact rfl))) | (apply s_not_f; (iterate 4 (exact rfl))) | (apply s_eql_t; (iterate 5 (exact rfl)); omega) | (apply s_ldF tab_ok; (iterate 5 (exact rfl)); exact hT; exact rfl) | (apply s_storeF tab_ok; (iterate 7 (exact rfl)); exact hT; (iterate 2 (exact rfl)); intro σ hc; replace hT := hc.at'; clear hc) | (apply s_call; (iterate 6 (exact rfl)); first | (exact hst; rintro _ rfl)) | refine al_nil ?_ | refine q_then_n ?_ | refine q_blk_r ?_ | refine aw_block ?_ | refine q_then_r ?_ | refine aw_seq ?_ | refine aw_reg ?_ | refine aw_true rfl ?_ | refine aw_skip ?_ | refine aw_ret ?_)
      all_goals exact q_retB (resB_2 rfl (resV_t rfl) (resV_t rfl) rfl) ⟨_, rfl, by rw [hr]; rfl⟩
    | some u =>
      rw [hs] at hst hr
      have hsz := step_size hs
      have hsm := step_small ht hs
      unfold stepD at hst
      obtain ⟨uk, un, ui, us, xk, xn, xp, xc, xe⟩ := u
      repeat' (first | refine s_op rfl ?_ | (apply s_move; (iterate 4 (exact rfl))) | (apply s_fa_p tab_ok; (iterate 5 (exact rfl))) | (apply s_ld_f tab_ok; (iterate 6 (exact rfl))) | (apply s_assign; (iterate 4 (exact rfl))) | (apply s_ext; (iterate 5 (exact rfl))) | (apply s_build tabZ_ok; (iterate 5 (exact rfl))) | (apply s_not_t; (iterate 4 (exact rfl))) | (apply s_eql_t; (iterate 5 (exact rfl)); omega) | (apply s_ldF tab_ok; (iterate 5 (exact rfl)); exact hT; exact rfl) | (apply s_storeF tab_ok; (iterate 7 (exact rfl)); exact hT; (iterate 2 (exact rfl)); intro σ hc; replace hT := hc.at'; clear hc) | (apply s_call; (iterate 6 (exact rfl)); first | (exact hst; rintro _ rfl)) | refine al_nil ?_ | refine q_then_n ?_ | refine q_blk_n ?_ | refine aw_block ?_ | refine aw_seq ?_ | refine aw_reg ?_ | refine aw_true rfl ?_ | refine aw_false rfl ?_ | refine aw_skip ?_)
      all_goals exact ⟨_, _, rfl, hsz, uk, un, ui, us, xk, xn, xp, xc, xe, rfl, hT, hsm, rfl, hr⟩
  · by_cases h2 : tk = 2
    · rw [run_two (t := .mk ck cn ci cs tk tn tp tc te) h2] at hr
      repeat' (first | refine s_op rfl ?_ | (apply s_fa_p tab_ok; (iterate 5 (exact rfl))) | (apply s_assign; (iterate 4 (exact rfl))) | (apply s_eql_f; (iterate 5 (exact rfl)); omega) | (apply s_neq_f; (iterate 5 (exact rfl)); omega) | (apply s_ldF tab_ok; (iterate 5 (exact rfl)); exact hT; exact rfl) | refine al_nil ?_ | refine q_then_n ?_ | refine q_blk_e ?_ | refine q_then_e ?_ | refine aw_exit ?_ | refine aw_seq ?_ | refine aw_reg ?_ | refine aw_false rfl ?_ | refine aw_skip ?_ | refine aw_ret ?_)
      all_goals exact q_retB (resB_2 rfl (resV_t rfl) (resV_t rfl) rfl) ⟨_, rfl, by rw [hr]; rfl⟩
    · rw [run_else (t := .mk ck cn ci cs tk tn tp tc te) h2 h3] at hr
      repeat' (first | refine s_op rfl ?_ | (apply s_fa_p tab_ok; (iterate 5 (exact rfl))) | (apply s_assign; (iterate 4 (exact rfl))) | (apply s_eql_f; (iterate 5 (exact rfl)); omega) | (apply s_neq_t; (iterate 5 (exact rfl)); omega) | (apply s_ldF tab_ok; (iterate 5 (exact rfl)); exact hT; exact rfl) | refine al_nil ?_ | refine q_then_n ?_ | refine q_blk_e ?_ | refine q_then_e ?_ | refine aw_exit ?_ | refine q_then_r ?_ | refine aw_seq ?_ | refine aw_reg ?_ | refine aw_true rfl ?_ | refine aw_false rfl ?_ | refine aw_ret ?_)
      all_goals exact q_retB (resB_2 rfl (resV_t rfl) (resV_t rfl) rfl) ⟨_, rfl, by rw [hr]; rfl⟩
end Go.Proofs.Ytjflembhgjcgkaa
