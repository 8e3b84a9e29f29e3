/- XC31C66: C31, C66 in one. -/
import Derived.Test.YtjflembhgjcgkaaC28
import Derived.Test.YtjflembhgjcgkaaXC64C65M24
set_option linter.unusedSimpArgs false
set_option linter.unusedVariables false
/- C31: Covers, of the program. -/
-- ALLUNDEF -- BOXZ
-- DEF CLN: (apply s_callS; (iterate 6 (exact rfl)); exact hcl _; rintro _ σ ⟨loc, ver, rfl, hc⟩)
-- DEF AP: (apply s_appF tab_ok tabZ_ok (rows2 := [patD (.mk wk wn wi ws wa wb wc wl)]) (rows3 := patR l ++ [patD (.mk wk wn wi ws wa wb wc wl)]) (m := (patR l).length + 1); (iterate 10 (exact rfl)); exact hc.at'; exact src_of (Tab.slIs tab_ok (t := 26) rfl) (rows_d rfl); exact rfl; (refine ⟨rfl, ?_, rfl⟩; simp only [List.length_cons, List.length_nil]; omega); intro σ hc4; have hc5 := fresh_chg hc hc4; clear hc hc4)
-- DEF FRZ: (refine o_freezeF 16 rfl hc5.at' (by simp) ?_; intro σ hc6; clear hc5)
namespace Go.Proofs.Ytjflembhgjcgkaa
open Go.RowKit

section
variable {g : Sg} {l : List Pat} {p : Pat}
set_option maxRecDepth 100000 in
set_option maxHeartbeats 4000000 in
theorem covers_bad (hl : l.length ≤ 10000000) (hmay : RunsP Try.prog 24 [.agg (sigD g), patsD (l ++ [p])] (fun v => v = .v (.int .i64 2))) : RunsP Try.prog 28 [.agg (sigD g), patsD l, .agg (patD p)] (fun v => v = .tup [.v (.bool false), .v (.int .i64 2)]) := by
  have hcl := fun σ => cloneP_o (patR l) σ (by rw [patR_len]; omega)
  have e1 := patR_len l
  unfold patsD at hmay
  rw [patR_append] at hmay
  obtain ⟨wk, wn, wi, ws, wa, wb, wc, wl⟩ := p
  refine enterPB 32 tab_ok Try.func28 rfl (by kernel_rfl) rfl rfl rfl ?_
  repeat' (first | refine s_op rfl ?_ | (apply s_move; (iterate 4 (exact rfl))) | (apply s_ld_f tab_ok; (iterate 6 (exact rfl))) | (apply s_assign; (iterate 4 (exact rfl))) | (apply s_boxZ; (iterate 5 (exact rfl)); first | exact rfl | exact allD_mapd _) | (apply s_lit tab_ok tabZ_ok; (iterate 10 (exact rfl))) | (apply s_neq_t; (iterate 5 (exact rfl)); omega) | (apply s_callS; (iterate 6 (exact rfl)); exact hcl _; rintro _ σ ⟨loc, ver, rfl, hc⟩) | (apply s_appF tab_ok tabZ_ok (rows2 := [patD (.mk wk wn wi ws wa wb wc wl)]) (rows3 := patR l ++ [patD (.mk wk wn wi ws wa wb wc wl)]) (m := (patR l).length + 1); (iterate 10 (exact rfl)); exact hc.at'; exact src_of (Tab.slIs tab_ok (t := 26) rfl) (rows_d rfl); exact rfl; (refine ⟨rfl, ?_, rfl⟩; simp only [List.length_cons, List.length_nil]; omega); intro σ hc4; have hc5 := fresh_chg hc hc4; clear hc hc4) | (refine o_freezeF 16 rfl hc5.at' (by simp) ?_; intro σ hc6; clear hc5) | (apply s_call; (iterate 6 (exact rfl)); first | (exact hmay; rintro _ rfl)) | refine al_nil ?_ | refine q_then_n ?_ | refine q_then_r ?_ | refine aw_seq ?_ | refine aw_reg ?_ | refine aw_true rfl ?_ | refine aw_ret ?_ | refine al_fork ?_ ?_ | refine al_fork3 ?_ ?_ ?_ | refine aw_draws (id := 1) (trO [1] (.fork3 0 (.fork 2 (trO [3, 4, 5, 6, 7] .nil) 3 (.fork 2 (trO [4, 5, 6, 7] .nil) 4 (trO [2, 5, 6, 7] .nil))) 2 (.fork 0 (trO [3, 4, 5, 6, 7] .nil) 3 (.fork 0 (trO [4, 5, 6, 7] .nil) 4 (.fork 0 (trO [5, 6, 7] .nil) 5 (trO [0, 6, 7] .nil)))) 3 (.fork3 0 (.fork 2 (trO [4, 5, 6, 7] .nil) 4 (trO [2, 5, 6, 7] .nil)) 2 (.fork 0 (trO [4, 5, 6, 7] .nil) 4 (.fork 0 (trO [5, 6, 7] .nil) 5 (trO [0, 6, 7] .nil))) 4 (.fork 0 (trO [2, 5, 6, 7] .nil) 2 (.fork 0 (trO [5, 6, 7] .nil) 5 (trO [0, 6, 7] .nil)))))) [0, 2, 3, 4, 5, 6] [2, 5] mixed_ok (by kernel_rfl) ?_)
  all_goals exact q_retB (resB_2 rfl (resV_t rfl) (resV_t rfl) rfl) ⟨_, rfl, rfl⟩
set_option maxRecDepth 100000 in
set_option maxHeartbeats 4000000 in
theorem covers_ok (hl : l.length ≤ 10000000) (hmay : RunsP Try.prog 24 [.agg (sigD g), patsD (l ++ [p])] (fun v => v = .v (.int .i64 0))) {o : Option (List Pat)} (hu : RunsP Try.prog 63 [.agg (sigD g), rowsD (onesL l), patsD [p]] (fun v => v = resW o)) : RunsP Try.prog 28 [.agg (sigD g), patsD l, .agg (patD p)] (fun v => v = .tup [.v (.bool (!o.isSome)), .v (.int .i64 0)]) := by
  have hcl := fun σ => cloneP_o (patR l) σ (by rw [patR_len]; omega)
  have e1 := patR_len l
  have hr := rows_c l hl
  unfold patsD at hmay
  rw [patR_append] at hmay
  obtain ⟨wk, wn, wi, ws, wa, wb, wc, wl⟩ := p
  refine enterPB 32 tab_ok Try.func28 rfl (by kernel_rfl) rfl rfl rfl ?_
  refine w_mid2 (fun fr _ => getO [1, 3, 5, 8] fr = some [.d (patsD l), .d (.fptr (sigD g)), .d (.fptr (patD (.mk wk wn wi ws wa wb wc wl))), .d (.v (.int .i64 0))]) ?_ ?_
  · repeat' (first | refine s_op rfl ?_ | (apply s_move; (iterate 4 (exact rfl))) | (apply s_ld_f tab_ok; (iterate 6 (exact rfl))) | (apply s_assign; (iterate 4 (exact rfl))) | (apply s_boxZ; (iterate 5 (exact rfl)); first | exact rfl | exact allD_mapd _) | (apply s_lit tab_ok tabZ_ok; (iterate 10 (exact rfl))) | (apply s_neq_f; (iterate 5 (exact rfl)); omega) | (apply s_callS; (iterate 6 (exact rfl)); exact hcl _; rintro _ σ ⟨loc, ver, rfl, hc⟩) | (apply s_appF tab_ok tabZ_ok (rows2 := [patD (.mk wk wn wi ws wa wb wc wl)]) (rows3 := patR l ++ [patD (.mk wk wn wi ws wa wb wc wl)]) (m := (patR l).length + 1); (iterate 10 (exact rfl)); exact hc.at'; exact src_of (Tab.slIs tab_ok (t := 26) rfl) (rows_d rfl); exact rfl; (refine ⟨rfl, ?_, rfl⟩; simp only [List.length_cons, List.length_nil]; omega); intro σ hc4; have hc5 := fresh_chg hc hc4; clear hc hc4) | (refine o_freezeF 16 rfl hc5.at' (by simp) ?_; intro σ hc6; clear hc5) | (apply s_call; (iterate 6 (exact rfl)); first | (exact hmay; rintro _ rfl)) | refine al_nil ?_ | refine q_then_n ?_ | refine aw_seq ?_ | refine aw_reg ?_ | refine aw_false rfl ?_ | refine aw_skip ?_ | refine al_fork ?_ ?_ | refine al_fork3 ?_ ?_ ?_ | refine aw_draws (id := 1) (trO [1] (.fork3 0 (.fork 2 (trO [3, 4, 5, 6, 7] .nil) 3 (.fork 2 (trO [4, 5, 6, 7] .nil) 4 (trO [2, 5, 6, 7] .nil))) 2 (.fork 0 (trO [3, 4, 5, 6, 7] .nil) 3 (.fork 0 (trO [4, 5, 6, 7] .nil) 4 (.fork 0 (trO [5, 6, 7] .nil) 5 (trO [0, 6, 7] .nil)))) 3 (.fork3 0 (.fork 2 (trO [4, 5, 6, 7] .nil) 4 (trO [2, 5, 6, 7] .nil)) 2 (.fork 0 (trO [4, 5, 6, 7] .nil) 4 (.fork 0 (trO [5, 6, 7] .nil) 5 (trO [0, 6, 7] .nil))) 4 (.fork 0 (trO [2, 5, 6, 7] .nil) 2 (.fork 0 (trO [5, 6, 7] .nil) 5 (trO [0, 6, 7] .nil)))))) [0, 2, 3, 4, 5, 6] [2, 5] mixed_ok (by kernel_rfl) ?_)
    all_goals exact ⟨rfl, rfl⟩
  clear hmay hcl
  intro fr σ hv
  refine w_keep [1, 3, 5, 8] hv rfl ?_
  clear hv
  cases o with
  | none =>
    repeat' (first | refine s_op rfl ?_ | (apply s_move; (iterate 4 (exact rfl))) | (apply s_ld_f tab_ok; (iterate 6 (exact rfl))) | (apply s_assign; (iterate 4 (exact rfl))) | (apply s_ext; (iterate 5 (exact rfl))) | (apply s_lit tab_ok tabZ_ok; (iterate 10 (exact rfl))) | (apply s_not_f; (iterate 4 (exact rfl))) | (apply s_call; (iterate 6 (exact rfl)); first | (exact hr; rintro _ rfl) | (exact hu; rintro _ rfl)) | refine al_nil ?_ | refine q_then_n ?_ | refine aw_seq ?_ | refine aw_reg ?_ | refine aw_ret ?_ | refine al_fork ?_ ?_ | refine aw_draws (id := 4) (trO [0, 1, 3] (.fork 2 (trO [4, 5, 6, 7, 8, 9, 10] .nil) 4 (trO [2, 5, 6, 7, 8, 9, 10] .nil))) [2, 4, 5] [] mixed_ok (by kernel_rfl) ?_)
    all_goals exact q_retB (resB_2 rfl (resV_t rfl) (resV_t rfl) rfl) ⟨_, rfl, rfl⟩
  | some w =>
    repeat' (first | refine s_op rfl ?_ | (apply s_move; (iterate 4 (exact rfl))) | (apply s_ld_f tab_ok; (iterate 6 (exact rfl))) | (apply s_assign; (iterate 4 (exact rfl))) | (apply s_ext; (iterate 5 (exact rfl))) | (apply s_lit tab_ok tabZ_ok; (iterate 10 (exact rfl))) | (apply s_not_t; (iterate 4 (exact rfl))) | (apply s_call; (iterate 6 (exact rfl)); first | (exact hr; rintro _ rfl) | (exact hu; rintro _ rfl)) | refine al_nil ?_ | refine q_then_n ?_ | refine aw_seq ?_ | refine aw_reg ?_ | refine aw_ret ?_ | refine al_fork ?_ ?_ | refine aw_draws (id := 4) (trO [0, 1, 3] (.fork 2 (trO [4, 5, 6, 7, 8, 9, 10] .nil) 4 (trO [2, 5, 6, 7, 8, 9, 10] .nil))) [2, 4, 5] [] mixed_ok (by kernel_rfl) ?_)
    all_goals exact q_retB (resB_2 rfl (resV_t rfl) (resV_t rfl) rfl) ⟨_, rfl, rfl⟩
end
end Go.Proofs.Ytjflembhgjcgkaa

/- C66: Covers, of the document and of the program. -/
-- ALLUNDEF -- BOXZ
-- LEN: patD_len
-- ROW: patR_get row_map
-- DEF LI9: (apply s_litO tab_ok tabZ_ok (d := 9) (m := 0); (iterate 12 (exact rfl)); intro locA σ hc; have hA := hc.at'; clear hc)
-- DEF AP1: (apply s_appF tab_ok tabZ_ok (d := 11) (rows2 := patR l) (rows3 := patR l) (m := (patR l).length); (iterate 10 (exact rfl)); exact hA; exact src_of (Tab.slIs tab_ok (t := 26) rfl) (rows_d rfl); exact rfl; (refine ⟨rfl, ?_, ?_⟩ <;> omega); intro σ hc; replace hA := hc.at'; clear hc)
-- DEF L13: (apply s_lit tab_ok tabZ_ok (d := 13); (iterate 10 (exact rfl)))
-- DEF AP2: (apply s_appF tab_ok tabZ_ok (d := 14) (rows2 := [patD (.mk pk pn pi ps pa pb pc pl)]) (rows3 := patR (l ++ [.mk pk pn pi ps pa pb pc pl])) (m := (patR l).length + 1); (iterate 10 (exact rfl)); exact hA; exact src_of (Tab.slIs tab_ok (t := 26) rfl) (rows_d rfl); (rw [patR_append]; rfl); (refine ⟨rfl, ?_, rfl⟩; simp only [List.length_cons, List.length_nil]; omega); intro σ hc; replace hA := hc.at'; clear hc)
-- DEF FRZ: (refine w_freezeF 8 rfl hA (by rw [patR_append]; simp [patR]) ?_; intro σ hc; clear hc hA)
namespace Go.Proofs.Ytjflembhgjcgkaa
open Go.RowKit

section
variable {g : Sg} {l : List Pat} {p : Pat}
set_option maxRecDepth 100000 in
set_option maxHeartbeats 8000000 in
theorem rcovers_bad (hs : g.Small) {m : Nat} (hm : m ≤ 1000000000) (hl : SmallP m (l ++ [p])) (h : mayZ g (l ++ [p]) ≠ 0) : RunsP Try.prog 29 [.agg (sigD g), patsD l, .agg (patD p)] (fun v => v = .tup [.v (.bool false), .v (.int .i64 2)]) := by
  have h1 := rserves_c g hs
  have h2 := rtog_c g hs m hm _ hl
  have e1 := patR_len l
  have hll := hl.len
  rw [List.length_append] at hll
  simp only [List.length_cons, List.length_nil] at hll
  obtain ⟨pk, pn, pi, ps, pa, pb, pc, pl⟩ := p
  cases e1 : servesB g with
  | false =>
    rw [e1] at h1
    refine enterPB 33 tab_ok Try.func29 rfl (by kernel_rfl) rfl rfl rfl ?_
    repeat' (first | refine s_op rfl ?_ | (apply s_skipV; (iterate 2 (exact rfl))) | (apply s_move; (iterate 4 (exact rfl))) | (apply s_ld_f tab_ok; (iterate 6 (exact rfl))) | (apply s_assign; (iterate 4 (exact rfl))) | (apply s_pick_t; (iterate 5 (exact rfl))) | (apply s_boxZ; (iterate 5 (exact rfl)); first | exact rfl | exact allD_mapd _) | (apply s_not_f; (iterate 4 (exact rfl))) | (apply s_litO tab_ok tabZ_ok (d := 9) (m := 0); (iterate 12 (exact rfl)); intro locA σ hc; have hA := hc.at'; clear hc) | (apply s_appF tab_ok tabZ_ok (d := 11) (rows2 := patR l) (rows3 := patR l) (m := (patR l).length); (iterate 10 (exact rfl)); exact hA; exact src_of (Tab.slIs tab_ok (t := 26) rfl) (rows_d rfl); exact rfl; (refine ⟨rfl, ?_, ?_⟩ <;> omega); intro σ hc; replace hA := hc.at'; clear hc) | (apply s_lit tab_ok tabZ_ok (d := 13); (iterate 10 (exact rfl))) | (apply s_appF tab_ok tabZ_ok (d := 14) (rows2 := [patD (.mk pk pn pi ps pa pb pc pl)]) (rows3 := patR (l ++ [.mk pk pn pi ps pa pb pc pl])) (m := (patR l).length + 1); (iterate 10 (exact rfl)); exact hA; exact src_of (Tab.slIs tab_ok (t := 26) rfl) (rows_d rfl); (rw [patR_append]; rfl); (refine ⟨rfl, ?_, rfl⟩; simp only [List.length_cons, List.length_nil]; omega); intro σ hc; replace hA := hc.at'; clear hc) | (refine w_freezeF 8 rfl hA (by rw [patR_append]; simp [patR]) ?_; intro σ hc; clear hc hA) | (apply s_call; (iterate 6 (exact rfl)); first | (exact h1; rintro _ rfl)) | refine al_nil ?_ | refine q_then_n ?_ | refine q_then_r ?_ | refine aw_seq ?_ | refine aw_reg ?_ | refine aw_true rfl ?_ | refine aw_ret ?_ | refine al_fork ?_ ?_ | refine aw_draws (id := 1) (trO [1] (.fork 0 (.fork 2 (trO [3, 4, 5, 6] .nil) 3 (.fork 2 (trO [4, 5, 6] .nil) 4 (trO [2, 5, 6] .nil))) 3 (.fork 0 (.fork 2 (trO [4, 5, 6] .nil) 4 (trO [2, 5, 6] .nil)) 4 (trO [0, 2, 5, 6] .nil)))) [0, 2, 3, 4, 5] [2, 5] mixed_ok (by kernel_rfl) ?_)
    all_goals exact q_retB (resB_2 rfl (resV_t rfl) (resV_t rfl) rfl) ⟨_, rfl, rfl⟩
  | true =>
    have e2 : togB g (l ++ [.mk pk pn pi ps pa pb pc pl]) = false := by
      cases e2 : togB g (l ++ [.mk pk pn pi ps pa pb pc pl]) with
      | false => rfl
      | true => exact absurd (by unfold mayZ; rw [if_pos ⟨e1, e2⟩]) h
    rw [e1] at h1
    rw [e2] at h2
    refine enterPB 33 tab_ok Try.func29 rfl (by kernel_rfl) rfl rfl rfl ?_
    repeat' (first | refine s_op rfl ?_ | (apply s_move; (iterate 4 (exact rfl))) | (apply s_ld_f tab_ok; (iterate 6 (exact rfl))) | (apply s_assign; (iterate 4 (exact rfl))) | (apply s_pick_f; (iterate 5 (exact rfl))) | (apply s_boxZ; (iterate 5 (exact rfl)); first | exact rfl | exact allD_mapd _) | (apply s_not_t; (iterate 4 (exact rfl))) | (apply s_not_f; (iterate 4 (exact rfl))) | (apply s_litO tab_ok tabZ_ok (d := 9) (m := 0); (iterate 12 (exact rfl)); intro locA σ hc; have hA := hc.at'; clear hc) | (apply s_appF tab_ok tabZ_ok (d := 11) (rows2 := patR l) (rows3 := patR l) (m := (patR l).length); (iterate 10 (exact rfl)); exact hA; exact src_of (Tab.slIs tab_ok (t := 26) rfl) (rows_d rfl); exact rfl; (refine ⟨rfl, ?_, ?_⟩ <;> omega); intro σ hc; replace hA := hc.at'; clear hc) | (apply s_lit tab_ok tabZ_ok (d := 13); (iterate 10 (exact rfl))) | (apply s_appF tab_ok tabZ_ok (d := 14) (rows2 := [patD (.mk pk pn pi ps pa pb pc pl)]) (rows3 := patR (l ++ [.mk pk pn pi ps pa pb pc pl])) (m := (patR l).length + 1); (iterate 10 (exact rfl)); exact hA; exact src_of (Tab.slIs tab_ok (t := 26) rfl) (rows_d rfl); (rw [patR_append]; rfl); (refine ⟨rfl, ?_, rfl⟩; simp only [List.length_cons, List.length_nil]; omega); intro σ hc; replace hA := hc.at'; clear hc) | (refine w_freezeF 8 rfl hA (by rw [patR_append]; simp [patR]) ?_; intro σ hc; clear hc hA) | (apply s_call; (iterate 6 (exact rfl)); first | (exact h1; rintro _ rfl) | (exact h2; rintro _ rfl)) | refine al_nil ?_ | refine q_then_n ?_ | refine q_then_r ?_ | refine aw_seq ?_ | refine aw_reg ?_ | refine aw_true rfl ?_ | refine aw_ret ?_ | refine al_fork ?_ ?_ | refine aw_draws (id := 1) (trO [1] (.fork 0 (.fork 2 (trO [3, 4, 5, 6] .nil) 3 (.fork 2 (trO [4, 5, 6] .nil) 4 (trO [2, 5, 6] .nil))) 3 (.fork 0 (.fork 2 (trO [4, 5, 6] .nil) 4 (trO [2, 5, 6] .nil)) 4 (trO [0, 2, 5, 6] .nil)))) [0, 2, 3, 4, 5] [2, 5] mixed_ok (by kernel_rfl) ?_)
    all_goals exact q_retB (resB_2 rfl (resV_t rfl) (resV_t rfl) rfl) ⟨_, rfl, rfl⟩
set_option maxRecDepth 100000 in
set_option maxHeartbeats 8000000 in
theorem rcovers_ok (hs : g.Small) {m : Nat} (hm : m ≤ 1000000000) (hl : SmallP m (l ++ [p])) (h : mayZ g (l ++ [p]) = 0) {f : FoundT} (hcl : f.come.length = (l ++ [p]).length) (hall : RunsP Try.prog 66 [.agg (sigD g), patsD (l ++ [p])] (fun v => v = .agg (foundD f))) :
    RunsP Try.prog 29 [.agg (sigD g), patsD l, .agg (patD p)] (fun v => v = .tup [.v (.bool (!f.come.getD l.length false)), .v (.int .i64 0)]) := by
  have h1 := rserves_c g hs
  have h2 := rtog_c g hs m hm _ hl
  have e1 := patR_len l
  have hll := hl.len
  rw [List.length_append] at hll hcl
  simp only [List.length_cons, List.length_nil] at hll hcl
  have e : servesB g = true ∧ togB g (l ++ [p]) = true := by
    unfold mayZ at h
    split at h
    · assumption
    · cases h
  rw [e.1] at h1
  rw [e.2] at h2
  clear e
  obtain ⟨mm, cm⟩ := f
  simp only at hcl
  show RunsP Try.prog 29 _ (fun v => v = .tup [.v (.bool (!cm.getD l.length false)), .v (.int .i64 0)])
  obtain ⟨b, hb⟩ := getS (l := cm) (k := l.length) (by omega)
  have hgd : cm.getD l.length false = b := by rw [List.getD_eq_getElem?_getD, hb]; rfl
  rw [hgd]
  have hbr := row_map (f := boolRow) hb
  have e3 : (cm.map boolRow).length = cm.length := by simp
  rw [← e1] at hbr
  obtain ⟨c1, c2, c3, c4, c5, c6, c7, hmc⟩ := missD_cells mm
  have hall : RunsP Try.prog 66 [.agg (sigD g), patsD (l ++ [p])] (fun v => v = .agg [.v (.int .u8 mm.kind), c1, c2, c3, c4, c5, c6, c7, boolsD cm]) := by
    unfold foundD at hall
    simp only at hall
    rw [hmc] at hall
    exact hall
  obtain ⟨pk, pn, pi, ps, pa, pb, pc, pl⟩ := p
  refine enterPB 33 tab_ok Try.func29 rfl (by kernel_rfl) rfl rfl rfl ?_
  repeat' (first | refine s_op rfl ?_ | (apply s_move; (iterate 4 (exact rfl))) | (apply s_ld_f tab_ok; (iterate 6 (exact rfl))) | (apply s_assign; (iterate 4 (exact rfl))) | (apply s_pick_f; (iterate 5 (exact rfl))) | (apply s_len tab_ok; (iterate 5 (exact rfl))) | (apply s_idx tab_ok; (iterate 7 (exact rfl)); (first | exact patR_get (by assumption) | exact row_map (by assumption) | assumption)) | (apply s_boxZ; (iterate 5 (exact rfl)); first | exact rfl | exact allD_mapd _) | (apply s_not_t; (iterate 4 (exact rfl))) | (apply s_not; (iterate 4 (exact rfl))) | (apply s_litO tab_ok tabZ_ok (d := 9) (m := 0); (iterate 12 (exact rfl)); intro locA σ hc; have hA := hc.at'; clear hc) | (apply s_appF tab_ok tabZ_ok (d := 11) (rows2 := patR l) (rows3 := patR l) (m := (patR l).length); (iterate 10 (exact rfl)); exact hA; exact src_of (Tab.slIs tab_ok (t := 26) rfl) (rows_d rfl); exact rfl; (refine ⟨rfl, ?_, ?_⟩ <;> omega); intro σ hc; replace hA := hc.at'; clear hc) | (apply s_lit tab_ok tabZ_ok (d := 13); (iterate 10 (exact rfl))) | (apply s_appF tab_ok tabZ_ok (d := 14) (rows2 := [patD (.mk pk pn pi ps pa pb pc pl)]) (rows3 := patR (l ++ [.mk pk pn pi ps pa pb pc pl])) (m := (patR l).length + 1); (iterate 10 (exact rfl)); exact hA; exact src_of (Tab.slIs tab_ok (t := 26) rfl) (rows_d rfl); (rw [patR_append]; rfl); (refine ⟨rfl, ?_, rfl⟩; simp only [List.length_cons, List.length_nil]; omega); intro σ hc; replace hA := hc.at'; clear hc) | (refine w_freezeF 8 rfl hA (by rw [patR_append]; simp [patR]) ?_; intro σ hc; clear hc hA) | (apply s_field tab_ok 8 24; (iterate 4 (exact rfl)); exact ⟨_, _, rfl, rfl, rfl, rfl⟩; exact rfl) | (apply s_call; (iterate 6 (exact rfl)); first | (exact h1; rintro _ rfl) | (exact h2; rintro _ rfl) | (exact hall; rintro _ rfl)) | refine al_nil ?_ | refine q_then_n ?_ | refine aw_seq ?_ | refine aw_reg ?_ | refine aw_false rfl ?_ | refine aw_skip ?_ | refine aw_ret ?_ | refine al_fork ?_ ?_ | refine aw_draws (id := 1) (trO [1] (.fork 0 (.fork 2 (trO [3, 4, 5, 6] .nil) 3 (.fork 2 (trO [4, 5, 6] .nil) 4 (trO [2, 5, 6] .nil))) 3 (.fork 0 (.fork 2 (trO [4, 5, 6] .nil) 4 (trO [2, 5, 6] .nil)) 4 (trO [0, 2, 5, 6] .nil)))) [0, 2, 3, 4, 5] [2, 5] mixed_ok (by kernel_rfl) ?_)
  all_goals exact q_retB (resB_2 rfl (resV_t rfl) (resV_t rfl) rfl) ⟨_, rfl, rfl⟩
end
/-- Of the program, in one. -/
def coversD (g : Sg) (f : Nat) (l : List Pat) (p : Pat) : DV := if mayZ g (l ++ [p]) = 0 then .tup [.v (.bool (!(usefulF g f (onesL l) [p]).isSome)), .v (.int .i64 0)] else .tup [.v (.bool false), .v (.int .i64 2)]
theorem covers_c {g : Sg} (hs : g.Small) {m A : Nat} (hm : m ≤ 1000000) (hAm : A ≤ m) (hA : ∀ c ∈ g.cons, c.fields.length ≤ A) {l : List Pat} {p : Pat} (hl : SmallP m (l ++ [p])) (f : Nat) (hf : acL (l ++ [p]) * (A + 1) + 1 ≤ m) (hmu : acL (l ++ [p]) * (A + 1) + 1 < f) :
    RunsP Try.prog 28 [.agg (sigD g), patsD l, .agg (patD p)] (fun v => v = coversD g f l p) := by
  have hmay := may24_c hs (by omega : m ≤ 1000000000) hl
  have hll := hl.len
  have hl1 : SmallP m l := ⟨fun q hq => hl.each q (List.mem_append.2 (.inl hq)), by rw [List.length_append] at hll; omega⟩
  unfold coversD
  unfold mayZ at hmay ⊢
  by_cases hok : servesB g = true ∧ togB g (l ++ [p]) = true
  · rw [if_pos hok] at hmay
    rw [if_pos hok, if_pos rfl]
    have hsv := (servesB_iff g).1 hok.1
    have hw := tog_wf (togB_iff.1 hok.2)
    have u1 : UOk g m A 1 (onesL l) [p] := uok_ones hl1 (fun q hq => hw q (List.mem_append.2 (.inl hq))) (hl.each p (by simp)) (hw p (by simp))
    have m1 : mu A (onesL l) [p] ≤ acL (l ++ [p]) * (A + 1) + 1 := by
      unfold mu
      rw [sumAc_ones]
      have h1 := acL_append l [p]
      have h2 : (acL l + acL [p]) * (A + 1) ≤ acL (l ++ [p]) * (A + 1) := Nat.mul_le_mul_right _ (by omega)
      simp only [List.length_cons, List.length_nil]
      omega
    exact covers_ok (Nat.le_trans hl1.len (by omega)) hmay (useful_c hs hsv hm hAm hA f _ _ 1 u1 (by omega) (by omega))
  · rw [if_neg hok] at hmay
    rw [if_neg hok, if_neg (by decide)]
    exact covers_bad (Nat.le_trans hl1.len (by omega)) hmay
end Go.Proofs.Ytjflembhgjcgkaa
