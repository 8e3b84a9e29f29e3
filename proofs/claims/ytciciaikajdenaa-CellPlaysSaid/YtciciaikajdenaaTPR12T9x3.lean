/- T9: the document's Walk, of a cell. -/
import Derived.Test.YtciciaikajdenaaTPR12T7x2
set_option linter.unusedSimpArgs false
set_option linter.unusedVariables false
namespace Go.Proofs.Ytciciaikajdenaa
open Go.RowKit

noncomputable def walk15 : Option Code := match Try.f104.body with
  | some c => findW 15 c
  | none => none
section
variable {σ0 σ : List AObj} {q : RQ} {H : AHeap} {B : Int} {locC ver : Nat} {come : List Int} {fl : Bool} {wn wg : Int} {ws : ByteArray} {post : AV → List AObj → Prop}
set_option maxRecDepth 100000 in
set_option maxHeartbeats 8000000 in
/-- The walk of the cells that were come to: the cell is one of them. -/
theorem walk_q_again {R : Res Val} (hR : R = .bad 6) (hin : wn ∈ come) (hlen : come.length ≤ 1000000) (hw : AWord.ok ⟨5, wn, ws, wg⟩ = true) (h78 : Runs Try.prog 78 [.ptr q.p 0 0, .d (.agg [DV.v (.int .u8 5), DV.v (.int .i64 wn), DV.v (.string ws), DV.v (.int .i64 wg)])] σ (fun r σ' => r = .d (.v (.int .i64 0)) ∧ σ' = σ)) (hC : σ[locC]? = some (.arr 2 1 ver (comeR come))) :
    Runs Try.prog 104 [.ptr q.p 0 0, .d (.agg [DV.v (.int .u8 5), DV.v (.int .i64 wn), DV.v (.string ws), DV.v (.int .i64 wg)]), .own locC ver 1 0 come.length, .d (.v (.bool fl))] σ (WalkP locC R σ) := by
  have w73 : RunsP Try.prog 73 [.agg [DV.v (.int .u8 5), DV.v (.int .i64 wn), DV.v (.string ws), DV.v (.int .i64 wg)]] (fun v => v = .v (.bool true)) := hw ▸ word73 ⟨5, wn, ws, wg⟩
  have hK := KeptP.refl (· ≠ locC) σ
  have e1 := comeR_len come
  refine enterB 97 tab_ok Try.func104 rfl (by kernel_rfl) rfl rfl rfl ?_
  repeat' (first | refine s_op rfl ?_ | (apply s_move; (iterate 4 (exact rfl))) | (apply s_fa_f tab_ok; (iterate 6 (exact rfl))) | (apply s_ld_f tab_ok; (iterate 6 (exact rfl))) | (apply s_assign; (iterate 4 (exact rfl))) | (apply s_pick_f; (iterate 5 (exact rfl))) | (apply s_boxZ; (iterate 5 (exact rfl)); first | exact rfl | exact allD_mapd _) | (apply s_not_t; (iterate 4 (exact rfl))) | (apply s_eql_f; (iterate 5 (exact rfl)); omega) | (apply s_neq_f; (iterate 5 (exact rfl)); omega) | (apply s_call; (iterate 6 (exact rfl)); first | (exact w73; rintro _ rfl)) | (apply s_callS; (iterate 6 (exact rfl)); first | (exact h78; rintro _ σ ⟨rfl, rfl⟩)) | refine al_nil ?_ | refine q_then_n ?_ | refine aw_block ?_ | refine aw_seq ?_ | refine aw_reg ?_ | refine aw_false rfl ?_ | refine aw_skip ?_)
  refine w_loop [0, 2, 3, 5, 12] (fun n' vs' σ' => ∃ j : Nat, vs' = [.ptr q.p 0 0, .own locC ver 1 0 come.length, .d (.v (.bool fl)), .d (.fptr [DV.v (.int .u8 5), DV.v (.int .i64 wn), DV.v (.string ws), DV.v (.int .i64 wg)]), .d (.v (.int .i64 (j : Int)))] ∧ σ' = σ ∧ wn ∈ come.drop j ∧ j ≤ come.length ∧ n' = come.length - j) rfl ⟨0, rfl, rfl, by simpa using hin, by omega, rfl⟩ ?_
  rintro n' vs' σ' ⟨j, rfl, rfl, hd, hj, rfl⟩ fr hfr
  cases hfr
  by_cases hlt : j < come.length
  · obtain ⟨z, hz⟩ := getS hlt
    have hr := comeR_get hz
    have hd2 : come.drop j = z :: come.drop (j + 1) := by
      rw [List.drop_eq_getElem_cons hlt]
      rw [List.getElem?_eq_getElem hlt] at hz
      injection hz with hz
      rw [hz]
    by_cases he : z = wn
    · repeat' (first | refine s_op rfl ?_ | (apply s_move; (iterate 4 (exact rfl))) | (apply s_fa_f tab_ok; (iterate 6 (exact rfl))) | (apply s_ld_f tab_ok; (iterate 6 (exact rfl))) | (apply s_assign; (iterate 4 (exact rfl))) | (apply s_len tab_ok; (iterate 5 (exact rfl))) | (apply s_eql_t; (iterate 5 (exact rfl)); omega) | (apply s_lss_t; (iterate 5 (exact rfl)); omega) | (apply s_idxO (j * 1) tab_ok; (iterate 7 (exact rfl)); exact hC; exact ⟨by omega, by omega⟩) | (apply s_ldA j 0 tab_ok; (iterate 5 (exact rfl)); exact hC; exact hr; omega; exact rfl) | refine al_nil ?_ | refine q_then_n ?_ | refine q_blk_r ?_ | refine aw_block ?_ | refine q_then_r ?_ | refine aw_seq ?_ | refine aw_reg ?_ | refine aw_true rfl ?_ | refine aw_skip ?_ | refine aw_ret ?_ | refine aw_draws (id := 13) (trO [0, 1, 2, 3, 4, 5, 6] .nil) [] [] mixed_ok (by kernel_rfl) ?_)
      all_goals exact q_retB (resB_3 rfl (resV_t rfl) (resV_t rfl) (resV_t rfl) rfl) (.inr ⟨_, _, _, _, hR, by decide, rfl, hK⟩)
    · have hd3 : wn ∈ come.drop (j + 1) := by
        rw [hd2] at hd
        rcases List.mem_cons.1 hd with h | h
        · exact absurd h.symm he
        · exact h
      repeat' (first | refine s_op rfl ?_ | (apply s_move; (iterate 4 (exact rfl))) | (apply s_fa_f tab_ok; (iterate 6 (exact rfl))) | (apply s_ld_f tab_ok; (iterate 6 (exact rfl))) | (apply s_assign; (iterate 4 (exact rfl))) | (apply s_len tab_ok; (iterate 5 (exact rfl))) | (apply s_eql_f; (iterate 5 (exact rfl)); omega) | (apply s_lss_t; (iterate 5 (exact rfl)); omega) | (apply s_add64; (iterate 5 (exact rfl)); omega) | (apply s_idxO (j * 1) tab_ok; (iterate 7 (exact rfl)); exact hC; exact ⟨by omega, by omega⟩) | (apply s_ldA j 0 tab_ok; (iterate 5 (exact rfl)); exact hC; exact hr; omega; exact rfl) | refine al_nil ?_ | refine q_then_n ?_ | refine q_blk_n ?_ | refine aw_block ?_ | refine aw_seq ?_ | refine aw_reg ?_ | refine aw_true rfl ?_ | refine aw_false rfl ?_ | refine aw_skip ?_ | refine aw_draws (id := 13) (trO [0, 1, 2, 3, 4, 5, 6] .nil) [] [] mixed_ok (by kernel_rfl) ?_)
      all_goals exact ⟨_, _, rfl, by omega, j + 1, rfl, rfl, hd3, by omega, rfl⟩
  · rw [List.drop_eq_nil_of_le (by omega)] at hd
    cases hd
set_option maxRecDepth 100000 in
set_option maxHeartbeats 8000000 in
/-- The cell is not one of them. -/
theorem walk_q_new (hin : wn ∉ come) (hlen : come.length ≤ 1000000) (hw : AWord.ok ⟨5, wn, ws, wg⟩ = true) (h78 : Runs Try.prog 78 [.ptr q.p 0 0, .d (.agg [DV.v (.int .u8 5), DV.v (.int .i64 wn), DV.v (.string ws), DV.v (.int .i64 wg)])] σ (fun r σ' => r = .d (.v (.int .i64 0)) ∧ σ' = σ)) (hC : σ[locC]? = some (.arr 2 1 ver (comeR come)))
    (hnext : ∀ X : Code, walk15 = some X → AWk Try.prog 97 X (retQB tab Try.f104 post) [(0, .ptr q.p 0 0), (2, .own locC ver 1 0 come.length), (3, .d (.v (.bool fl))), (5, .d (.fptr [DV.v (.int .u8 5), DV.v (.int .i64 wn), DV.v (.string ws), DV.v (.int .i64 wg)]))] σ) :
    Runs Try.prog 104 [.ptr q.p 0 0, .d (.agg [DV.v (.int .u8 5), DV.v (.int .i64 wn), DV.v (.string ws), DV.v (.int .i64 wg)]), .own locC ver 1 0 come.length, .d (.v (.bool fl))] σ post := by
  have w73 : RunsP Try.prog 73 [.agg [DV.v (.int .u8 5), DV.v (.int .i64 wn), DV.v (.string ws), DV.v (.int .i64 wg)]] (fun v => v = .v (.bool true)) := hw ▸ word73 ⟨5, wn, ws, wg⟩
  have e1 := comeR_len come
  refine enterB 97 tab_ok Try.func104 rfl (by kernel_rfl) rfl rfl rfl ?_
  repeat' (first | refine s_op rfl ?_ | (apply s_move; (iterate 4 (exact rfl))) | (apply s_fa_f tab_ok; (iterate 6 (exact rfl))) | (apply s_ld_f tab_ok; (iterate 6 (exact rfl))) | (apply s_assign; (iterate 4 (exact rfl))) | (apply s_pick_f; (iterate 5 (exact rfl))) | (apply s_boxZ; (iterate 5 (exact rfl)); first | exact rfl | exact allD_mapd _) | (apply s_not_t; (iterate 4 (exact rfl))) | (apply s_eql_f; (iterate 5 (exact rfl)); omega) | (apply s_neq_f; (iterate 5 (exact rfl)); omega) | (apply s_call; (iterate 6 (exact rfl)); first | (exact w73; rintro _ rfl)) | (apply s_callS; (iterate 6 (exact rfl)); first | (exact h78; rintro _ σ ⟨rfl, rfl⟩)) | refine al_nil ?_ | refine q_then_n ?_ | refine aw_block ?_ | refine aw_seq ?_ | refine aw_reg ?_ | refine aw_false rfl ?_ | refine aw_skip ?_)
  refine w_loop [0, 2, 3, 5, 12] (fun n' vs' σ' => ∃ j : Nat, vs' = [.ptr q.p 0 0, .own locC ver 1 0 come.length, .d (.v (.bool fl)), .d (.fptr [DV.v (.int .u8 5), DV.v (.int .i64 wn), DV.v (.string ws), DV.v (.int .i64 wg)]), .d (.v (.int .i64 (j : Int)))] ∧ σ' = σ ∧ j ≤ come.length ∧ n' = come.length - j) rfl ⟨0, rfl, rfl, by omega, rfl⟩ ?_
  rintro n' vs' σ' ⟨j, rfl, rfl, hj, rfl⟩ fr hfr
  cases hfr
  by_cases hlt : j < come.length
  · obtain ⟨z, hz⟩ := getS hlt
    have hr := comeR_get hz
    have he : z ≠ wn := fun e => hin (e ▸ List.mem_of_getElem? hz)
    repeat' (first | refine s_op rfl ?_ | (apply s_move; (iterate 4 (exact rfl))) | (apply s_fa_f tab_ok; (iterate 6 (exact rfl))) | (apply s_ld_f tab_ok; (iterate 6 (exact rfl))) | (apply s_assign; (iterate 4 (exact rfl))) | (apply s_len tab_ok; (iterate 5 (exact rfl))) | (apply s_eql_f; (iterate 5 (exact rfl)); omega) | (apply s_lss_t; (iterate 5 (exact rfl)); omega) | (apply s_add64; (iterate 5 (exact rfl)); omega) | (apply s_idxO (j * 1) tab_ok; (iterate 7 (exact rfl)); exact hC; exact ⟨by omega, by omega⟩) | (apply s_ldA j 0 tab_ok; (iterate 5 (exact rfl)); exact hC; exact hr; omega; exact rfl) | refine al_nil ?_ | refine q_then_n ?_ | refine q_blk_n ?_ | refine aw_block ?_ | refine aw_seq ?_ | refine aw_reg ?_ | refine aw_true rfl ?_ | refine aw_false rfl ?_ | refine aw_skip ?_ | refine aw_draws (id := 13) (trO [0, 1, 2, 3, 4, 5, 6] .nil) [] [] mixed_ok (by kernel_rfl) ?_)
    all_goals exact ⟨_, _, rfl, by omega, j + 1, rfl, rfl, by omega, rfl⟩
  · repeat' (first | refine s_op rfl ?_ | (apply s_move; (iterate 4 (exact rfl))) | (apply s_len tab_ok; (iterate 5 (exact rfl))) | (apply s_lss_f; (iterate 5 (exact rfl)); omega) | (refine w_keep [0, 2, 3, 5] rfl rfl ?_; exact hnext _ rfl) | refine al_nil ?_ | refine q_then_n ?_ | refine aw_exit ?_ | refine aw_seq ?_ | refine aw_reg ?_ | refine aw_false rfl ?_)
set_option maxRecDepth 100000 in
set_option maxHeartbeats 8000000 in
/-- Its words are walked. -/
theorem walk_q_kids {f : AWord → List Int → Bool → Res Val} {i : Nat} {kws : List AWord} {ck cn : Int} {g : Int} {lv : Bool} {R : Res Val} {v : List Val → Val} (hR : R = match walksF f kws (come ++ [(i : Int)]) fl with | .bad e => .bad e | .ok vs c2 f2 => .ok (v vs) c2 f2)
    (hcall : ∀ (w : AWord) (c : List Int) (b : Bool) (σ : List AObj) (ver : Nat), w ∈ kws → Seen H c → (come ++ [(i : Int)]).length ≤ c.length → RHeap σ q H → σ[locC]? = some (.arr 2 1 ver (comeR c)) → Runs Try.prog 104 [.ptr q.p 0 0, .d (.agg (wordD w)), .own locC ver 1 0 c.length, .d (.v (.bool b))] σ (WalkP locC (f w c b) σ))
    (hseen : ∀ (w : AWord) (c : List Int) (b : Bool) (v : Val) (c2 : List Int) (b2 : Bool), w ∈ kws → Seen H c → (come ++ [(i : Int)]).length ≤ c.length → f w c b = .ok v c2 b2 → Seen H c2 ∧ c.length ≤ c2.length)
    (hs0 : Seen H (come ++ [(i : Int)])) (hl : H.slots.length ≤ 1000000) (hkl : kws.length ≤ 1000000) (hi : H.slots[i]? = some ⟨⟨ck, cn, kws⟩, g, lv⟩)
    (n1 : q.p ≠ locC) (n2 : q.s ≠ locC) (n3 : q.g ≠ locC) (h : RHeap σ q H) (hC : σ[locC]? = some (.arr 2 1 ver (comeR come))) (hK : KeptP (· ≠ locC) σ0 σ) {X : Code} (hX : walk15 = some X) :
    AWk Try.prog 97 X (retQB tab Try.f104 (WalkP locC R σ0)) [(0, .ptr q.p 0 0), (2, .own locC ver 1 0 come.length), (3, .d (.v (.bool fl))), (5, .d (.fptr [DV.v (.int .u8 5), DV.v (.int .i64 (i : Int)), DV.v (.string ws), DV.v (.int .i64 wg)]))] σ := by
  have oC : OutP (· ≠ locC) σ0 locC := fun _ h => absurd rfl h
  have e1 := comeR_len come
  have e2 := slotsR_len H.slots
  have e3 := wordsR_len kws
  have hil := (List.getElem?_eq_some_iff.1 hi).1
  have hr : (slotsR H.slots)[i]? = some [DV.v (.int .u8 ck), DV.v (.int .i64 cn), DV.lst 4 (wordsR kws), DV.v (.int .i64 g), DV.v (.bool lv)] := slotsR_get hi
  have hap := comeR_append come (i : Int)
  have hcl := hs0.len
  have hcl2 : (come ++ [(i : Int)]).length = come.length + 1 := by simp
  generalize come ++ [(i : Int)] = c0 at *
  obtain ⟨vs, vg, gr, hP, hS, hG, hgr, hgl⟩ := h.at'
  unfold rRow at hP
  have hq := h.ok
  clear h
  cases hX
  repeat' (first | refine s_op rfl ?_ | (apply s_move; (iterate 4 (exact rfl))) | (apply s_fa_p tab_ok; (iterate 5 (exact rfl))) | (apply s_fa_f tab_ok; (iterate 6 (exact rfl))) | (apply s_ld_f tab_ok; (iterate 6 (exact rfl))) | (apply s_assign; (iterate 4 (exact rfl))) | (apply s_nilc; (iterate 5 (exact rfl))) | (apply s_lit tab_ok tabZ_ok; (iterate 10 (exact rfl))) | (apply s_appF tab_ok tabZ_ok (d := 61) (rows2 := [[DV.v (.int .i64 (i : Int))]]) (rows3 := comeR c0) (m := c0.length); (iterate 10 (exact rfl)); exact hC; exact src_of (Tab.slIs tab_ok (t := 160) rfl) (rows_d rfl); exact hap; (refine ⟨?_, ?_, ?_⟩ <;> first | omega | (simp only [List.length_cons, List.length_nil] <;> omega)); intro σ hc; replace hC := hc.at'; replace hP := hc.keep n1 hP; replace hS := hc.keep n2 hS; replace hG := hc.keep n3 hG; replace hK := hK.chg oC hc; clear hc) | (apply s_ldF tab_ok; (iterate 5 (exact rfl)); exact hP; exact rfl) | (apply s_idxO (i * 5) tab_ok; (iterate 7 (exact rfl)); exact hS; exact ⟨by omega, by omega⟩) | (apply s_ldA i 2 tab_ok; (iterate 5 (exact rfl)); exact hS; exact hr; omega; exact rfl) | refine al_nil ?_ | refine q_then_n ?_ | refine aw_block ?_ | refine aw_seq ?_ | refine aw_reg ?_ | refine aw_draws (id := 16) (trO [0, 1, 2, 3, 4, 5, 6, 7, 8, 9, 10] .nil) [] [] mixed_ok (by kernel_rfl) ?_)
  refine w_loop [0, 2, 3, 13, 14] (fun n' vs' σ' => ∃ (j ver : Nat) (vsj : List Val) (cj : List Int) (fj : Bool), vs' = [.ptr q.p 0 0, .own locC ver 1 0 cj.length, .d (.v (.bool fj)), .d (.lst 4 (wordsR kws)), .d (.v (.int .i64 (j : Int)))] ∧ walksF f (kws.take j) c0 fl = .ok vsj cj fj ∧ Seen H cj ∧ c0.length ≤ cj.length ∧ RHeap σ' q H ∧ σ'[locC]? = some (.arr 2 1 ver (comeR cj)) ∧ KeptP (· ≠ locC) σ0 σ' ∧ j ≤ kws.length ∧ n' = kws.length - j) rfl ⟨0, _, [], c0, fl, rfl, rfl, hs0, Nat.le_refl _, ⟨hq, vs, vg, gr, hP, hS, hG, hgr, hgl⟩, hC, hK, by omega, rfl⟩ ?_
  clear hP hS hG hC hK hr e1 e2 hap hgr hgl
  rintro n' vs' σ ⟨j, ver, vsj, cj, fj, rfl, hwalk, hsn, hcl3, h, hC, hK, hj, rfl⟩ fr hfr
  cases hfr
  by_cases hlt : j < kws.length
  · obtain ⟨w, hw⟩ := getS hlt
    obtain ⟨w1, w2⟩ := walksF_take hw hwalk
    have hcl := hcall w cj fj σ ver (List.mem_of_getElem? hw) hsn hcl3 h hC
    have hsn2 := fun v c2 f2 => hseen w cj fj v c2 f2 (List.mem_of_getElem? hw) hsn hcl3
    have hbad : ∀ e, f w cj fj = .bad e → R = .bad e := fun e h => by rw [hR, w2 _ h]
    clear hcall hseen hR hwalk w2 hi hs0
    unfold WalkP at hcl
    obtain ⟨xk, xn, xs, xg⟩ := w
    repeat' (first | refine s_op rfl ?_ | (apply s_move; (iterate 4 (exact rfl))) | (apply s_ld_f tab_ok; (iterate 6 (exact rfl))) | (apply s_assign; (iterate 4 (exact rfl))) | (apply s_len tab_ok; (iterate 5 (exact rfl))) | (apply s_idx tab_ok; (iterate 7 (exact rfl)); (first | exact valR_get (by assumption) | exact wordsR_get (by assumption) | assumption)) | (apply s_ext; (iterate 5 (exact rfl))) | (apply s_neq_t; (iterate 5 (exact rfl)); omega) | (apply s_neq_f; (iterate 5 (exact rfl)); omega) | (apply s_lss_t; (iterate 5 (exact rfl)); omega) | (apply s_add64; (iterate 5 (exact rfl)); omega) | (apply s_callS; (iterate 6 (exact rfl)); exact hcl; rintro _ σ2 (⟨v, c2, f2, ver2, hf, rfl, hC2, hk2⟩ | ⟨e, ver2, m2, f2, hf, he, rfl, hk2⟩) <;> (replace hK := hK.trans hk2; replace h := h.keepP hk2 n1 n2 n3; clear hcl)) | refine al_nil ?_ | refine q_then_n ?_ | refine q_blk_n ?_ | refine q_blk_r ?_ | refine aw_block ?_ | refine q_then_r ?_ | refine aw_seq ?_ | refine aw_reg ?_ | refine aw_true rfl ?_ | refine aw_false rfl ?_ | refine aw_skip ?_ | refine aw_ret ?_)
    · exact ⟨_, _, rfl, by omega, j + 1, _, vsj ++ [v], c2, f2, rfl, w1 v c2 f2 hf, (hsn2 v c2 f2 hf).1, Nat.le_trans hcl3 (hsn2 v c2 f2 hf).2, h, hC2, hK, by omega, rfl⟩
    · exact q_retB (resB_3 rfl (resV_t rfl) (resV_t rfl) (resV_t rfl) rfl) (.inr ⟨_, _, _, _, hbad e hf, he, rfl, hK⟩)
  · have hjl : j = kws.length := by omega
    rw [List.take_of_length_le (by omega)] at hwalk
    have hRok : R = .ok (v vsj) cj fj := by rw [hR, hwalk]
    clear hR hcall hseen
    repeat' (first | refine s_op rfl ?_ | (apply s_move; (iterate 4 (exact rfl))) | (apply s_assign; (iterate 4 (exact rfl))) | (apply s_len tab_ok; (iterate 5 (exact rfl))) | (apply s_lss_f; (iterate 5 (exact rfl)); omega) | refine al_nil ?_ | refine q_then_n ?_ | refine q_blk_e ?_ | refine q_then_e ?_ | refine aw_exit ?_ | refine aw_seq ?_ | refine aw_reg ?_ | refine aw_false rfl ?_ | refine aw_ret ?_)
    all_goals exact q_retB (resB_3 rfl (resV_t rfl) (resV_t rfl) (resV_t rfl) rfl) (.inl ⟨_, _, _, _, hRok, rfl, hC, hK⟩)
end
end Go.Proofs.Ytciciaikajdenaa
/- T10: the document's Walk, whole; with nothing come to. -/
set_option linter.unusedSimpArgs false
set_option linter.unusedVariables false
namespace Go.Proofs.Ytciciaikajdenaa
open Go.RowKit

/-- A nil slice that is handed over becomes the callee's own. -/
theorem Runs.adopt3 {P : Program} {f : FuncId} {a0 a1 a3 : AV} {U sz : Nat} {σ : List AObj} {post : AV → List AObj → Prop} (h : ∀ loc σ', Fresh σ loc (.arr U sz 0 []) σ' → Runs P f [a0, a1, .own loc 0 sz 0 0, a3] σ' post) : Runs P f [a0, a1, .d .nil, a3] σ post := by
  have hr := h σ.length (σ ++ [.arr U sz 0 []]) (fresh_app _ _)
  refine ⟨hr.1, fun B R x w vs ha hh hc => ?_⟩
  have s : Sim ⟨B, R, []⟩ x vs.length (frameOf [a0, a1, .d .nil, a3] 0) σ { tmps := vs.toArray ++ Array.replicate 0 undef, defers := [] } w := by
    refine ⟨by simp, rfl, fun i => ?_, hh, hc⟩
    have := frame_rep (Array.replicate 0 undef) #[] ha i
    simpa using this
  obtain ⟨x', hx, s'⟩ := ghost_adopt (t := 2) (fr := frameOf [a0, a1, .d .nil, a3] 0) U sz rfl _ _ _ _ _ s
  obtain ⟨u0, us0, e0, r0, u1, us1, e1, r1, u2, us2, e2, r2, u3, us3, e3, r3, hn⟩ := ha
  have hn : us3 = [] := hn
  subst hn e3 e2 e1 e0
  have r2' : ARep x' (.own σ.length 0 sz 0 0) u2 := by
    have := s'.tmps 2
    rw [fget_cons_self] at this
    simpa using this
  have ha' : ALRep x' [a0, a1, .own σ.length 0 sz 0 0, a3] [u0, u1, u2, u3] := ⟨u0, _, rfl, r0.ext hx, u1, _, rfl, r1.ext hx, u2, _, rfl, r2', u3, _, rfl, r3.ext hx, rfl⟩
  refine Calls.mono (hr.2 B R x' w _ ha' s'.heap s'.calm) fun e w' q => ?_
  obtain ⟨u, v, x2, σ2, q1, q2, q3⟩ := q
  exact ⟨u, v, x2, σ2, q1, hx.trans q2, q3⟩
section
variable {q : RQ} {H : AHeap} {B : Int} {locC : Nat}
theorem walk_q (ok : H.Ok B) (n1 : q.p ≠ locC) (n2 : q.s ≠ locC) (n3 : q.g ≠ locC) : ∀ (f : Nat) (w : AWord) (come : List Int) (fl : Bool) (σ : List AObj) (ver : Nat), Seen H come → H.slots.length + 1 ≤ f + come.length → RHeap σ q H → σ[locC]? = some (.arr 2 1 ver (comeR come)) →
    Runs Try.prog 104 [.ptr q.p 0 0, .d (.agg (wordD w)), .own locC ver 1 0 come.length, .d (.v (.bool fl))] σ (WalkP locC (walkF H f w come fl) σ)
  | 0, w, come, fl, σ, ver, hs, hf, _, _ => by have := hs.len; omega
  | f + 1, w, come, fl, σ, ver, hs, hf, h, hC => by
    have hl : H.slots.length ≤ 1000000 := by have := ok.few; have := ok.room1; omega
    have hcl := hs.len
    have hd : walkF H (f + 1) w come fl = if w.ok = false then .bad 2
      else if w.k ≠ 5 then .ok (.mk w.k w.n w.s []) come (fl || (decide (w.k = 6) || decide (w.k = 7)))
      else if (H.find w).1 ≠ 0 then .bad (H.find w).1
      else if w.n ∈ come then .bad 6
      else match walksF (walkF H f) (H.get w).1.ws (come ++ [w.n]) fl with
        | .bad e => .bad e
        | .ok vs come fl => .ok (.mk ((H.get w).1.k + 10) (H.get w).1.n ⟨#[]⟩ vs) come fl := rfl
    have hend := walk_end H f
    generalize walkF H (f + 1) w come fl = R at hd ⊢
    by_cases h1 : w.ok = false
    · rw [if_pos h1] at hd
      obtain ⟨wk, wn, ws, wg⟩ := w
      exact walk_q_bad hd h1 hC
    have h1' : w.ok = true := by simpa using h1
    rw [if_neg h1] at hd
    by_cases h2 : w.k ≠ 5
    · rw [if_pos h2] at hd
      obtain ⟨wk, wn, ws, wg⟩ := w
      exact walk_q_leaf hd h1' h2 hC
    have h2' : w.k = 5 := by simpa using h2
    rw [if_neg h2] at hd
    have h78 := wrong_q h hl w
    by_cases h3 : (H.find w).1 ≠ 0
    · rw [if_pos h3] at hd
      obtain ⟨wk, wn, ws, wg⟩ := w
      replace h2' : wk = 5 := h2'
      subst h2'
      exact walk_q_err hd h3 h1' h78 hC
    rw [if_neg h3] at hd
    have h3' : (H.find w).1 = 0 := by simpa using h3
    rw [h3'] at h78
    by_cases h4 : w.n ∈ come
    · rw [if_pos h4] at hd
      obtain ⟨wk, wn, ws, wg⟩ := w
      replace h2' : wk = 5 := h2'
      subst h2'
      exact walk_q_again hd h4 (by omega) h1' h78 hC
    rw [if_neg h4] at hd
    obtain ⟨z1, z2, z3, z4, z5, z6, z7⟩ := AHeap.find_zero h3'
    have hget : H.get w = ((H.slot (H.find w).2).c, 0) := by unfold AHeap.get; rw [if_pos h3']
    rw [hget] at hd
    have hs2 := AHeap.slot_get z5
    have hcw := ok.words _ (AHeap.slot_mem z5)
    generalize (H.find w).2 = i at *
    generalize H.slot i = s at *
    obtain ⟨⟨ck, cn, cw⟩, g, lv⟩ := s
    obtain ⟨wk, wn, ws, wg⟩ := w
    replace h2' : wk = 5 := h2'
    replace z4 : wn = (i : Int) := z4
    subst h2' z4
    have hs0 : Seen H (come ++ [(i : Int)]) := by
      refine ⟨List.nodup_append.2 ⟨hs.1, by simp, fun a ha b hb e => ?_⟩, fun x hx => ?_⟩
      · simp at hb
        subst hb e
        exact h4 ha
      · rcases List.mem_append.1 hx with hx | hx
        · exact hs.2 x hx
        · simp at hx; subst hx; exact ⟨by omega, by omega⟩
    refine walk_q_new h4 (by omega) h1' h78 hC fun X hX => ?_
    exact walk_q_kids (v := fun vs => .mk (ck + 10) cn ⟨#[]⟩ vs) hd (fun w c b σ ver _ hsn hcn h hC => walk_q ok n1 n2 n3 f w c b σ ver hsn (by simp at hcn; omega) h hC) (fun w c b v c2 b2 _ hsn hcn he => (hend w c b hsn (by simp at hcn; omega)).2 v c2 b2 he) hs0 hl (Nat.le_trans hcw (by decide)) hs2 n1 n2 n3 h hC (KeptP.refl _ _) hX
/-- What Walk answers, with nothing come to. -/
def WalkN (r : Res Val) (σ : List AObj) : AV → List AObj → Prop := fun x σ' =>
  (∃ v c2 f2 loc ver n, r = .ok v c2 f2 ∧ x = .tup [.own loc ver 1 0 n, .d (.v (.bool f2)), .d (.v (.int .i64 0))] ∧ KeptP (fun _ => True) σ σ') ∨
  (∃ e loc ver n f2, r = .bad e ∧ e ≠ 0 ∧ x = .tup [.own loc ver 1 0 n, .d (.v (.bool f2)), .d (.v (.int .i64 e))] ∧ KeptP (fun _ => True) σ σ')
theorem walk_n {σ : List AObj} (ok : H.Ok B) (h : RHeap σ q H) {f : Nat} (hf : H.slots.length + 1 ≤ f) (w : AWord) (fl : Bool) : Runs Try.prog 104 [.ptr q.p 0 0, .d (.agg (wordD w)), .d .nil, .d (.v (.bool fl))] σ (WalkN (walkF H f w [] fl) σ) := by
  refine Runs.adopt3 (U := 2) (sz := 1) fun loc σ' hc => ?_
  obtain ⟨vs, vg, gr, hP, hS, hG, _⟩ := h.at'
  have n1 := hc.ne hP
  have n2 := hc.ne hS
  have n3 := hc.ne hG
  have hk : ∀ {σ2 : List AObj}, KeptP (· ≠ loc) σ' σ2 → KeptP (fun _ => True) σ σ2 := fun k i o _ e => k i o (fun e2 => hc.ne e (e2 ▸ rfl)) (hc.keep e)
  refine (walk_q ok n1 n2 n3 f w [] fl σ' 0 ⟨List.nodup_nil, fun x hx => by cases hx⟩ (by simpa using hf) (h.keep fun i o _ e => hc.keep e) hc.at').mono fun x σ2 hx => ?_
  rcases hx with ⟨v, c2, f2, ver, e1, e2, e3, e4⟩ | ⟨e, ver, n, f2, e1, e2, e3, e4⟩
  · exact .inl ⟨v, c2, f2, loc, ver, _, e1, e2, hk e4⟩
  · exact .inr ⟨e, loc, ver, n, f2, e1, e2, e3, hk e4⟩
end
end Go.Proofs.Ytciciaikajdenaa
/- T11: the document's value. -/
set_option linter.unusedSimpArgs false
set_option linter.unusedVariables false
namespace Go.Proofs.Ytciciaikajdenaa
open Go.RowKit

noncomputable def val5 : Option Code := match Try.f105.body with
  | some c => findW 5 c
  | none => none
section
variable {σ0 σ : List AObj} {q : RQ} {H : AHeap} {B : Int} {wk wn wg : Int} {ws : ByteArray}
set_option maxRecDepth 100000 in
set_option maxHeartbeats 8000000 in
theorem value_q_leaf (hk : wk ≠ 5) : Runs Try.prog 105 [.ptr q.p 0 0, .d (.agg [DV.v (.int .u8 wk), DV.v (.int .i64 wn), DV.v (.string ws), DV.v (.int .i64 wg)])] σ (fun r σ' => r = .d (.agg (valD (.mk wk wn ws []))) ∧ KeptP (fun _ => True) σ σ') := by
  have hK := KeptP.refl (fun _ => True) σ
  refine Runs.weakR ?_
  refine enterB 55 tab_ok Try.func105 rfl (by kernel_rfl) rfl rfl rfl ?_
  repeat' (first | refine s_op rfl ?_ | (apply s_fa_f tab_ok; (iterate 6 (exact rfl))) | (apply s_ld_f tab_ok; (iterate 6 (exact rfl))) | (apply s_build tabZ_ok; (iterate 5 (exact rfl))) | (apply s_boxZ; (iterate 5 (exact rfl)); first | exact rfl | exact allD_mapd _) | (apply s_neq_t; (iterate 5 (exact rfl)); omega) | (apply s_allocF tabZ_ok (d := 4); (iterate 6 (exact rfl)); intro locX σ hc; have hX := hc.at'; have oX := hK.out hc; replace hK := hK.fresh hc; clear hc) | (apply s_storeF tab_ok; (iterate 7 (exact rfl)); exact hX; (iterate 2 (exact rfl)); intro σ hc; replace hX := hc.at'; replace hK := hK.chg oX hc; clear hc) | refine al_nil ?_ | refine q_then_n ?_ | refine q_then_r ?_ | refine aw_seq ?_ | refine aw_reg ?_ | refine aw_true rfl ?_ | refine aw_ret ?_)
  all_goals exact q_retB (resB_1 rfl (resV_c (t := 66) rfl rfl hX rfl)) ⟨_, rfl, Wk.agg ⟨Wk.refl _, Wk.refl _, Wk.refl _, Wk.nil 4, trivial⟩, hK⟩
set_option maxRecDepth 100000 in
set_option maxHeartbeats 8000000 in
theorem value_q_kids {f : AWord → List Int → Bool → Res Val} {kws : List AWord} {c0 c9 : List Int} {fl f9 : Bool} {vs9 : List Val} {k cn ck : Int} {locX locC locV : Nat} (hR : walksF f kws c0 fl = .ok vs9 c9 f9) (hkl : kws.length ≤ 1000000)
    (hcall : ∀ (w : AWord) (c : List Int) (b : Bool) (v : Val) (c2 : List Int) (b2 : Bool) (σ : List AObj), w ∈ kws → f w c b = .ok v c2 b2 → RHeap σ q H → Runs Try.prog 105 [.ptr q.p 0 0, .d (.agg (wordD w))] σ (fun r σ' => r = .d (.agg (valD v)) ∧ KeptP (fun _ => True) σ σ'))
    (nXC : locX ≠ locC) (nXV : locX ≠ locV) (nCV : locC ≠ locV) (p1 : q.p ≠ locX ∧ q.s ≠ locX ∧ q.g ≠ locX) (p2 : q.p ≠ locC ∧ q.s ≠ locC ∧ q.g ≠ locC) (p3 : q.p ≠ locV ∧ q.s ≠ locV ∧ q.g ≠ locV) (oX : OutP (fun _ => True) σ0 locX) (oV : OutP (fun _ => True) σ0 locV)
    (h : RHeap σ q H) (hX : σ[locX]? = some (.row 66 [.d (.v (.int .u8 0)), .d (.v (.int .i64 0)), .d (.v (.string ⟨#[]⟩)), .d .nil])) (hC : σ[locC]? = some (.row 34 [.d (.v (.int .u8 ck)), .d (.v (.int .i64 cn)), .d (.lst 4 (wordsR kws))])) (hV : σ[locV]? = some (.row 66 [.d (.v (.int .u8 k)), .d (.v (.int .i64 cn)), .d (.v (.string ⟨#[]⟩)), .d .nil])) (hK : KeptP (fun _ => True) σ0 σ) {X : Code} (hX2 : val5 = some X) :
    AWk Try.prog 55 X (retQB tab Try.f105 (fun r σ' => r = .d (.agg (valD (.mk k cn ⟨#[]⟩ vs9))) ∧ KeptP (fun _ => True) σ0 σ')) [(0, .ptr q.p 0 0), (4, .ptr locX 0 0), (5, .ptr locC 0 0), (6, .ptr locV 0 0)] σ := by
  have e1 := wordsR_len kws
  cases hX2
  have key := fun {L : Nat} {c : List AV} {σ' : List AObj} => hK.adopt (t := 66) (L := L) (U := 66) (sz := 4) (c := c) (σ' := σ') oV
  repeat' (first | refine s_op rfl ?_ | (apply s_assign; (iterate 4 (exact rfl))) | (refine w_adoptC locV 3 66 4 hV rfl ?_; intro locL σ hc; have hL := hc.arr; have nXL := hc.fresh _ _ hX; have nCL := hc.fresh _ _ hC; have nVL := hc.ne.symm; have pL : q.p ≠ locL ∧ q.s ≠ locL ∧ q.g ≠ locL := (by obtain ⟨vs, vg, gr, a, b, c, _⟩ := h.at'; exact ⟨hc.fresh _ _ a, hc.fresh _ _ b, hc.fresh _ _ c⟩); replace h := h.keepP (p := (· ≠ locV)) (fun k o hk e => hc.keep hk e) p3.1 p3.2.1 p3.2.2; replace hV := hc.row; replace hX := hc.keep nXV hX; replace hC := hc.keep nCV hC; obtain ⟨hK, oL⟩ := key hc; clear key hc) | refine al_nil ?_ | refine q_then_n ?_ | refine aw_block ?_ | refine aw_seq ?_ | refine aw_reg ?_)
  refine w_loop [0, 4, 5, 6, 7] (fun n' vs' σ' => ∃ (j ver : Nat) (vsj : List Val) (cj : List Int) (fj : Bool), vs' = [.ptr q.p 0 0, .ptr locX 0 0, .ptr locC 0 0, .ptr locV 0 0, .d (.v (.int .i64 (j : Int)))] ∧ walksF f (kws.take j) c0 fl = .ok vsj cj fj ∧ vsj.length = j ∧ RHeap σ' q H ∧ σ'[locX]? = some (.row 66 [.d (.v (.int .u8 0)), .d (.v (.int .i64 0)), .d (.v (.string ⟨#[]⟩)), .d .nil]) ∧ σ'[locC]? = some (.row 34 [.d (.v (.int .u8 ck)), .d (.v (.int .i64 cn)), .d (.lst 4 (wordsR kws))]) ∧ σ'[locV]? = some (.row 66 [.d (.v (.int .u8 k)), .d (.v (.int .i64 cn)), .d (.v (.string ⟨#[]⟩)), .own locL ver 4 0 j]) ∧ σ'[locL]? = some (.arr 66 4 ver (valR vsj)) ∧ KeptP (fun _ => True) σ0 σ' ∧ j ≤ kws.length ∧ n' = kws.length - j) rfl ⟨0, 0, [], c0, fl, rfl, rfl, rfl, h, hX, hC, hV, hL, hK, by omega, rfl⟩ ?_
  clear h hX hC hV hL hK
  rintro n' vs' σ ⟨j, ver, vsj, cj, fj, rfl, hwalk, hvl, h, hX, hC, hV, hL, hK, hj, rfl⟩ fr hfr
  cases hfr
  have e2 := valR_len vsj
  by_cases hlt : j < kws.length
  · obtain ⟨w, hw⟩ := getS hlt
    obtain ⟨w1, w2⟩ := walksF_take hw hwalk
    cases hf : f w cj fj with
    | bad e => rw [w2 e hf] at hR; cases hR
    | ok v c2 f2 =>
      have hcl := fun σ h => hcall w cj fj v c2 f2 σ (List.mem_of_getElem? hw) hf h
      have hw1 := w1 v c2 f2 hf
      clear hcall hR hwalk w1 w2
      have eva : valR vsj ++ [valD v] = valR (vsj ++ [v]) := by rw [valR_append]; rfl
      obtain ⟨xk, xn, xs, xg⟩ := w
      obtain ⟨yk, yn, ys, yl⟩ := v
      repeat' (first | refine s_op rfl ?_ | (apply s_move; (iterate 4 (exact rfl))) | (apply s_fa_p tab_ok; (iterate 5 (exact rfl))) | (apply s_ld_f tab_ok; (iterate 6 (exact rfl))) | (apply s_assign; (iterate 4 (exact rfl))) | (apply s_len tab_ok; (iterate 5 (exact rfl))) | (apply s_idx tab_ok; (iterate 7 (exact rfl)); (first | exact valR_get (by assumption) | exact wordsR_get (by assumption) | assumption)) | (apply s_lit tab_ok tabZ_ok; (iterate 10 (exact rfl))) | (apply s_lss_t; (iterate 5 (exact rfl)); omega) | (apply s_add64; (iterate 5 (exact rfl)); omega) | (apply s_ldF tab_ok; (iterate 5 (exact rfl)); exact hC; exact rfl) | (apply s_ldF tab_ok; (iterate 5 (exact rfl)); exact hV; exact rfl) | (apply s_callS; (iterate 6 (exact rfl)); exact hcl _ h; rintro _ σ2 ⟨rfl, hk2⟩; replace h := h.keep hk2; replace hX := hk2 _ _ trivial hX; replace hC := hk2 _ _ trivial hC; replace hV := hk2 _ _ trivial hV; replace hL := hk2 _ _ trivial hL; replace hK := hK.trans hk2; clear hk2) | (apply s_appF tab_ok tabZ_ok (d := 52) (rows2 := [valD (.mk yk yn ys yl)]) (rows3 := valR (vsj ++ [.mk yk yn ys yl])) (m := j + 1); (iterate 10 (exact rfl)); exact hL; exact src_of (Tab.slIs tab_ok (t := 64) rfl) (rows_d rfl); exact eva; (refine ⟨?_, ?_, ?_⟩ <;> first | omega | (simp only [List.length_cons, List.length_nil] <;> omega)); intro σ hc; replace hL := hc.at'; replace hX := hc.keep nXL hX; replace hC := hc.keep nCL hC; replace hV := hc.keep nVL hV; replace h := h.keepP (p := (· ≠ locL)) (fun k o hk e => hc.keep hk e) pL.1 pL.2.1 pL.2.2; replace hK := hK.chg oL hc; clear hc) | (apply s_storeF tab_ok; (iterate 7 (exact rfl)); exact hV; (iterate 2 (exact rfl)); intro σ hc; replace hV := hc.at'; replace hX := hc.keep nXV hX; replace hC := hc.keep nCV hC; replace hL := hc.keep nVL.symm hL; replace h := h.keepP (p := (· ≠ locV)) (fun k o hk e => hc.keep hk e) p3.1 p3.2.1 p3.2.2; replace hK := hK.chg oV hc; clear hc) | refine al_nil ?_ | refine q_then_n ?_ | refine q_blk_n ?_ | refine aw_block ?_ | refine aw_seq ?_ | refine aw_reg ?_ | refine aw_true rfl ?_ | refine aw_skip ?_ | refine al_fork ?_ ?_ | refine aw_draws (id := 8) (trO [0, 2, 3, 4, 5, 6, 7] (.fork 1 (trO [8, 9, 10, 11, 12] .nil) 8 (.fork 1 (trO [9, 10, 11, 12] .nil) 9 (trO [1, 10, 11, 12] .nil)))) [1, 8, 9, 10, 12] [8, 10, 12] mixed_ok (by kernel_rfl) ?_)
      all_goals exact ⟨_, _, rfl, by omega, j + 1, _, vsj ++ [.mk yk yn ys yl], c2, f2, rfl, hw1, by simp [hvl], h, hX, hC, hV, hL, hK, by omega, rfl⟩
  · have hjl : j = kws.length := by omega
    rw [List.take_of_length_le (by omega), hR] at hwalk
    injection hwalk with q1 q2 q3
    subst q1 q2 q3
    clear hcall hR
    repeat' (first | refine s_op rfl ?_ | (apply s_move; (iterate 4 (exact rfl))) | (apply s_fa_p tab_ok; (iterate 5 (exact rfl))) | (apply s_len tab_ok; (iterate 5 (exact rfl))) | (apply s_lss_f; (iterate 5 (exact rfl)); omega) | (refine w_freezeC locV 3 hV rfl hL (by omega) ?_; intro σ hc; replace hK := hK.frz oV oL hc; replace hV := hc.row; replace hX := hc.keep' _ _ hX nXV nXL; replace hC := hc.keep' _ _ hC nCV nCL; clear hc hL h) | (apply s_ldF tab_ok; (iterate 5 (exact rfl)); exact hV; exact rfl) | (apply s_ldF tab_ok; (iterate 5 (exact rfl)); exact hC; exact rfl) | (apply s_storeF tab_ok; (iterate 7 (exact rfl)); exact hX; (iterate 2 (exact rfl)); intro σ hc; replace hX := hc.at'; replace hV := hc.keep nXV.symm hV; replace hK := hK.chg oX hc; clear hc) | refine al_nil ?_ | refine q_then_n ?_ | refine q_blk_e ?_ | refine q_then_e ?_ | refine aw_exit ?_ | refine aw_seq ?_ | refine aw_reg ?_ | refine aw_false rfl ?_ | refine aw_ret ?_)
    all_goals exact q_retB (resB_1 rfl (resV_c (t := 66) rfl rfl hX rfl)) ⟨rfl, hK⟩
end
end Go.Proofs.Ytciciaikajdenaa
