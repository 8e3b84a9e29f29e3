/- T28: Reach, of the words told last: a part of an owned slice. -/
import Derived.Test.YtciciaikajdenaaTPR12T26x2
import Derived.Test.YtciciaikajdenaaTPR12N26x7
set_option linter.unusedSimpArgs false
set_option linter.unusedVariables false
namespace Go.Proofs.Ytciciaikajdenaa
open Go.RowKit

section
variable {σ : List AObj} {locH locL vL off n : Nat} {H : AHeap} {B : Int} {f : Nat} {l ws : List AWord}
theorem part_get (hws : ws = l.drop off) {j : Nat} {w : AWord} (h : ws[j]? = some w) : (wordsR l)[off + j]? = some (wordD w) := by
  subst hws
  rw [List.getElem?_drop] at h
  exact wordsR_get h
set_option maxRecDepth 100000 in
set_option maxHeartbeats 8000000 in
theorem does97o {locB : Nat} (ok : H.Ok B) (hco : CellsOk H) (hH : σ[locH]? = some (ho H)) (hB : σ[locB]? = some (.row 32 [.own locL vL 4 off n])) (hL : σ[locL]? = some (.arr 36 4 vL (wordsR l))) (hws : ws = l.drop off) (hn : ws.length = n) (hlen : ws.length ≤ 1000000000) (hn9 : walksF (walkF H f) ws [] false ≠ .bad 999) :
    DoesVI 97 (.ptr locB 0 0) locH (fun n H' => H' = H ∧ ∃ vs come fl, walksF (walkF H f) ws [] false = .ok vs come fl ∧ n = come.length) (fun e => walksF (walkF H f) ws [] false = .bad e) σ := by
  intro σ1 locW locM hk oW oM hW hM
  have hH1 := hk _ _ trivial hH
  have hB1 := hk _ _ trivial hB
  have hL1 := hk _ _ trivial hL
  have hv := fun w come fl σ h a b c => value_x (locW := locW) (locM := locM) (locH := locH) ok hco f w come fl σ h a b c
  have nHW : locH ≠ locW := fun h => by rw [← h, hH1] at hW; cases hW
  have nHM : locH ≠ locM := fun h => by rw [← h, hH1] at hM; cases hM
  have nLW : locL ≠ locW := fun h => by rw [← h, hL1] at hW; cases hW
  have nLM : locL ≠ locM := fun h => by rw [← h, hL1] at hM; cases hM
  have hK := KeptP.refl (fun k => k ≠ locW ∧ k ≠ locM) σ1
  have e1 := wordsR_len l
  clear hk oW oM hH hB hL
  refine enterX 21 tab_ok Try.func97 rfl (by kernel_rfl) rfl rfl rfl ?_
  repeat' (first | refine s_op rfl ?_ | (apply s_move; (iterate 4 (exact rfl))) | (apply s_assign; (iterate 4 (exact rfl))) | (apply s_len tab_ok; (iterate 5 (exact rfl))) | (apply s_ldF tab_ok; (iterate 5 (exact rfl)); exact hB1; exact rfl) | refine al_nil ?_ | refine q_then_n ?_ | refine aw_block ?_ | refine aw_seq ?_ | refine aw_reg ?_)
  refine w_loop [0, 6, 7, 8] (fun n' vs' σ => ∃ (j : Nat) (vsj : List Val) (cj : List Int) (fj : Bool), vs' = [.ptr locW 0 0, .own locL vL 4 off n, .d (.v (.int .i64 (n : Int))), .d (.v (.int .i64 (j : Int)))] ∧ walksF (walkF H f) (ws.take j) [] false = .ok vsj cj fj ∧ σ[locW]? = some (walkO locH locM fj) ∧ σ[locM]? = some (seenO cj) ∧ σ[locH]? = some (ho H) ∧ σ[locL]? = some (.arr 36 4 vL (wordsR l)) ∧ KeptP (fun k => k ≠ locW ∧ k ≠ locM) σ1 σ ∧ j ≤ n ∧ n' = n - j) rfl ⟨0, [], [], false, rfl, rfl, hW, hM, hH1, hL1, hK, by omega, rfl⟩ ?_
  clear hW hM hH1 hK hB1 hL1
  rintro n' vs' σ ⟨j, vsj, cj, fj, rfl, hwalk, hW, hM, hH1, hL, hK, hj, rfl⟩ fr hfr
  cases hfr
  by_cases hlt : j < n
  · obtain ⟨w, hw⟩ := getS (show j < ws.length by omega)
    have hr := part_get hws hw
    obtain ⟨w1, w2⟩ := walksF_take hw hwalk
    have hne : walkF H f w cj fj ≠ .bad 999 := fun h => hn9 (w2 _ h)
    have hc := fun σ a b c => hv w cj fj σ hne a b c
    unfold ValP ValE at hc
    obtain ⟨wk, wn, wstr, wg⟩ := w
    replace hr : (wordsR l)[off + j]? = some [DV.v (.int .u8 wk), DV.v (.int .i64 wn), DV.v (.string wstr), DV.v (.int .i64 wg)] := hr
    clear hv hwalk
    repeat' (first | refine s_op rfl ?_ | (apply s_move; (iterate 4 (exact rfl))) | (apply s_lss_t; (iterate 5 (exact rfl)); omega) | (apply s_add64; (iterate 5 (exact rfl)); omega) | (apply s_idxO ((off + j) * 4) tab_ok; (iterate 7 (exact rfl)); exact hL; exact ⟨by omega, rfl⟩) | (apply s_ldA (off + j) 0 tab_ok; (iterate 5 (exact rfl)); exact hL; exact hr; omega; exact rfl) | (apply s_allocF tabZ_ok (d := 5); (iterate 6 (exact rfl)); intro locZ σ hc; have hZ := hc.at'; have nWZ := hc.ne hW; replace hW := hc.keep hW; have nMZ := hc.ne hM; replace hM := hc.keep hM; have nH1Z := hc.ne hH1; replace hH1 := hc.keep hH1; have nLZ := hc.ne hL; replace hL := hc.keep hL; have oZ := hK.out hc; replace hK := hK.fresh hc; clear hc) | (apply s_storeF tab_ok; (iterate 7 (exact rfl)); exact hZ; (iterate 2 (exact rfl)); intro σ hc; replace hZ := hc.at'; replace hW := hc.keep (by first | assumption | (apply Ne.symm; assumption) | omega) hW; replace hM := hc.keep (by first | assumption | (apply Ne.symm; assumption) | omega) hM; replace hH1 := hc.keep (by first | assumption | (apply Ne.symm; assumption) | omega) hH1; replace hL := hc.keep (by first | assumption | (apply Ne.symm; assumption) | omega) hL; replace hK := hK.chg oZ hc; clear hc) | (apply s_ldF tab_ok; (iterate 5 (exact rfl)); exact hZ; exact rfl) | (apply s_callX; (iterate 6 (exact rfl)); exact hc _ hW hM hH1; rotate_left; rintro _ σ2 ⟨e, he, rfl, hk2⟩; (repeat (first | refine q_then_p ?_ | refine q_blk_p ?_)); exact q_panX ⟨e, rfl, w2 _ he, hK.trans hk2⟩; rintro _ σ2 ⟨v, c2, f2, hok, rfl, hW2, hM2, hk2⟩; replace hH1 := hk2 _ _ ⟨nHW, nHM⟩ hH1; replace hL := hk2 _ _ ⟨nLW, nLM⟩ hL; replace hK := hK.trans hk2; clear hk2 hZ) | refine al_nil ?_ | refine q_then_n ?_ | refine q_blk_n ?_ | refine aw_block ?_ | refine aw_seq ?_ | refine aw_reg ?_ | refine aw_true rfl ?_ | refine aw_skip ?_)
    all_goals exact ⟨_, _, rfl, by omega, j + 1, _, c2, f2, rfl, w1 _ c2 f2 hok, hW2, hM2, hH1, hL, hK, by omega, rfl⟩
  · rw [List.take_of_length_le (by omega)] at hwalk
    unfold walkO at hW
    unfold seenO at hM
    have hlc : (entsV (Value.int .i64) (seenL cj)).length = cj.length := by simp [entsV, seenL]
    repeat' (first | refine s_op rfl ?_ | (apply s_move; (iterate 4 (exact rfl))) | (apply s_fa_p tab_ok; (iterate 5 (exact rfl))) | (apply s_assign; (iterate 4 (exact rfl))) | (apply s_nilc; (iterate 5 (exact rfl))) | (apply s_lss_f; (iterate 5 (exact rfl)); omega) | (apply s_ldF tab_ok; (iterate 5 (exact rfl)); exact hW; exact rfl) | (apply s_lenM seenP; (iterate 5 (exact rfl)); exact hM) | refine al_nil ?_ | refine q_then_n ?_ | refine q_blk_e ?_ | refine q_then_e ?_ | refine aw_exit ?_ | refine aw_seq ?_ | refine aw_reg ?_ | refine aw_false rfl ?_ | refine aw_ret ?_)
    all_goals exact q_retX (resB_1 rfl (resV_t rfl)) ⟨_, H, rfl, ⟨rfl, _, _, _, hwalk, by rw [hlc]⟩, hH1, hK.of fun k h => h.2⟩
set_option maxRecDepth 100000 in
set_option maxHeartbeats 8000000 in
theorem reach48o (ok : H.Ok B) (hco : CellsOk H) (hH : σ[locH]? = some (ho H)) (hL : σ[locL]? = some (.arr 36 4 vL (wordsR l))) (hws : ws = l.drop off) (hn : ws.length = n) (hlen : ws.length ≤ 1000000000) (hn9 : walksF (walkF H f) ws [] false ≠ .bad 999) :
    Runs Try.prog 48 [.ptr locH 0 0, .own locL vL 4 off n] σ (fun r σ' => r = .d (.tup [.v (.int .i64 (reachM H f ws).1), .v (.int .i64 (reachM H f ws).2)]) ∧ KeptP (fun _ => True) σ σ') := by
  have hK := KeptP.refl (fun _ => True) σ
  have hg := fun (σ1 : List AObj) (locB : Nat) (hH : σ1[locH]? = some (ho H)) (hB : σ1[locB]? = some (.row 32 [.own locL vL 4 off n])) (hL : σ1[locL]? = some (.arr 36 4 vL (wordsR l))) => guarded_vI (does97o (f := f) (ws := ws) ok hco hH hB hL hws hn hlen hn9) hH
  unfold GrdVI at hg
  have main : Runs Try.prog 48 [.ptr locH 0 0, .own locL vL 4 off n] σ (fun r σ' => (∃ n : Int, r = .d (.tup [.v (.int .i64 n), .v (.int .i64 0)]) ∧ (∃ vs come fl, walksF (walkF H f) ws [] false = .ok vs come fl ∧ n = come.length) ∧ KeptP (fun _ => True) σ σ') ∨ ∃ e, r = .d (.tup [.v (.int .i64 0), .v (.int .i64 e)]) ∧ walksF (walkF H f) ws [] false = .bad e ∧ KeptP (fun _ => True) σ σ') := by
    generalize walksF (walkF H f) ws [] false = R at hg
    refine enterB 11 tab_ok Try.func48 rfl (by kernel_rfl) rfl rfl rfl ?_
    repeat' (first | refine s_op rfl ?_ | (apply s_move; (iterate 4 (exact rfl))) | (apply s_assign; (iterate 4 (exact rfl))) | (apply s_ext; (iterate 5 (exact rfl))) | (apply s_mkf; (iterate 4 (exact rfl))) | (apply s_boxF; (iterate 6 (exact rfl)); intro locB σ hc; have hB := hc.at'; have nHB := hc.ne hH; replace hH := hc.keep hH; have nLB := hc.ne hL; replace hL := hc.keep hL; have oB := hK.out hc; replace hK := hK.fresh hc; clear hc) | (apply s_callS; (iterate 6 (exact rfl)); exact hg _ _ hH hB hL; rintro _ σ2 (⟨n, H2, rfl, ⟨rfl, hok⟩, hH2, hk2⟩ | ⟨e, rfl, hok, hk2⟩); have hk3 := hk2.one hH hH2; rotate_left; have hk3 := hk2; rotate_left; all_goals (replace hK := hK.trans hk3; clear hk3 hk2)) | refine al_nil ?_ | refine q_then_n ?_ | refine aw_seq ?_ | refine aw_reg ?_ | refine aw_ret ?_)
    · exact q_retB (resB_2 rfl (resV_t rfl) (resV_t rfl) rfl) (.inl ⟨n, rfl, hok, hK⟩)
    · exact q_retB (resB_2 rfl (resV_t rfl) (resV_t rfl) rfl) (.inr ⟨e, rfl, hok, hK⟩)
  refine main.mono fun r σ' h => ?_
  unfold reachM
  rcases h with ⟨n, rfl, ⟨vs, come, fl, hok, rfl⟩, hk⟩ | ⟨e, rfl, hok, hk⟩
  · rw [hok]
    exact ⟨rfl, hk⟩
  · rw [hok]
    exact ⟨rfl, hk⟩
set_option maxRecDepth 100000 in
set_option maxHeartbeats 8000000 in
theorem reach65o {σ0 : List AObj} {q : RQ} (ok : H.Ok B) (hf : H.slots.length + 1 ≤ f) (hwl : ws.length ≤ 1000000) (h : RHeap σ0 q H) (hL : σ0[locL]? = some (.arr 36 4 vL (wordsR l))) (hws : ws = l.drop off) (hn : ws.length = n) : Runs Try.prog 65 [.ptr q.p 0 0, .own locL vL 4 off n] σ0 (fun r σ' => r = .d (.tup [.v (.int .i64 (reachM H f ws).1), .v (.int .i64 (reachM H f ws).2)]) ∧ KeptP (fun _ => True) σ0 σ') := by
  have hK := KeptP.refl (fun _ => True) σ0
  have e1 := wordsR_len l
  have hend := walk_end H f
  refine enterB 31 tab_ok Try.func65 rfl (by kernel_rfl) rfl rfl rfl ?_
  repeat' (first | refine s_op rfl ?_ | (apply s_assign; (iterate 4 (exact rfl))) | (refine w_adoptF 6 2 1 rfl ?_; intro locC σ hc; have hC := hc.at'; have nLC := hc.ne hL; replace hL := hc.keep hL; have pC : q.p ≠ locC ∧ q.s ≠ locC ∧ q.g ≠ locC := (by obtain ⟨vs, vg, gr, a, b, c, _⟩ := h.at'; exact ⟨hc.ne a, hc.ne b, hc.ne c⟩); replace h := h.keep (KeptP.fresh (KeptP.refl _ _) hc); have oC := hK.out hc; replace hK := hK.fresh hc; clear hc) | refine al_nil ?_ | refine q_then_n ?_ | refine aw_block ?_ | refine aw_seq ?_ | refine aw_reg ?_)
  have hwq := fun w c b σ ver hs hl h hC => walk_q (locC := locC) ok pC.1 pC.2.1 pC.2.2 f w c b σ ver hs hl h hC
  refine w_loop [0, 1, 6, 8] (fun n' vs' σ' => ∃ (j ver : Nat) (vsj : List Val) (cj : List Int) (fj : Bool), vs' = [.ptr q.p 0 0, .own locL vL 4 off n, .own locC ver 1 0 cj.length, .d (.v (.int .i64 (j : Int)))] ∧ walksF (walkF H f) (ws.take j) [] false = .ok vsj cj fj ∧ Seen H cj ∧ RHeap σ' q H ∧ σ'[locC]? = some (.arr 2 1 ver (comeR cj)) ∧ σ'[locL]? = some (.arr 36 4 vL (wordsR l)) ∧ KeptP (fun _ => True) σ0 σ' ∧ j ≤ n ∧ n' = n - j) rfl ⟨0, 0, [], [], false, rfl, rfl, ⟨List.nodup_nil, fun x hx => by cases hx⟩, h, hC, hL, hK, by omega, rfl⟩ ?_
  clear h hC hK hL
  rintro n' vs' σ ⟨j, ver, vsj, cj, fj, rfl, hwalk, hsn, h, hC, hL, hK, hj, rfl⟩ fr hfr
  cases hfr
  by_cases hlt : j < n
  · obtain ⟨w, hw⟩ := getS (show j < ws.length by omega)
    have hr := part_get hws hw
    obtain ⟨w1, w2⟩ := walksF_take hw hwalk
    have hcl := hwq w cj false σ ver hsn (by omega) h hC
    have her := walk_er H f w cj false fj
    have hsn2 := (hend w cj false hsn (by omega)).2
    have hok : ∀ v c2 f2, walkF H f w cj false = .ok v c2 f2 → ∃ v' f2', walksF (walkF H f) (ws.take (j + 1)) [] false = .ok (vsj ++ [v']) c2 f2' := fun v c2 f2 hf => by
      rw [hf] at her
      cases h5 : walkF H f w cj fj with
      | bad e' => rw [h5] at her; simp [Res.er] at her
      | ok v' c2' f2' =>
        rw [h5] at her
        simp only [Res.er, Except.ok.injEq] at her
        subst her
        exact ⟨v', f2', w1 _ _ _ h5⟩
    have hbad : ∀ e, walkF H f w cj false = .bad e → reachM H f ws = (0, e) := fun e hf => by
      rw [hf] at her
      cases h5 : walkF H f w cj fj with
      | bad e' =>
        rw [h5] at her
        simp only [Res.er, Except.error.injEq] at her
        subst her
        unfold reachM
        rw [w2 _ h5]
      | ok v' c2' f2' => rw [h5] at her; simp [Res.er] at her
    unfold WalkP at hcl
    clear hwq hend her hwalk w1 w2
    obtain ⟨xk, xn, xs, xg⟩ := w
    replace hr : (wordsR l)[off + j]? = some [DV.v (.int .u8 xk), DV.v (.int .i64 xn), DV.v (.string xs), DV.v (.int .i64 xg)] := hr
    repeat' (first | refine s_op rfl ?_ | (apply s_move; (iterate 4 (exact rfl))) | (apply s_assign; (iterate 4 (exact rfl))) | (apply s_len tab_ok; (iterate 5 (exact rfl))) | (apply s_ext; (iterate 5 (exact rfl))) | (apply s_neq_t; (iterate 5 (exact rfl)); omega) | (apply s_neq_f; (iterate 5 (exact rfl)); omega) | (apply s_lss_t; (iterate 5 (exact rfl)); omega) | (apply s_add64; (iterate 5 (exact rfl)); omega) | (apply s_idxO ((off + j) * 4) tab_ok; (iterate 7 (exact rfl)); exact hL; exact ⟨by omega, rfl⟩) | (apply s_ldA (off + j) 0 tab_ok; (iterate 5 (exact rfl)); exact hL; exact hr; omega; exact rfl) | (apply s_callS; (iterate 6 (exact rfl)); exact hcl; rintro _ σ2 (⟨v, c2, f2, ver2, hf2, rfl, hC2, hk2⟩ | ⟨e, ver2, m2, f2, hf2, he, rfl, hk2⟩) <;> (replace hK : KeptP (fun _ => True) σ0 σ2 := (fun i o _ eo => hk2 i o (fun e2 => by subst e2; exact oC o trivial eo) (hK i o trivial eo)); replace hL := hk2 _ _ nLC hL; replace h := h.keepP hk2 pC.1 pC.2.1 pC.2.2; clear hcl)) | refine al_nil ?_ | refine q_then_n ?_ | refine q_blk_n ?_ | refine q_blk_r ?_ | refine aw_block ?_ | refine q_then_r ?_ | refine aw_seq ?_ | refine aw_reg ?_ | refine aw_true rfl ?_ | refine aw_false rfl ?_ | refine aw_skip ?_ | refine aw_ret ?_)
    · obtain ⟨v', f2', h6⟩ := hok _ _ _ hf2
      exact ⟨_, _, rfl, by omega, j + 1, _, _, c2, f2', rfl, h6, (hsn2 _ _ _ hf2).1, h, hC2, hL, hK, by omega, rfl⟩
    · rw [hbad e hf2]
      exact q_retB (resB_2 rfl (resV_t rfl) (resV_t rfl) rfl) ⟨rfl, hK⟩
  · have hjl : j = ws.length := by omega
    rw [List.take_of_length_le (by omega)] at hwalk
    have hr : reachM H f ws = ((cj.length : Int), 0) := by unfold reachM; rw [hwalk]
    rw [hr]
    clear hwq
    repeat' (first | refine s_op rfl ?_ | (apply s_move; (iterate 4 (exact rfl))) | (apply s_assign; (iterate 4 (exact rfl))) | (apply s_len tab_ok; (iterate 5 (exact rfl))) | (apply s_lss_f; (iterate 5 (exact rfl)); omega) | refine al_nil ?_ | refine q_then_n ?_ | refine q_blk_e ?_ | refine q_then_e ?_ | refine aw_exit ?_ | refine aw_seq ?_ | refine aw_reg ?_ | refine aw_false rfl ?_ | refine aw_ret ?_)
    all_goals exact q_retB (resB_2 rfl (resV_t rfl) (resV_t rfl) rfl) ⟨rfl, hK⟩
end
end Go.Proofs.Ytciciaikajdenaa
/- N44: the document's Same of contents, of one and the same; CellOrder (joined). -/
set_option linter.unusedSimpArgs false
set_option linter.unusedVariables false
namespace Go.Proofs.Ytciciaikajdenaa
open Go.RowKit

set_option maxRecDepth 100000 in
set_option maxHeartbeats 8000000 in
theorem same26 (c : ACell) (hc : c.ws.length ≤ 1000000) : RunsP Try.prog 26 [.agg (cellD c), .agg (cellD c)] (fun v => v = .v (.bool true)) := by
  obtain ⟨ck, cn, cw⟩ := c
  have e1 := wordsR_len cw
  replace hc : cw.length ≤ 1000000 := hc
  show RunsP Try.prog 26 [.agg [DV.v (.int .u8 ck), DV.v (.int .i64 cn), DV.lst 4 (wordsR cw)], .agg [DV.v (.int .u8 ck), DV.v (.int .i64 cn), DV.lst 4 (wordsR cw)]] (fun v => v = .v (.bool true))
  refine enterP 45 Try.func26 rfl (by kernel_rfl) rfl rfl rfl ?_
  repeat' (first | refine s_op rfl ?_ | (apply s_move; (iterate 4 (exact rfl))) | (apply s_fa_f tab_ok; (iterate 6 (exact rfl))) | (apply s_ld_f tab_ok; (iterate 6 (exact rfl))) | (apply s_assign; (iterate 4 (exact rfl))) | (apply s_pick_f; (iterate 5 (exact rfl))) | (apply s_len tab_ok; (iterate 5 (exact rfl))) | (apply s_boxZ; (iterate 5 (exact rfl)); first | exact rfl | exact allD_mapd _) | (apply s_neq_f; (iterate 5 (exact rfl)); omega) | refine al_nil ?_ | refine q_then_n ?_ | refine aw_block ?_ | refine aw_seq ?_ | refine aw_reg ?_ | refine aw_false rfl ?_ | refine aw_skip ?_)
  refine w_loop [2, 3, 5] (fun n' vs' σ => ∃ k : Nat, vs' = [.d (.fptr [DV.v (.int .u8 ck), DV.v (.int .i64 cn), DV.lst 4 (wordsR cw)]), .d (.fptr [DV.v (.int .u8 ck), DV.v (.int .i64 cn), DV.lst 4 (wordsR cw)]), .d (.v (.int .i64 (k : Int)))] ∧ σ = [] ∧ k ≤ cw.length ∧ n' = cw.length - k) rfl ⟨0, rfl, rfl, by omega, rfl⟩ ?_
  rintro n' vs' σ ⟨k, rfl, rfl, hk2, rfl⟩ fr hfr
  cases hfr
  by_cases hlt : k < cw.length
  · obtain ⟨q, hq⟩ := getS hlt
    obtain ⟨qk, qn, qs, qg⟩ := q
    repeat' (first | refine s_op rfl ?_ | (apply s_move; (iterate 4 (exact rfl))) | (apply s_fa_f tab_ok; (iterate 6 (exact rfl))) | (apply s_ld_f tab_ok; (iterate 6 (exact rfl))) | (apply s_assign; (iterate 4 (exact rfl))) | (apply s_len tab_ok; (iterate 5 (exact rfl))) | (apply s_idx tab_ok; (iterate 7 (exact rfl)); (first | exact valR_get (by assumption) | exact wordsR_get (by assumption) | assumption)) | (apply s_lss_t; (iterate 5 (exact rfl)); omega) | (apply s_add64; (iterate 5 (exact rfl)); omega) | (apply s_wNe_f ⟨qk, qn, qs, qg⟩ ⟨qk, qn, qs, qg⟩; (iterate 6 (exact rfl))) | refine al_nil ?_ | refine q_then_n ?_ | refine q_blk_n ?_ | refine aw_block ?_ | refine aw_seq ?_ | refine aw_reg ?_ | refine aw_true rfl ?_ | refine aw_false rfl ?_ | refine aw_skip ?_ | refine aw_draws (id := 6) (trO [0, 1, 2, 3, 4, 5, 6, 7, 8, 9, 10] .nil) [] [] mixed_ok (by kernel_rfl) ?_)
    all_goals exact ⟨_, _, rfl, by omega, k + 1, rfl, rfl, by omega, rfl⟩
  · repeat' (first | refine s_op rfl ?_ | (apply s_move; (iterate 4 (exact rfl))) | (apply s_fa_f tab_ok; (iterate 6 (exact rfl))) | (apply s_ld_f tab_ok; (iterate 6 (exact rfl))) | (apply s_assign; (iterate 4 (exact rfl))) | (apply s_len tab_ok; (iterate 5 (exact rfl))) | (apply s_lss_f; (iterate 5 (exact rfl)); omega) | refine al_nil ?_ | refine q_then_n ?_ | refine q_blk_e ?_ | refine q_then_e ?_ | refine aw_exit ?_ | refine aw_seq ?_ | refine aw_reg ?_ | refine aw_false rfl ?_ | refine aw_ret ?_)
    exact q_ret rfl ⟨_, rfl, rfl⟩
end Go.Proofs.Ytciciaikajdenaa
