/- N7: package cell's value, whole. -/
import Derived.Test.YtciciaikajdenaaTPR12N9x2
set_option linter.unusedSimpArgs false
set_option linter.unusedVariables false
namespace Go.Proofs.Ytciciaikajdenaa
open Go.RowKit

theorem KeptP.any {q : Nat → Prop} {σ σ' : List AObj} (h : KeptP (fun _ => True) σ σ') : KeptP q σ σ' := h.of fun _ _ => trivial
section
variable {σ : List AObj} {locW locM locH : Nat} {H : AHeap} {B : Int} {come : List Int} {fl : Bool}
set_option maxRecDepth 100000 in
set_option maxHeartbeats 8000000 in
theorem value_arg {w : AWord} {R : Res Val} (hR : R = .bad 2) (hw : w.ok = false) (hW : σ[locW]? = some (walkO locH locM fl)) (hM : σ[locM]? = some (seenO come)) (hH : σ[locH]? = some (ho H)) :
    RunsX Try.prog 94 [.ptr locW 0 0, .d (.agg (wordD w))] σ (ValP H locW locM locH R σ) (ValE locW locM R σ) := by
  have hm := may119_c w
  rw [hw] at hm
  have hK := KeptP.refl (fun k => k ≠ locW ∧ k ≠ locM) σ
  obtain ⟨wk, wn, ws, wg⟩ := w
  refine enterX 66 tab_ok Try.func94 rfl (by kernel_rfl) rfl rfl rfl ?_
  repeat' (first | refine s_op rfl ?_ | (apply s_ld_f tab_ok; (iterate 6 (exact rfl))) | (apply s_boxZ; (iterate 5 (exact rfl)); first | exact rfl | exact allD_mapd _) | (apply s_not_f; (iterate 4 (exact rfl))) | (apply s_allocF tabZ_ok (d := 4); (iterate 6 (exact rfl)); intro locX σ hc; have hX := hc.at'; have nWX := hc.ne hW; replace hW := hc.keep hW; have nMX := hc.ne hM; replace hM := hc.keep hM; have nHX := hc.ne hH; replace hH := hc.keep hH; have oX := hK.out hc; replace hK := hK.fresh hc; clear hc) | (apply s_callE; (iterate 4 (exact rfl)); exact must_bad 2 (by decide); rintro _ σ ⟨rfl, rfl⟩; (repeat (first | refine q_then_p ?_ | refine q_blk_p ?_)); exact q_panX ⟨2, hR, rfl, hK⟩) | (apply s_call; (iterate 6 (exact rfl)); first | (exact hm; rintro _ rfl)) | refine al_nil ?_ | refine q_then_n ?_ | refine aw_seq ?_ | refine aw_reg ?_ | refine aw_true rfl ?_)
set_option maxRecDepth 100000 in
set_option maxHeartbeats 8000000 in
theorem value_leaf {w : AWord} {R : Res Val} (hR : R = .ok (.mk w.k w.n w.s []) come (fl || (decide (w.k = 6) || decide (w.k = 7)))) (hw : w.ok = true) (hk : w.k ≠ 5) (hW : σ[locW]? = some (walkO locH locM fl)) (hM : σ[locM]? = some (seenO come)) (hH : σ[locH]? = some (ho H)) :
    RunsX Try.prog 94 [.ptr locW 0 0, .d (.agg (wordD w))] σ (ValP H locW locM locH R σ) (ValE locW locM R σ) := by
  have hm := may119_c w
  rw [hw] at hm
  have hK := KeptP.refl (fun k => k ≠ locW ∧ k ≠ locM) σ
  have oW : OutP (fun k => k ≠ locW ∧ k ≠ locM) σ locW := fun _ h => absurd rfl h.1
  have nWM : locW ≠ locM := fun h => by rw [h, hM] at hW; cases hW
  have nWH : locW ≠ locH := fun h => by rw [h, hH] at hW; cases hW
  obtain ⟨wk, wn, ws, wg⟩ := w
  simp only at hR hk
  clear hw
  unfold walkO at hW
  have fin : ∀ {v : DV} {b : Bool} {σ' : List AObj}, v = .agg [.v (.int .u8 wk), .v (.int .i64 wn), .v (.string ws), .nil] → b = (fl || (decide (wk = 6) || decide (wk = 7))) → σ'[locW]? = some (.row 145 [.ptr locH 0 0, .mp locM, .d (.v (.bool b))]) → σ'[locM]? = some (seenO come) → KeptP (fun k => k ≠ locW ∧ k ≠ locM) σ σ' → ∃ x, (AV.d v) = .d x ∧ Wk x (.agg (valD (.mk wk wn ws []))) ∧ σ'[locW]? = some (walkO locH locM (fl || (decide (wk = 6) || decide (wk = 7)))) ∧ σ'[locM]? = some (seenO come) ∧ KeptP (fun k => k ≠ locW ∧ k ≠ locM) σ σ' := by
    rintro v b σ' rfl rfl h1 h2 h3
    exact ⟨_, rfl, Wk.agg ⟨Wk.refl _, Wk.refl _, Wk.refl _, Wk.nil 4, trivial⟩, h1, h2, h3⟩
  have main : Runs Try.prog 94 [.ptr locW 0 0, .d (.agg (wordD ⟨wk, wn, ws, wg⟩))] σ (fun v σ' => ∃ x, v = .d x ∧ Wk x (.agg (valD (.mk wk wn ws []))) ∧ σ'[locW]? = some (walkO locH locM (fl || (decide (wk = 6) || decide (wk = 7)))) ∧ σ'[locM]? = some (seenO come) ∧ KeptP (fun k => k ≠ locW ∧ k ≠ locM) σ σ') := by
    refine enterB 66 tab_ok Try.func94 rfl (by kernel_rfl) rfl rfl rfl ?_
    cases fl
    · by_cases h6 : wk = 6
      · repeat' (first | refine s_op rfl ?_ | (apply s_skipV; (iterate 2 (exact rfl))) | (apply s_move; (iterate 4 (exact rfl))) | (apply s_fa_p tab_ok; (iterate 5 (exact rfl))) | (apply s_fa_f tab_ok; (iterate 6 (exact rfl))) | (apply s_ld_f tab_ok; (iterate 6 (exact rfl))) | (apply s_pick_t; (iterate 5 (exact rfl))) | (apply s_pick_f; (iterate 5 (exact rfl))) | (apply s_nilc; (iterate 5 (exact rfl))) | (apply s_build tabZ_ok; (iterate 5 (exact rfl))) | (apply s_boxZ; (iterate 5 (exact rfl)); first | exact rfl | exact allD_mapd _) | (apply s_not_t; (iterate 4 (exact rfl))) | (apply s_eql_t; (iterate 5 (exact rfl)); omega) | (apply s_neq_t; (iterate 5 (exact rfl)); omega) | (apply s_allocF tabZ_ok (d := 4); (iterate 6 (exact rfl)); intro locX σ hc; have hX := hc.at'; have nWX := hc.ne hW; replace hW := hc.keep hW; have nMX := hc.ne hM; replace hM := hc.keep hM; have nHX := hc.ne hH; replace hH := hc.keep hH; have oX := hK.out hc; replace hK := hK.fresh hc; clear hc) | (apply s_ldF tab_ok; (iterate 5 (exact rfl)); exact hW; exact rfl) | (apply s_storeF tab_ok; (iterate 7 (exact rfl)); exact hW; (iterate 2 (exact rfl)); intro σ hc; replace hW := hc.at'; replace hM := hc.keep (by first | assumption | (apply Ne.symm; assumption) | omega) hM; replace hH := hc.keep (by first | assumption | (apply Ne.symm; assumption) | omega) hH; replace hX := hc.keep (by first | assumption | (apply Ne.symm; assumption) | omega) hX; replace hK := hK.chg oW hc; clear hc) | (apply s_storeF tab_ok; (iterate 7 (exact rfl)); exact hX; (iterate 2 (exact rfl)); intro σ hc; replace hX := hc.at'; replace hW := hc.keep (by first | assumption | (apply Ne.symm; assumption) | omega) hW; replace hM := hc.keep (by first | assumption | (apply Ne.symm; assumption) | omega) hM; replace hH := hc.keep (by first | assumption | (apply Ne.symm; assumption) | omega) hH; replace hK := hK.chg oX hc; clear hc) | (apply s_call; (iterate 6 (exact rfl)); first | (exact hm; rintro _ rfl)) | refine al_nil ?_ | refine q_then_n ?_ | refine q_then_r ?_ | refine aw_seq ?_ | refine aw_reg ?_ | refine aw_true rfl ?_ | refine aw_false rfl ?_ | refine aw_skip ?_ | refine aw_ret ?_)
        all_goals exact q_retB (resB_1 rfl (resV_c (t := 66) rfl rfl hX rfl)) (fin (b := true) rfl (by rw [decide_eq_true h6]; rfl) hW hM hK)
      · by_cases h7 : wk = 7
        · repeat' (first | refine s_op rfl ?_ | (apply s_move; (iterate 4 (exact rfl))) | (apply s_fa_p tab_ok; (iterate 5 (exact rfl))) | (apply s_fa_f tab_ok; (iterate 6 (exact rfl))) | (apply s_ld_f tab_ok; (iterate 6 (exact rfl))) | (apply s_pick_f; (iterate 5 (exact rfl))) | (apply s_nilc; (iterate 5 (exact rfl))) | (apply s_build tabZ_ok; (iterate 5 (exact rfl))) | (apply s_boxZ; (iterate 5 (exact rfl)); first | exact rfl | exact allD_mapd _) | (apply s_not_t; (iterate 4 (exact rfl))) | (apply s_eql_t; (iterate 5 (exact rfl)); omega) | (apply s_eql_f; (iterate 5 (exact rfl)); omega) | (apply s_neq_t; (iterate 5 (exact rfl)); omega) | (apply s_allocF tabZ_ok (d := 4); (iterate 6 (exact rfl)); intro locX σ hc; have hX := hc.at'; have nWX := hc.ne hW; replace hW := hc.keep hW; have nMX := hc.ne hM; replace hM := hc.keep hM; have nHX := hc.ne hH; replace hH := hc.keep hH; have oX := hK.out hc; replace hK := hK.fresh hc; clear hc) | (apply s_ldF tab_ok; (iterate 5 (exact rfl)); exact hW; exact rfl) | (apply s_storeF tab_ok; (iterate 7 (exact rfl)); exact hW; (iterate 2 (exact rfl)); intro σ hc; replace hW := hc.at'; replace hM := hc.keep (by first | assumption | (apply Ne.symm; assumption) | omega) hM; replace hH := hc.keep (by first | assumption | (apply Ne.symm; assumption) | omega) hH; replace hX := hc.keep (by first | assumption | (apply Ne.symm; assumption) | omega) hX; replace hK := hK.chg oW hc; clear hc) | (apply s_storeF tab_ok; (iterate 7 (exact rfl)); exact hX; (iterate 2 (exact rfl)); intro σ hc; replace hX := hc.at'; replace hW := hc.keep (by first | assumption | (apply Ne.symm; assumption) | omega) hW; replace hM := hc.keep (by first | assumption | (apply Ne.symm; assumption) | omega) hM; replace hH := hc.keep (by first | assumption | (apply Ne.symm; assumption) | omega) hH; replace hK := hK.chg oX hc; clear hc) | (apply s_call; (iterate 6 (exact rfl)); first | (exact hm; rintro _ rfl)) | refine al_nil ?_ | refine q_then_n ?_ | refine q_then_r ?_ | refine aw_seq ?_ | refine aw_reg ?_ | refine aw_true rfl ?_ | refine aw_false rfl ?_ | refine aw_skip ?_ | refine aw_ret ?_)
          all_goals exact q_retB (resB_1 rfl (resV_c (t := 66) rfl rfl hX rfl)) (fin (b := true) rfl (by rw [decide_eq_true h7, Bool.or_true]; rfl) hW hM hK)
        · repeat' (first | refine s_op rfl ?_ | (apply s_move; (iterate 4 (exact rfl))) | (apply s_fa_p tab_ok; (iterate 5 (exact rfl))) | (apply s_fa_f tab_ok; (iterate 6 (exact rfl))) | (apply s_ld_f tab_ok; (iterate 6 (exact rfl))) | (apply s_pick_f; (iterate 5 (exact rfl))) | (apply s_nilc; (iterate 5 (exact rfl))) | (apply s_build tabZ_ok; (iterate 5 (exact rfl))) | (apply s_boxZ; (iterate 5 (exact rfl)); first | exact rfl | exact allD_mapd _) | (apply s_not_t; (iterate 4 (exact rfl))) | (apply s_eql_f; (iterate 5 (exact rfl)); omega) | (apply s_neq_t; (iterate 5 (exact rfl)); omega) | (apply s_allocF tabZ_ok (d := 4); (iterate 6 (exact rfl)); intro locX σ hc; have hX := hc.at'; have nWX := hc.ne hW; replace hW := hc.keep hW; have nMX := hc.ne hM; replace hM := hc.keep hM; have nHX := hc.ne hH; replace hH := hc.keep hH; have oX := hK.out hc; replace hK := hK.fresh hc; clear hc) | (apply s_ldF tab_ok; (iterate 5 (exact rfl)); exact hW; exact rfl) | (apply s_storeF tab_ok; (iterate 7 (exact rfl)); exact hW; (iterate 2 (exact rfl)); intro σ hc; replace hW := hc.at'; replace hM := hc.keep (by first | assumption | (apply Ne.symm; assumption) | omega) hM; replace hH := hc.keep (by first | assumption | (apply Ne.symm; assumption) | omega) hH; replace hX := hc.keep (by first | assumption | (apply Ne.symm; assumption) | omega) hX; replace hK := hK.chg oW hc; clear hc) | (apply s_storeF tab_ok; (iterate 7 (exact rfl)); exact hX; (iterate 2 (exact rfl)); intro σ hc; replace hX := hc.at'; replace hW := hc.keep (by first | assumption | (apply Ne.symm; assumption) | omega) hW; replace hM := hc.keep (by first | assumption | (apply Ne.symm; assumption) | omega) hM; replace hH := hc.keep (by first | assumption | (apply Ne.symm; assumption) | omega) hH; replace hK := hK.chg oX hc; clear hc) | (apply s_call; (iterate 6 (exact rfl)); first | (exact hm; rintro _ rfl)) | refine al_nil ?_ | refine q_then_n ?_ | refine q_then_r ?_ | refine aw_seq ?_ | refine aw_reg ?_ | refine aw_true rfl ?_ | refine aw_false rfl ?_ | refine aw_skip ?_ | refine aw_ret ?_)
          all_goals exact q_retB (resB_1 rfl (resV_c (t := 66) rfl rfl hX rfl)) (fin rfl (by rw [decide_eq_false h6, decide_eq_false h7]; rfl) hW hM hK)
    · repeat' (first | refine s_op rfl ?_ | (apply s_skipV; (iterate 2 (exact rfl))) | (apply s_move; (iterate 4 (exact rfl))) | (apply s_fa_p tab_ok; (iterate 5 (exact rfl))) | (apply s_fa_f tab_ok; (iterate 6 (exact rfl))) | (apply s_ld_f tab_ok; (iterate 6 (exact rfl))) | (apply s_pick_t; (iterate 5 (exact rfl))) | (apply s_nilc; (iterate 5 (exact rfl))) | (apply s_build tabZ_ok; (iterate 5 (exact rfl))) | (apply s_boxZ; (iterate 5 (exact rfl)); first | exact rfl | exact allD_mapd _) | (apply s_not_t; (iterate 4 (exact rfl))) | (apply s_neq_t; (iterate 5 (exact rfl)); omega) | (apply s_allocF tabZ_ok (d := 4); (iterate 6 (exact rfl)); intro locX σ hc; have hX := hc.at'; have nWX := hc.ne hW; replace hW := hc.keep hW; have nMX := hc.ne hM; replace hM := hc.keep hM; have nHX := hc.ne hH; replace hH := hc.keep hH; have oX := hK.out hc; replace hK := hK.fresh hc; clear hc) | (apply s_ldF tab_ok; (iterate 5 (exact rfl)); exact hW; exact rfl) | (apply s_storeF tab_ok; (iterate 7 (exact rfl)); exact hW; (iterate 2 (exact rfl)); intro σ hc; replace hW := hc.at'; replace hM := hc.keep (by first | assumption | (apply Ne.symm; assumption) | omega) hM; replace hH := hc.keep (by first | assumption | (apply Ne.symm; assumption) | omega) hH; replace hX := hc.keep (by first | assumption | (apply Ne.symm; assumption) | omega) hX; replace hK := hK.chg oW hc; clear hc) | (apply s_storeF tab_ok; (iterate 7 (exact rfl)); exact hX; (iterate 2 (exact rfl)); intro σ hc; replace hX := hc.at'; replace hW := hc.keep (by first | assumption | (apply Ne.symm; assumption) | omega) hW; replace hM := hc.keep (by first | assumption | (apply Ne.symm; assumption) | omega) hM; replace hH := hc.keep (by first | assumption | (apply Ne.symm; assumption) | omega) hH; replace hK := hK.chg oX hc; clear hc) | (apply s_call; (iterate 6 (exact rfl)); first | (exact hm; rintro _ rfl)) | refine al_nil ?_ | refine q_then_n ?_ | refine q_then_r ?_ | refine aw_seq ?_ | refine aw_reg ?_ | refine aw_true rfl ?_ | refine aw_false rfl ?_ | refine aw_skip ?_ | refine aw_ret ?_)
      all_goals exact q_retB (resB_1 rfl (resV_c (t := 66) rfl rfl hX rfl)) (fin rfl rfl hW hM hK)
  exact (Runs.weakR main).x.mono (fun v σ' ⟨h1, h2, h3, h4⟩ => ⟨_, _, _, hR, h1, h2, h3, h4⟩) (fun _ _ (h : False) => h.elim)
set_option maxRecDepth 100000 in
set_option maxHeartbeats 8000000 in
theorem value_err {w : AWord} {R : Res Val} {e : Int} (hR : R = .bad e) (hw : w.ok = true) (hk : w.k = 5) (hc : RunsE Try.prog 120 [.ptr locW 0 0, .d (.agg (wordD w))] σ (PanK e σ)) (hc2 : ∀ σ', KeptP (fun _ => True) σ σ' → RunsE Try.prog 120 [.ptr locW 0 0, .d (.agg (wordD w))] σ' (PanK e σ')) :
    RunsX Try.prog 94 [.ptr locW 0 0, .d (.agg (wordD w))] σ (ValP H locW locM locH R σ) (ValE locW locM R σ) := by
  have hm := may119_c w
  rw [hw] at hm
  have hK := KeptP.refl (fun _ => True) σ
  obtain ⟨wk, wn, ws, wg⟩ := w
  simp only at hk
  clear hw hc
  refine enterX 66 tab_ok Try.func94 rfl (by kernel_rfl) rfl rfl rfl ?_
  repeat' (first | refine s_op rfl ?_ | (apply s_move; (iterate 4 (exact rfl))) | (apply s_fa_f tab_ok; (iterate 6 (exact rfl))) | (apply s_ld_f tab_ok; (iterate 6 (exact rfl))) | (apply s_boxZ; (iterate 5 (exact rfl)); first | exact rfl | exact allD_mapd _) | (apply s_not_t; (iterate 4 (exact rfl))) | (apply s_neq_f; (iterate 5 (exact rfl)); omega) | (apply s_allocF tabZ_ok (d := 4); (iterate 6 (exact rfl)); intro locX σ hc; have hX := hc.at'; have oX := hK.out hc; replace hK := hK.fresh hc; clear hc) | (apply s_callE; (iterate 4 (exact rfl)); exact hc2 _ hK; rintro _ σ ⟨rfl, hk2⟩; (repeat (first | refine q_then_p ?_ | refine q_blk_p ?_)); exact q_panX ⟨e, hR, rfl, (hK.trans hk2).any⟩) | (apply s_call; (iterate 6 (exact rfl)); first | (exact hm; rintro _ rfl)) | refine al_nil ?_ | refine q_then_n ?_ | refine aw_seq ?_ | refine aw_reg ?_ | refine aw_false rfl ?_ | refine aw_skip ?_)
set_option maxRecDepth 100000 in
set_option maxHeartbeats 8000000 in
theorem value_cell {f : AWord → List Int → Bool → Res Val} (ok : H.Ok B) {w : AWord} {c : ACell} {R : Res Val} (hR : R = match walksF f c.ws (come ++ [w.n]) fl with | .bad e => .bad e | .ok vs come fl => .ok (.mk (c.k + 10) c.n ⟨#[]⟩ vs) come fl) (hn9 : R ≠ .bad 999) (hw : w.ok = true) (hk : w.k = 5) (hk0 : 0 ≤ c.k) (hk1 : c.k ≤ 245) (hlen : c.ws.length ≤ 64)
    (hc : ∀ σ', σ'[locW]? = some (walkO locH locM fl) → σ'[locM]? = some (seenO come) → σ'[locH]? = some (ho H) → Runs Try.prog 120 [.ptr locW 0 0, .d (.agg (wordD w))] σ' (fun v σ2 => v = .d (.agg (cellD c)) ∧ σ2[locM]? = some (seenO (come ++ [w.n])) ∧ KeptP (· ≠ locM) σ' σ2))
    (hcall : ∀ (w : AWord) (come : List Int) (fl : Bool) (σ : List AObj), w ∈ c.ws → f w come fl ≠ .bad 999 → σ[locW]? = some (walkO locH locM fl) → σ[locM]? = some (seenO come) → σ[locH]? = some (ho H) → RunsX Try.prog 94 [.ptr locW 0 0, .d (.agg (wordD w))] σ (ValP H locW locM locH (f w come fl) σ) (ValE locW locM (f w come fl) σ))
    (hW : σ[locW]? = some (walkO locH locM fl)) (hM : σ[locM]? = some (seenO come)) (hH : σ[locH]? = some (ho H)) :
    RunsX Try.prog 94 [.ptr locW 0 0, .d (.agg (wordD w))] σ (ValP H locW locM locH R σ) (ValE locW locM R σ) := by
  have hm := may119_c w
  rw [hw] at hm
  have hK := KeptP.refl (fun k => k ≠ locW ∧ k ≠ locM) σ
  have nWM : locW ≠ locM := fun h => by rw [h, hM] at hW; cases hW
  have nHW : locH ≠ locW := fun h => by rw [← h, hH] at hW; cases hW
  have nHM : locH ≠ locM := fun h => by rw [← h, hH] at hM; cases hM
  have hadd : IntKind.wrap .u8 (c.k + 10) = c.k + 10 := wrapU8 (by omega) (by omega)
  obtain ⟨wk, wn, wstr, wg⟩ := w
  obtain ⟨ck, cn, ws⟩ := c
  simp only at hk hk0 hk1 hlen hadd hR
  clear hw
  refine enterX 66 tab_ok Try.func94 rfl (by kernel_rfl) rfl rfl rfl ?_
  repeat' (first | refine s_op rfl ?_ | (apply s_move; (iterate 4 (exact rfl))) | (apply s_fa_f tab_ok; (iterate 6 (exact rfl))) | (apply s_ld_f tab_ok; (iterate 6 (exact rfl))) | (apply s_build tabZ_ok; (iterate 5 (exact rfl))) | (apply s_boxZ; (iterate 5 (exact rfl)); first | exact rfl | exact allD_mapd _) | (apply s_not_t; (iterate 4 (exact rfl))) | (apply s_neq_f; (iterate 5 (exact rfl)); omega) | (apply s_allocF tabZ_ok (d := 4); (iterate 6 (exact rfl)); intro locX σ hc; have hX := hc.at'; have nWX := hc.ne hW; replace hW := hc.keep hW; have nMX := hc.ne hM; replace hM := hc.keep hM; have nHX := hc.ne hH; replace hH := hc.keep hH; have oX := hK.out hc; replace hK := hK.fresh hc; clear hc) | (apply s_allocF tabZ_ok (d := 5); (iterate 6 (exact rfl)); intro locY σ hc; have hY := hc.at'; have nWY := hc.ne hW; replace hW := hc.keep hW; have nMY := hc.ne hM; replace hM := hc.keep hM; have nHY := hc.ne hH; replace hH := hc.keep hH; have nXY := hc.ne hX; replace hX := hc.keep hX; have oY := hK.out hc; replace hK := hK.fresh hc; clear hc) | (apply s_allocF tabZ_ok (d := 6); (iterate 6 (exact rfl)); intro locV σ hc; have hV := hc.at'; have nWV := hc.ne hW; replace hW := hc.keep hW; have nMV := hc.ne hM; replace hM := hc.keep hM; have nHV := hc.ne hH; replace hH := hc.keep hH; have nXV := hc.ne hX; replace hX := hc.keep hX; have oV := hK.out hc; replace hK := hK.fresh hc; clear hc) | (apply s_storeF tab_ok; (iterate 7 (exact rfl)); exact hY; (iterate 2 (exact rfl)); intro σ hc; replace hY := hc.at'; replace hW := hc.keep (by first | assumption | (apply Ne.symm; assumption) | omega) hW; replace hM := hc.keep (by first | assumption | (apply Ne.symm; assumption) | omega) hM; replace hH := hc.keep (by first | assumption | (apply Ne.symm; assumption) | omega) hH; replace hX := hc.keep (by first | assumption | (apply Ne.symm; assumption) | omega) hX; replace hK := hK.chg oY hc; clear hc; refine s_freezeP 5 rfl hY rfl ?_; intro σ hc; replace hW := hc.keep (by first | assumption | (apply Ne.symm; assumption) | omega) hW; replace hM := hc.keep (by first | assumption | (apply Ne.symm; assumption) | omega) hM; replace hH := hc.keep (by first | assumption | (apply Ne.symm; assumption) | omega) hH; replace hX := hc.keep (by first | assumption | (apply Ne.symm; assumption) | omega) hX; replace hK := hK.chg oY hc; clear hc hY oY) | (apply s_storeF tab_ok; (iterate 7 (exact rfl)); exact hV; (iterate 2 (exact rfl)); intro σ hc; replace hV := hc.at'; replace hW := hc.keep (by first | assumption | (apply Ne.symm; assumption) | omega) hW; replace hM := hc.keep (by first | assumption | (apply Ne.symm; assumption) | omega) hM; replace hH := hc.keep (by first | assumption | (apply Ne.symm; assumption) | omega) hH; replace hX := hc.keep (by first | assumption | (apply Ne.symm; assumption) | omega) hX; replace hK := hK.chg oV hc; clear hc) | (apply s_addK (ck + 10); (iterate 5 (exact rfl)); exact hadd) | (apply s_callS; (iterate 6 (exact rfl)); exact hc _ hW hM hH; rintro _ σ ⟨rfl, hM2, hk2⟩; replace hW := hk2 _ _ nWM hW; replace hH := hk2 _ _ nHM hH; replace hX := hk2 _ _ nMX.symm hX; replace hK := hK.trans (hk2.of fun k h => h.2); replace hM := hM2; clear hM2 hk2) | (refine w_keep [0, 4, 5, 6] rfl rfl ?_; exact value_kids (ws := ws) hR hn9 hlen hcall nWX.symm nMX.symm nXV nWV.symm nMV.symm nHW nHM nHX nHV nWM oX oV hW hM hH hX hV hK rfl) | (apply s_call; (iterate 6 (exact rfl)); first | (exact hm; rintro _ rfl)) | refine al_nil ?_ | refine q_then_n ?_ | refine aw_seq ?_ | refine aw_reg ?_ | refine aw_false rfl ?_ | refine aw_skip ?_)
theorem value_x (ok : H.Ok B) (hco : CellsOk H) : ∀ (f : Nat) (w : AWord) (come : List Int) (fl : Bool) (σ : List AObj), walkF H f w come fl ≠ .bad 999 → σ[locW]? = some (walkO locH locM fl) → σ[locM]? = some (seenO come) → σ[locH]? = some (ho H) →
    RunsX Try.prog 94 [.ptr locW 0 0, .d (.agg (wordD w))] σ (ValP H locW locM locH (walkF H f w come fl) σ) (ValE locW locM (walkF H f w come fl) σ)
  | 0, w, come, fl, σ, h, _, _, _ => absurd rfl h
  | f + 1, w, come, fl, σ, hn9, hW, hM, hH => by
    have hd : walkF H (f + 1) w come fl = if w.ok = false then .bad 2
      else if w.k ≠ 5 then .ok (.mk w.k w.n w.s []) come (fl || (decide (w.k = 6) || decide (w.k = 7)))
      else if (H.find w).1 ≠ 0 then .bad (H.find w).1
      else if w.n ∈ come then .bad 6
      else match walksF (walkF H f) (H.get w).1.ws (come ++ [w.n]) fl with
        | .bad e => .bad e
        | .ok vs come fl => .ok (.mk ((H.get w).1.k + 10) (H.get w).1.n ⟨#[]⟩ vs) come fl := rfl
    generalize walkF H (f + 1) w come fl = R at hn9 hd ⊢
    by_cases h1 : w.ok = false
    · rw [if_pos h1] at hd
      exact value_arg hd h1 hW hM hH
    have h1' : w.ok = true := by simpa using h1
    rw [if_neg h1] at hd
    by_cases h2 : w.k ≠ 5
    · rw [if_pos h2] at hd
      exact value_leaf hd h1' h2 hW hM hH
    have h2' : w.k = 5 := by simpa using h2
    rw [if_neg h2] at hd
    by_cases h3 : (H.find w).1 ≠ 0
    · rw [if_pos h3] at hd
      have he : (H.get w).2 ≠ 0 := by rw [get_err]; exact h3
      rw [← get_err] at hd
      refine value_err hd h1' h2' (cell_bad ok hW hM hH w he) fun σ' hk => cell_bad ok (hk _ _ trivial hW) (hk _ _ trivial hM) (hk _ _ trivial hH) w he
    have he : (H.get w).2 = 0 := by rw [get_err]; simpa using h3
    rw [if_neg h3] at hd
    by_cases h4 : w.n ∈ come
    · rw [if_pos h4] at hd
      exact value_err hd h1' h2' (cell_again ok hW hM hH w he h4) fun σ' hk => cell_again ok (hk _ _ trivial hW) (hk _ _ trivial hM) (hk _ _ trivial hH) w he h4
    rw [if_neg h4] at hd
    obtain ⟨c1, c2, c3⟩ := hco w he
    exact value_cell ok hd hn9 h1' h2' c1 c2 c3 (fun σ' a b c => cell_ok ok a b c w he h4) (fun w come fl σ _ hne a b c => value_x ok hco f w come fl σ hne a b c) hW hM hH
end
end Go.Proofs.Ytciciaikajdenaa
