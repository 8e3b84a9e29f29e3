/- N17: package cell's Copy; a world without files; drop, Drop. -/
import Derived.Test.YtciciaikajdenaaQN16
set_option linter.unusedSimpArgs false
set_option linter.unusedVariables false
-- ALLUNDEF -- BOXZ
-- LEN: valD_len wordD_len
-- ROW: valR_get wordsR_get
namespace Go.Proofs.Ytciciaikajdenaa
open Go.RowKit

section
variable {σ : List AObj} {locH : Nat} {H : AHeap} {B : Int} {f : Nat} {w : AWord}
set_option maxRecDepth 100000 in
set_option maxHeartbeats 8000000 in
theorem does93 (ok : H.Ok B) (hB : 0 ≤ B) (hco : CellsOk H) (hH : σ[locH]? = some (ho H)) (hn9 : walkF H f w [] false ≠ .bad 999) (hkm : ∀ v come fl, walkF H f w [] false = .ok v come fl → v.kok ∧ massV v ≤ 1000000000) :
    DoesVW 93 (.d (.fptr (wordD w))) locH (fun w' H' => copyM H f w = ((w', 0), H')) (fun e => copyM H f w = ((.zero, e), H)) σ := by
  intro σ1 locW locM hk oW oM hW hM
  have hH1 := hk _ _ trivial hH
  have hv := fun σ a b c => value_x (locW := locW) (locM := locM) (locH := locH) ok hco f w [] false σ hn9 a b c
  unfold ValP ValE at hv
  have hmk := fun (v : Val) (fl : Bool) (h1 : v.kok) (h2 : massV v ≤ 1000000000) σ a b => make_x (σ := σ) (locW := locW) (locM := locM) (locH := locH) (fl := fl) ok hB h1 h2 a b
  unfold MadeP MadeE at hmk
  have nHW : locH ≠ locW := fun h => by rw [← h, hH1] at hW; cases hW
  have nHM : locH ≠ locM := fun h => by rw [← h, hH1] at hM; cases hM
  have nWM : locW ≠ locM := fun h => by rw [h, hM] at hW; cases hW
  have hK := KeptP.refl (fun k => k ≠ locW ∧ k ≠ locM) σ1
  have hcp : copyM H f w = match walkF H f w [] false with
    | .bad e => ((.zero, e), H)
    | .ok v _ fl => if fl then ((.zero, 240), H) else buildM H v := rfl
  generalize copyM H f w = C at hcp ⊢
  clear hk oW oM hH hn9
  cases hR : walkF H f w [] false with
  | bad e =>
    rw [hR] at hcp hv
    obtain ⟨wk, wn, ws, wg⟩ := w
    refine enterX 16 tab_ok Try.func93 rfl (by kernel_rfl) rfl rfl rfl ?_
    repeat' (first
      | refine s_op rfl ?_ | (apply s_move; (iterate 4 (exact rfl))) | (apply s_fa_p tab_ok; (iterate 5 (exact rfl))) | (apply s_fa_f tab_ok; (iterate 6 (exact rfl))) | (apply s_ld_p tab_ok; (iterate 7 (exact rfl)))
      | (apply s_ld_f tab_ok; (iterate 6 (exact rfl))) | (apply s_ld_w tab_ok; (iterate 5 (exact rfl)); (first | exact valD_len _ | exact wordD_len _)) | (apply s_nilc; (iterate 5 (exact rfl)))
      | (apply s_allocF tabZ_ok (d := 3); (iterate 6 (exact rfl)); intro locX σ hc; have hX := hc.at'; have nWX := hc.ne hW; replace hW := hc.keep hW; have nMX := hc.ne hM; replace hM := hc.keep hM; have nH1X := hc.ne hH1; replace hH1 := hc.keep hH1; have oX := hK.out hc; replace hK := hK.fresh hc; clear hc)
      | (apply s_callX; (iterate 6 (exact rfl)); exact hv _ hW hM hH1; rotate_left; rintro _ σ2 ⟨e, he, rfl, hk2⟩; injection he with he; subst he; (repeat (first | refine q_then_p ?_ | refine q_blk_p ?_)); exact q_panX ⟨_, rfl, hcp, hK.trans hk2⟩; rintro _ σ2 ⟨v, come, fl, hok, _⟩; cases hok)
      | refine al_nil ?_ | refine q_then_n ?_ | refine q_then_r ?_ | refine aw_seq ?_ | refine aw_reg ?_
      | refine aw_true rfl ?_ | refine aw_false rfl ?_ | refine aw_skip ?_ | refine aw_ret ?_)
  | ok v come fl =>
    obtain ⟨hkok, hmass⟩ := hkm v come fl hR
    rw [hR] at hcp hv
    simp only at hcp
    cases fl with
    | true =>
      rw [if_pos rfl] at hcp
      obtain ⟨wk, wn, ws, wg⟩ := w
      clear hmk
      refine enterX 16 tab_ok Try.func93 rfl (by kernel_rfl) rfl rfl rfl ?_
      obtain ⟨vk, vn, vs, vl⟩ := v
      repeat' (first
      | refine s_op rfl ?_ | (apply s_move; (iterate 4 (exact rfl))) | (apply s_fa_p tab_ok; (iterate 5 (exact rfl))) | (apply s_fa_f tab_ok; (iterate 6 (exact rfl))) | (apply s_ld_p tab_ok; (iterate 7 (exact rfl)))
      | (apply s_ld_f tab_ok; (iterate 6 (exact rfl))) | (apply s_ld_w tab_ok; (iterate 5 (exact rfl)); (first | exact valD_len _ | exact wordD_len _)) | (apply s_nilc; (iterate 5 (exact rfl)))
      | (apply s_allocF tabZ_ok (d := 3); (iterate 6 (exact rfl)); intro locX σ hc; have hX := hc.at'; have nWX := hc.ne hW; replace hW := hc.keep hW; have nMX := hc.ne hM; replace hM := hc.keep hM; have nH1X := hc.ne hH1; replace hH1 := hc.keep hH1; have oX := hK.out hc; replace hK := hK.fresh hc; clear hc)
      | (apply s_callX; (iterate 6 (exact rfl)); exact hv _ hW hM hH1; rotate_left; rintro _ σ2 ⟨e, he, _⟩; cases he; rintro _ σ2 ⟨v, come, fl, hok, rfl, hW2, hM2, hk2⟩; injection hok with e1 e2 e3; subst e1 e2 e3; unfold walkO at hW2; replace hK := hK.trans hk2; clear hk2 hW hM hH1 hX)
      | (apply s_allocF tabZ_ok (d := 4); (iterate 6 (exact rfl)); intro locV σ hc; have hV := hc.at'; have nW2V := hc.ne hW2; replace hW2 := hc.keep hW2; have oV := hK.out hc; replace hK := hK.fresh hc; clear hc)
      | (apply s_storeF tab_ok; (iterate 7 (exact rfl)); exact hV; (iterate 2 (exact rfl)); intro σ hc; replace hV := hc.at'; replace hW2 := hc.keep (by first | assumption | (apply Ne.symm; assumption) | omega) hW2; replace hK := hK.chg oV hc; clear hc)
      | (apply s_ldF tab_ok; (iterate 5 (exact rfl)); exact hW2; exact rfl)
      | (apply s_callE; (iterate 4 (exact rfl)); exact must_bad 240 (by decide); rintro _ σ ⟨rfl, rfl⟩; (repeat (first | refine q_then_p ?_ | refine q_blk_p ?_)); exact q_panX ⟨_, rfl, hcp, hK⟩)
      | refine al_nil ?_ | refine q_then_n ?_ | refine q_then_r ?_ | refine aw_seq ?_ | refine aw_reg ?_
      | refine aw_true rfl ?_ | refine aw_false rfl ?_ | refine aw_skip ?_ | refine aw_ret ?_)
    | false =>
      rw [if_neg (by simp)] at hcp
      have hm2 := hmk v false hkok hmass
      unfold buildM at hcp
      clear hmk
      generalize makeE H v = E at hm2 hcp
      generalize buildF H v = g at hm2 hcp
      obtain ⟨wk, wn, ws, wg⟩ := w
      refine enterX 16 tab_ok Try.func93 rfl (by kernel_rfl) rfl rfl rfl ?_
      obtain ⟨vk, vn, vs, vl⟩ := v
      repeat' (first
      | refine s_op rfl ?_ | (apply s_move; (iterate 4 (exact rfl))) | (apply s_fa_p tab_ok; (iterate 5 (exact rfl))) | (apply s_fa_f tab_ok; (iterate 6 (exact rfl))) | (apply s_ld_p tab_ok; (iterate 7 (exact rfl)))
      | (apply s_ld_f tab_ok; (iterate 6 (exact rfl))) | (apply s_ld_w tab_ok; (iterate 5 (exact rfl)); (first | exact valD_len _ | exact wordD_len _)) | (apply s_nilc; (iterate 5 (exact rfl)))
      | (apply s_allocF tabZ_ok (d := 3); (iterate 6 (exact rfl)); intro locX σ hc; have hX := hc.at'; have nWX := hc.ne hW; replace hW := hc.keep hW; have nMX := hc.ne hM; replace hM := hc.keep hM; have nH1X := hc.ne hH1; replace hH1 := hc.keep hH1; have oX := hK.out hc; replace hK := hK.fresh hc; clear hc)
      | (apply s_callX; (iterate 6 (exact rfl)); exact hv _ hW hM hH1; rotate_left; rintro _ σ2 ⟨e, he, _⟩; cases he; rintro _ σ2 ⟨v, come, fl, hok, rfl, hW2, hM2, hk2⟩; injection hok with e1 e2 e3; subst e1 e2 e3; replace hH1 := hk2 _ _ ⟨nHW, nHM⟩ hH1; replace hX := hk2 _ _ ⟨nWX.symm, nMX.symm⟩ hX; replace hK := hK.trans hk2; clear hk2 hW hM)
      | (apply s_allocF tabZ_ok (d := 4); (iterate 6 (exact rfl)); intro locV σ hc; have hV := hc.at'; have nW2V := hc.ne hW2; replace hW2 := hc.keep hW2; have nH1V := hc.ne hH1; replace hH1 := hc.keep hH1; have nXV := hc.ne hX; replace hX := hc.keep hX; have oV := hK.out hc; replace hK := hK.fresh hc; clear hc)
      | (apply s_storeF tab_ok; (iterate 7 (exact rfl)); exact hV; (iterate 2 (exact rfl)); intro σ hc; replace hV := hc.at'; replace hW2 := hc.keep (by first | assumption | (apply Ne.symm; assumption) | omega) hW2; replace hH1 := hc.keep (by first | assumption | (apply Ne.symm; assumption) | omega) hH1; replace hX := hc.keep (by first | assumption | (apply Ne.symm; assumption) | omega) hX; replace hK := hK.chg oV hc; clear hc)
      | (apply s_ldF tab_ok; (iterate 5 (exact rfl)); exact hW2; exact rfl)
      | (apply s_ldF tab_ok; (iterate 5 (exact rfl)); exact hV; exact rfl)
      | (apply s_callX; (iterate 6 (exact rfl)); exact hm2 _ hW2 hH1; rotate_left; rintro _ σ2 ⟨he, rfl, hk2⟩; (repeat (first | refine q_then_p ?_ | refine q_blk_p ?_)); exact q_panX ⟨_, rfl, by rw [if_neg he] at hcp; exact hcp, hK.trans hk2.any⟩; rintro _ σ2 ⟨he, rfl, hH2, hk2⟩; replace hX := hk2 _ _ nH1X.symm hX; have hK2 : KeptP (fun k => k ≠ locH ∧ k ≠ locW ∧ k ≠ locM) σ1 σ2 := (fun k o hp ho => hk2 k o hp.1 (hK k o hp.2 ho)); clear hk2 hH1)
      | (apply s_storeF tab_ok; (iterate 7 (exact rfl)); exact hX; (iterate 2 (exact rfl)); intro σ hc; have hK3 := hK2.chg (fun o h e => oX o h.2 e) hc; replace hX := hc.at'; replace hH2 := hc.keep nH1X hH2; clear hc)
      | refine al_nil ?_ | refine q_then_n ?_ | refine q_then_r ?_ | refine aw_seq ?_ | refine aw_reg ?_
      | refine aw_true rfl ?_ | refine aw_false rfl ?_ | refine aw_skip ?_ | refine aw_ret ?_)
      all_goals exact q_retX (resB_1 rfl (resV_c (t := 36) rfl rfl hX rfl)) ⟨g.1, g.2, rfl, by rw [if_pos he] at hcp; exact hcp, hH2, hK3⟩
set_option maxRecDepth 100000 in
set_option maxHeartbeats 8000000 in
theorem copy_c46 (ok : H.Ok B) (hB : 0 ≤ B) (hco : CellsOk H) (hH : σ[locH]? = some (ho H)) (hn9 : walkF H f w [] false ≠ .bad 999) (hkm : ∀ v come fl, walkF H f w [] false = .ok v come fl → v.kok ∧ massV v ≤ 1000000000) :
    Runs Try.prog 46 [.ptr locH 0 0, .d (.agg (wordD w))] σ (fun r σ' => r = .d (.tup [.agg (wordD (copyM H f w).1.1), .v (.int .i64 (copyM H f w).1.2)]) ∧ σ'[locH]? = some (ho (copyM H f w).2) ∧ KeptP (· ≠ locH) σ σ') := by
  have hd := does93 ok hB hco hH hn9 hkm
  have hK := KeptP.refl (fun _ => True) σ
  have hg := fun σ1 (hk : KeptP (fun _ => True) σ σ1) (hH : σ1[locH]? = some (ho H)) => clo_wk (guarded_vW (hd.ext hk) hH)
  unfold GrdVW at hg
  generalize copyM H f w = C at hg ⊢
  obtain ⟨wk, wn, ws, wg⟩ := w
  have main : Runs Try.prog 46 [.ptr locH 0 0, .d (.agg (wordD ⟨wk, wn, ws, wg⟩))] σ (fun r σ' => (∃ w H', r = .d (.tup [.agg (wordD w), .v (.int .i64 0)]) ∧ C = ((w, 0), H') ∧ σ'[locH]? = some (ho H') ∧ KeptP (· ≠ locH) σ σ') ∨ ∃ e, r = .d (.tup [.agg (wordD .zero), .v (.int .i64 e)]) ∧ C = ((.zero, e), H) ∧ KeptP (fun _ => True) σ σ') := by
    refine enterB 11 tab_ok Try.func46 rfl (by kernel_rfl) rfl rfl rfl ?_
    repeat' (first
      | refine s_op rfl ?_ | (apply s_move; (iterate 4 (exact rfl))) | (apply s_assign; (iterate 4 (exact rfl))) | (apply s_ext; (iterate 5 (exact rfl))) | (apply s_mkf; (iterate 4 (exact rfl)))
      | (apply s_boxZ; (iterate 5 (exact rfl)); first | exact rfl | exact allD_mapd _)
      | (apply s_allocF tabZ_ok (d := 4); (iterate 6 (exact rfl)); intro locX σ hc; have hX := hc.at'; have nHX := hc.ne hH; replace hH := hc.keep hH; have oX := hK.out hc; replace hK := hK.fresh hc; clear hc)
      | (apply s_callS; (iterate 6 (exact rfl)); exact hg _ hK hH; rintro _ σ2 (⟨w, H2, rfl, hPr, hH2, hk2⟩ | ⟨e, rfl, hPe, hk2⟩); rotate_left; (have hXn := hX; clear hX; have hX := hk2 _ _ trivial hXn; have hK2 := hK.trans hk2; clear hXn hk2); rotate_left; (have hXn := hX; clear hX; have hX := hk2 _ _ nHX.symm hXn; have hK2 : KeptP (· ≠ locH) _ _ := hK.any.trans hk2; clear hXn hk2))
      | (apply s_storeF tab_ok; (iterate 7 (exact rfl)); exact hX; (iterate 2 (exact rfl)); intro σ hc; (try (replace hH2 := hc.keep nHX hH2)); replace hK2 := hK2.chg oX.any hc; replace hX := hc.at'; clear hc)
      | refine al_nil ?_ | refine q_then_n ?_ | refine q_then_r ?_ | refine aw_seq ?_ | refine aw_reg ?_
      | refine aw_ret ?_)
    · exact q_retB (resB_2 rfl (resV_c (t := 36) rfl rfl hX rfl) (resV_t rfl) rfl) (.inl ⟨w, H2, rfl, hPr, hH2, hK2⟩)
    · exact q_retB (resB_2 rfl (resV_c (t := 36) rfl rfl hX rfl) (resV_t rfl) rfl) (.inr ⟨e, rfl, hPe, hK2⟩)
  refine main.mono fun r σ' h => ?_
  rcases h with ⟨w, H', rfl, rfl, hH, hk⟩ | ⟨e, rfl, rfl, hk⟩
  · exact ⟨rfl, hH, hk⟩
  · exact ⟨rfl, hk _ _ trivial hH, hk.any⟩
end
end Go.Proofs.Ytciciaikajdenaa
