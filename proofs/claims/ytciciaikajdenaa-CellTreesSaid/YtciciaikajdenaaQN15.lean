/- N15: package cell's Value, Reach, Size, Build, Copy. -/
import Derived.Test.YtciciaikajdenaaQN13
import Derived.Test.YtciciaikajdenaaQN14
import Derived.Test.YtciciaikajdenaaQN7
import Derived.Test.YtciciaikajdenaaQAq
set_option linter.unusedSimpArgs false
set_option linter.unusedVariables false
-- ALLUNDEF -- BOXZ
-- LEN: valD_len wordD_len
-- ROW: valR_get wordsR_get
namespace Go.Proofs.Ytciciaikajdenaa
open Go.RowKit

/-- What Value answers. -/
def valueM (H : AHeap) (f : Nat) (w : AWord) : Val × Int := match walkF H f w [] false with
  | .ok v _ _ => (v, 0)
  | .bad e => (.mk 0 0 ⟨#[]⟩ [], e)
/-- What Reach answers. -/
def reachM (H : AHeap) (f : Nat) (ws : List AWord) : Int × Int := match walksF (walkF H f) ws [] false with
  | .ok _ come _ => (come.length, 0)
  | .bad e => (0, e)
/-- What Build answers, and leaves. -/
def buildM (H : AHeap) (v : Val) : (AWord × Int) × AHeap := if makeE H v = 0 then (((buildF H v).1, 0), (buildF H v).2) else ((.zero, makeE H v), H)
/-- What Copy answers, and leaves. -/
def copyM (H : AHeap) (f : Nat) (w : AWord) : (AWord × Int) × AHeap := match walkF H f w [] false with
  | .bad e => ((.zero, e), H)
  | .ok v _ fl => if fl then ((.zero, 240), H) else buildM H v
theorem clo_wk {P : Program} {f : FuncId} {a : AV} {gd : Nat} {c : DV} {σ : List AObj} {post : AV → List AObj → Prop} (h : Runs P f [a, .clo (.func gd) [] [.d c]] σ post) : Runs P f [a, .d (.clo (.func gd) [] [c])] σ post :=
  h.wk fun x us ⟨u1, us1, e1, r1, u2, us2, e2, ⟨p, q, e3, r2, r3⟩, h2⟩ => ⟨u1, us1, e1, r1, u2, us2, e2, ⟨p, q, e3, .ofD r2, .ofD r3⟩, h2⟩
theorem KeptP.one {σ σ2 : List AObj} {L : Nat} {o : AObj} (h : KeptP (· ≠ L) σ σ2) (h1 : σ[L]? = some o) (h2 : σ2[L]? = some o) : KeptP (fun _ => True) σ σ2 := fun k o' _ e => by
  by_cases q : k = L
  · subst q; rw [h1] at e; injection e with e; subst e; exact h2
  · exact h k o' q e
section
variable {σ : List AObj} {locH : Nat} {H : AHeap} {B : Int} {f : Nat} {w : AWord}
set_option maxRecDepth 100000 in
set_option maxHeartbeats 8000000 in
theorem does99 (ok : H.Ok B) (hco : CellsOk H) (hH : σ[locH]? = some (ho H)) (hn9 : walkF H f w [] false ≠ .bad 999) :
    DoesV 99 (.d (.fptr (wordD w))) locH (fun v H' => H' = H ∧ ∃ come fl, walkF H f w [] false = .ok v come fl) (fun e => walkF H f w [] false = .bad e) σ := by
  intro σ1 locW locM hk oW oM hW hM
  have hH1 := hk _ _ trivial hH
  have hv := fun σ a b c => value_x (locW := locW) (locM := locM) (locH := locH) ok hco f w [] false σ hn9 a b c
  unfold ValP ValE at hv
  have nHW : locH ≠ locW := fun h => by rw [← h, hH1] at hW; cases hW
  have nHM : locH ≠ locM := fun h => by rw [← h, hH1] at hM; cases hM
  generalize hR : walkF H f w [] false = R at hv hn9 ⊢
  have hK := KeptP.refl (fun k => k ≠ locW ∧ k ≠ locM) σ1
  clear hk oW oM hH
  obtain ⟨wk, wn, ws, wg⟩ := w
  refine enterX 7 tab_ok Try.func99 rfl (by kernel_rfl) rfl rfl rfl ?_
  repeat' (first
      | refine s_op rfl ?_ | (apply s_move; (iterate 4 (exact rfl))) | (apply s_ld_p tab_ok; (iterate 7 (exact rfl))) | (apply s_ld_f tab_ok; (iterate 6 (exact rfl))) | (apply s_ld_w tab_ok; (iterate 5 (exact rfl)); (first | exact valD_len _ | exact wordD_len _))
      | (apply s_allocF tabZ_ok (d := 3); (iterate 6 (exact rfl)); intro locX σ hc; have hX := hc.at'; have nWX := hc.ne hW; replace hW := hc.keep hW; have nMX := hc.ne hM; replace hM := hc.keep hM; have nH1X := hc.ne hH1; replace hH1 := hc.keep hH1; have oX := hK.out hc; replace hK := hK.fresh hc; clear hc)
      | (apply s_callX; (iterate 6 (exact rfl)); exact hv _ hW hM hH1; rotate_left; rintro _ σ2 ⟨e, he, rfl, hk2⟩; (repeat (first | refine q_then_p ?_ | refine q_blk_p ?_)); exact q_panX ⟨e, rfl, he, hK.trans hk2⟩; rintro _ σ2 ⟨⟨vk, vn, vs, vl⟩, come, fl, hok, rfl, hW2, hM2, hk2⟩; replace hX := hk2 _ _ ⟨nWX.symm, nMX.symm⟩ hX; replace hH1 := hk2 _ _ ⟨nHW, nHM⟩ hH1; replace hK := hK.trans hk2; clear hk2)
      | (apply s_storeF tab_ok; (iterate 7 (exact rfl)); exact hX; (iterate 2 (exact rfl)); intro σ hc; replace hK := hK.chg oX hc; replace hX := hc.at'; replace hH1 := hc.keep nH1X hH1; clear hc)
      | refine al_nil ?_ | refine q_then_n ?_ | refine q_then_r ?_ | refine aw_seq ?_ | refine aw_reg ?_
      | refine aw_ret ?_)
  all_goals exact q_retX (resB_1 rfl (resV_c (t := 66) rfl rfl hX rfl)) ⟨⟨vk, vn, vs, vl⟩, H, rfl, ⟨rfl, come, fl, hok⟩, hH1, hK.of fun k h => h.2⟩
set_option maxRecDepth 100000 in
set_option maxHeartbeats 8000000 in
theorem value_c (ok : H.Ok B) (hco : CellsOk H) (hH : σ[locH]? = some (ho H)) (hn9 : walkF H f w [] false ≠ .bad 999) :
    Runs Try.prog 49 [.ptr locH 0 0, .d (.agg (wordD w))] σ (fun r σ' => r = .d (.tup [.agg (valD (valueM H f w).1), .v (.int .i64 (valueM H f w).2)]) ∧ KeptP (fun _ => True) σ σ') := by
  have hd := does99 (f := f) (w := w) ok hco hH hn9
  have hK := KeptP.refl (fun _ => True) σ
  have hg := fun σ1 (hk : KeptP (fun _ => True) σ σ1) (hH : σ1[locH]? = some (ho H)) => clo_wk (guarded_v (hd.ext hk) hH)
  unfold GrdV at hg
  refine Runs.weakR ?_
  have main : Runs Try.prog 49 [.ptr locH 0 0, .d (.agg (wordD w))] σ (fun r σ' => (∃ v, r = .d (.tup [.agg (valD v), .v (.int .i64 0)]) ∧ (∃ come fl, walkF H f w [] false = .ok v come fl) ∧ KeptP (fun _ => True) σ σ') ∨ ∃ e, r = .d (.tup [.agg [.v (.int .u8 0), .v (.int .i64 0), .v (.string ⟨#[]⟩), .nil], .v (.int .i64 e)]) ∧ walkF H f w [] false = .bad e ∧ KeptP (fun _ => True) σ σ') := by
    generalize walkF H f w [] false = R at hg
    obtain ⟨wk, wn, ws, wg⟩ := w
    refine enterB 11 tab_ok Try.func49 rfl (by kernel_rfl) rfl rfl rfl ?_
    repeat' (first
      | refine s_op rfl ?_ | (apply s_move; (iterate 4 (exact rfl))) | (apply s_assign; (iterate 4 (exact rfl))) | (apply s_ext; (iterate 5 (exact rfl))) | (apply s_mkf; (iterate 4 (exact rfl)))
      | (apply s_boxZ; (iterate 5 (exact rfl)); first | exact rfl | exact allD_mapd _)
      | (apply s_allocF tabZ_ok (d := 4); (iterate 6 (exact rfl)); intro locX σ hc; have hX := hc.at'; have nHX := hc.ne hH; replace hH := hc.keep hH; have oX := hK.out hc; replace hK := hK.fresh hc; clear hc)
      | (apply s_callS; (iterate 6 (exact rfl)); exact hg _ hK hH; rintro _ σ2 (⟨⟨vk, vn, vs, vl⟩, H2, rfl, ⟨rfl, hok⟩, hH2, hk2⟩ | ⟨e, rfl, hok, hk2⟩); have hk3 := hk2.one hH hH2; rotate_left; have hk3 := hk2; rotate_left; all_goals (have hXn := hX; clear hX; have hX := hk3 _ _ trivial hXn; clear hXn; replace hK := hK.trans hk3; clear hk3 hk2))
      | (apply s_storeF tab_ok; (iterate 7 (exact rfl)); exact hX; (iterate 2 (exact rfl)); intro σ hc; replace hX := hc.at'; replace hK := hK.chg oX hc; clear hc)
      | refine al_nil ?_ | refine q_then_n ?_ | refine q_then_r ?_ | refine aw_seq ?_ | refine aw_reg ?_
      | refine aw_ret ?_)
    · exact q_retB (resB_2 rfl (resV_c (t := 66) rfl rfl hX rfl) (resV_t rfl) rfl) (.inl ⟨⟨vk, vn, vs, vl⟩, rfl, hok, hK⟩)
    · exact q_retB (resB_2 rfl (resV_c (t := 66) rfl rfl hX rfl) (resV_t rfl) rfl) (.inr ⟨e, rfl, hok, hK⟩)
  refine main.mono fun r σ' h => ?_
  unfold valueM
  rcases h with ⟨v, rfl, ⟨come, fl, hok⟩, hk⟩ | ⟨e, rfl, hok, hk⟩
  · rw [hok]
    exact ⟨_, rfl, Wk.refl _, hk⟩
  · rw [hok]
    exact ⟨_, rfl, Wk.tup ⟨Wk.agg ⟨Wk.refl _, Wk.refl _, Wk.refl _, Wk.nil 4, trivial⟩, Wk.refl _, trivial⟩, hk⟩
end
end Go.Proofs.Ytciciaikajdenaa
