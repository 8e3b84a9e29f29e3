/- As: a slice compared with nil, of which it is not said whether it is; the length of a map. -/
import Derived.Test.YtciciaikajdenaaTPR12Arx2
import Derived.Test.YtciciaikajdenaaTPR12Af
import Derived.Test.YtciciaikajdenaaTPR12N12x2
import Derived.Test.YtciciaikajdenaaTPR12N14
import Derived.Test.YtciciaikajdenaaTPR12N7
set_option linter.unusedSimpArgs false
set_option linter.unusedVariables false
namespace Go.Proofs.Ytciciaikajdenaa
open Go.RowKit

section
variable {P : Program} {T : Tab} {nt : Nat} {Q : Exit → Fr → List AObj → Prop} {fr : Fr} {σ : List AObj} {ops : Array Oper} {dr : Bool} {dos ends : List Nat} {l : Trr} {o : Oper} {i d : Nat}
variable {ty : TypeId} {pos : String} {aft : Array Edge} {gd : Option (Nat × Bool)}
theorem run_slice_nil (w : World) {t e : TypeId} {a : Option Addr} (hu : P.underlying t = some (.slice e)) : (binOp .eql t (.slice a 0 0) (.slice none 0 0)).run P w = .ok (.bool a.isNone) w := by
  have h : ∀ d : Nat, (Op.equalIn (d + 1) t (.slice a 0 0) (.slice none 0 0)).run P w = .ok a.isNone w := fun d => by cases a <;> simp [Op.equalIn, run_underlying hu]
  simp only [binOp]
  simp [Op.equal, Op.maxDepth, h 9999]
theorem s_nilSl {t t' e : TypeId} {a : Operand} (hu : P.underlying t = some (.slice e)) (hp : (dr && !dos.contains i) = false) (hg : guardB ops fr gd = some true) (hk : (dr && !ends.contains i && !true) = false) (ht : Nat.blt d nt = true) (ha : aget fr a = .d .nil)
    (h : ∀ b : Bool, AL P nt ops dr dos ends l Q ((d, .d (.v (.bool b))) :: fr) σ) : ALo P nt ops dr dos ends i ⟨some d, .binOp .eql t a (.const (.slice none 0 0)) t', ty, pos, aft, gd⟩ l Q fr σ := by
  refine ⟨fun ho => s_do (keep := true) ho hp hg hk ?_⟩
  refine do_value (o := ⟨some d, .binOp .eql t a (.const (.slice none 0 0)) t', ty, pos, aft, gd⟩) ht (fun v σ' => ∃ b : Bool, v = .d (.v (.bool b)) ∧ σ' = σ) (fun v σ' ⟨b, e1, e2⟩ => e1 ▸ e2 ▸ h b) fun k x A w s => ?_
  have h1 := s.arg a
  rw [ha] at h1
  obtain ⟨ad, e1⟩ := h1
  have e2 : A.eval (.const (.slice none 0 0)) = .slice none 0 0 := rfl
  refine ⟨.bool ad.isNone, w, x, .d (.v (.bool ad.isNone)), σ, ?_, .refl x, ⟨rfl, rfl⟩, s.heap, s.calm, fun _ => Agree.refl w, ad.isNone, rfl, rfl⟩
  unfold execOp
  simp [e1, e2, eqGuard, run_slice_nil w hu]
theorem s_lenM {mt kt et loc : Nat} {a : Operand} {ps : List (Value × AV)} (hm : P.underlying mt = some (.map kt et)) (hp : (dr && !dos.contains i) = false) (hg : guardB ops fr gd = some true) (hk : (dr && !ends.contains i && !true) = false) (ht : Nat.blt d nt = true) (ha : aget fr a = .mp loc) (hl : σ[loc]? = some (.map ps)) (h : AL P nt ops dr dos ends l Q ((d, .d (.v (.int .i64 ps.length))) :: fr) σ) : ALo P nt ops dr dos ends i ⟨some d, .call { callee := .builtin .len, args := #[a], argTypes := #[mt] }, ty, pos, aft, gd⟩ l Q fr σ := by
  refine ⟨fun ho => s_do (keep := true) ho hp hg hk ?_⟩
  refine do_value (o := ⟨some d, .call { callee := .builtin .len, args := #[a], argTypes := #[mt] }, ty, pos, aft, gd⟩) ht (fun v σ' => v = .d (.v (.int .i64 ps.length)) ∧ σ' = σ) (fun v σ' ⟨e1, e2⟩ => e1 ▸ e2 ▸ h) fun k x A w s => ?_
  have hra := s.arg a
  rw [ha] at hra
  obtain ⟨hlt, r, e, hc⟩ := hra
  obtain ⟨g, g1, g2, g3, g4⟩ := s.heap.own
  obtain ⟨hver, es, m1, m2, m3⟩ := g1 loc _ hl
  have hr := hc hver.symm
  subst hr
  have hlen : es.size = ps.length := by rw [← m2.len]; simp
  have hget : w.heap[(x.env loc).blk]? = some (.map es es.size) := g2 loc _ _ m1
  have hgo := obj_run (P := P) hget
  refine ⟨.int .i64 ps.length, w, x, .d (.v (.int .i64 ps.length)), σ, ?_, .refl x, ⟨rfl, rfl⟩, s.heap, s.calm, fun _ => Agree.refl w, rfl, rfl⟩
  have hb : (Builtin.len_ #[mt] ty #[.map (some (x.env loc).blk)]).run P w = .ok (.int .i64 ps.length) w := by
    unfold Builtin.len_
    simp [run_underlying hm, hgo, goInt, hlen]
  unfold execOp
  simp [resolve, e, invoke, builtin, hb]
end
end Go.Proofs.Ytciciaikajdenaa
/- N15: package cell's Value, Reach, Size, Build, Copy. -/
set_option linter.unusedSimpArgs false
set_option linter.unusedVariables false
namespace Go.Proofs.Ytciciaikajdenaa
open Go.RowKit

/-- What Value answers. -/
def valueM (H : AHeap) (f : Nat) (w : AWord) : Val × Int := match walkF H f w [] false with
  | .ok v _ _ => (v, 0)
  | .bad e => (.mk 0 0 ⟨#[]⟩ [], e)
/-- What Reach answers. -/
def reachM (H : AHeap) (f : Nat) (ws : List AWord) : Int × Int := match walksF (walkF H f) ws [] false with
  | .ok _ come _ => (come.length, 0)
  | .bad e => (0, e)
/-- What Build answers, and leaves. -/
def buildM (H : AHeap) (v : Val) : (AWord × Int) × AHeap := if makeE H v = 0 then (((buildF H v).1, 0), (buildF H v).2) else ((.zero, makeE H v), H)
/-- What Copy answers, and leaves. -/
def copyM (H : AHeap) (f : Nat) (w : AWord) : (AWord × Int) × AHeap := match walkF H f w [] false with
  | .bad e => ((.zero, e), H)
  | .ok v _ fl => if fl then ((.zero, 240), H) else buildM H v
theorem clo_wk {P : Program} {f : FuncId} {a : AV} {gd : Nat} {c : DV} {σ : List AObj} {post : AV → List AObj → Prop} (h : Runs P f [a, .clo (.func gd) [] [.d c]] σ post) : Runs P f [a, .d (.clo (.func gd) [] [c])] σ post :=
  h.wk fun x us ⟨u1, us1, e1, r1, u2, us2, e2, ⟨p, q, e3, r2, r3⟩, h2⟩ => ⟨u1, us1, e1, r1, u2, us2, e2, ⟨p, q, e3, .ofD r2, .ofD r3⟩, h2⟩
theorem KeptP.one {σ σ2 : List AObj} {L : Nat} {o : AObj} (h : KeptP (· ≠ L) σ σ2) (h1 : σ[L]? = some o) (h2 : σ2[L]? = some o) : KeptP (fun _ => True) σ σ2 := fun k o' _ e => by
  by_cases q : k = L
  · subst q; rw [h1] at e; injection e with e; subst e; exact h2
  · exact h k o' q e
section
variable {σ : List AObj} {locH : Nat} {H : AHeap} {B : Int} {f : Nat} {w : AWord}
set_option maxRecDepth 100000 in
set_option maxHeartbeats 8000000 in
theorem does99 (ok : H.Ok B) (hco : CellsOk H) (hH : σ[locH]? = some (ho H)) (hn9 : walkF H f w [] false ≠ .bad 999) :
    DoesV 99 (.d (.fptr (wordD w))) locH (fun v H' => H' = H ∧ ∃ come fl, walkF H f w [] false = .ok v come fl) (fun e => walkF H f w [] false = .bad e) σ := by
  intro σ1 locW locM hk oW oM hW hM
  have hH1 := hk _ _ trivial hH
  have hv := fun σ a b c => value_x (locW := locW) (locM := locM) (locH := locH) ok hco f w [] false σ hn9 a b c
  unfold ValP ValE at hv
  have nHW : locH ≠ locW := fun h => by rw [← h, hH1] at hW; cases hW
  have nHM : locH ≠ locM := fun h => by rw [← h, hH1] at hM; cases hM
  generalize hR : walkF H f w [] false = R at hv hn9 ⊢
  have hK := KeptP.refl (fun k => k ≠ locW ∧ k ≠ locM) σ1
  clear hk oW oM hH
  obtain ⟨wk, wn, ws, wg⟩ := w
  refine enterX 7 tab_ok Try.func99 rfl (by kernel_rfl) rfl rfl rfl ?_
  repeat' (first | refine s_op rfl ?_ | (apply s_move; (iterate 4 (exact rfl))) | (apply s_ld_f tab_ok; (iterate 6 (exact rfl))) | (apply s_allocF tabZ_ok (d := 3); (iterate 6 (exact rfl)); intro locX σ hc; have hX := hc.at'; have nWX := hc.ne hW; replace hW := hc.keep hW; have nMX := hc.ne hM; replace hM := hc.keep hM; have nH1X := hc.ne hH1; replace hH1 := hc.keep hH1; have oX := hK.out hc; replace hK := hK.fresh hc; clear hc) | (apply s_callX; (iterate 6 (exact rfl)); exact hv _ hW hM hH1; rotate_left; rintro _ σ2 ⟨e, he, rfl, hk2⟩; (repeat (first | refine q_then_p ?_ | refine q_blk_p ?_)); exact q_panX ⟨e, rfl, he, hK.trans hk2⟩; rintro _ σ2 ⟨⟨vk, vn, vs, vl⟩, come, fl, hok, rfl, hW2, hM2, hk2⟩; replace hX := hk2 _ _ ⟨nWX.symm, nMX.symm⟩ hX; replace hH1 := hk2 _ _ ⟨nHW, nHM⟩ hH1; replace hK := hK.trans hk2; clear hk2) | (apply s_storeF tab_ok; (iterate 7 (exact rfl)); exact hX; (iterate 2 (exact rfl)); intro σ hc; replace hK := hK.chg oX hc; replace hX := hc.at'; replace hH1 := hc.keep nH1X hH1; clear hc) | refine al_nil ?_ | refine q_then_n ?_ | refine aw_seq ?_ | refine aw_reg ?_ | refine aw_ret ?_)
  all_goals exact q_retX (resB_1 rfl (resV_c (t := 66) rfl rfl hX rfl)) ⟨⟨vk, vn, vs, vl⟩, H, rfl, ⟨rfl, come, fl, hok⟩, hH1, hK.of fun k h => h.2⟩
set_option maxRecDepth 100000 in
set_option maxHeartbeats 8000000 in
theorem value_c (ok : H.Ok B) (hco : CellsOk H) (hH : σ[locH]? = some (ho H)) (hn9 : walkF H f w [] false ≠ .bad 999) :
    Runs Try.prog 49 [.ptr locH 0 0, .d (.agg (wordD w))] σ (fun r σ' => r = .d (.tup [.agg (valD (valueM H f w).1), .v (.int .i64 (valueM H f w).2)]) ∧ KeptP (fun _ => True) σ σ') := by
  have hd := does99 (f := f) (w := w) ok hco hH hn9
  have hK := KeptP.refl (fun _ => True) σ
  have hg := fun σ1 (hk : KeptP (fun _ => True) σ σ1) (hH : σ1[locH]? = some (ho H)) => clo_wk (guarded_v (hd.ext hk) hH)
  unfold GrdV at hg
  refine Runs.weakR ?_
  have main : Runs Try.prog 49 [.ptr locH 0 0, .d (.agg (wordD w))] σ (fun r σ' => (∃ v, r = .d (.tup [.agg (valD v), .v (.int .i64 0)]) ∧ (∃ come fl, walkF H f w [] false = .ok v come fl) ∧ KeptP (fun _ => True) σ σ') ∨ ∃ e, r = .d (.tup [.agg [.v (.int .u8 0), .v (.int .i64 0), .v (.string ⟨#[]⟩), .nil], .v (.int .i64 e)]) ∧ walkF H f w [] false = .bad e ∧ KeptP (fun _ => True) σ σ') := by
    generalize walkF H f w [] false = R at hg
    obtain ⟨wk, wn, ws, wg⟩ := w
    refine enterB 11 tab_ok Try.func49 rfl (by kernel_rfl) rfl rfl rfl ?_
    repeat' (first | refine s_op rfl ?_ | (apply s_move; (iterate 4 (exact rfl))) | (apply s_assign; (iterate 4 (exact rfl))) | (apply s_ext; (iterate 5 (exact rfl))) | (apply s_mkf; (iterate 4 (exact rfl))) | (apply s_boxZ; (iterate 5 (exact rfl)); first | exact rfl | exact allD_mapd _) | (apply s_allocF tabZ_ok (d := 4); (iterate 6 (exact rfl)); intro locX σ hc; have hX := hc.at'; have nHX := hc.ne hH; replace hH := hc.keep hH; have oX := hK.out hc; replace hK := hK.fresh hc; clear hc) | (apply s_callS; (iterate 6 (exact rfl)); exact hg _ hK hH; rintro _ σ2 (⟨⟨vk, vn, vs, vl⟩, H2, rfl, ⟨rfl, hok⟩, hH2, hk2⟩ | ⟨e, rfl, hok, hk2⟩); have hk3 := hk2.one hH hH2; rotate_left; have hk3 := hk2; rotate_left; all_goals (have hXn := hX; clear hX; have hX := hk3 _ _ trivial hXn; clear hXn; replace hK := hK.trans hk3; clear hk3 hk2)) | (apply s_storeF tab_ok; (iterate 7 (exact rfl)); exact hX; (iterate 2 (exact rfl)); intro σ hc; replace hX := hc.at'; replace hK := hK.chg oX hc; clear hc) | refine al_nil ?_ | refine q_then_n ?_ | refine aw_seq ?_ | refine aw_reg ?_ | refine aw_ret ?_)
    · exact q_retB (resB_2 rfl (resV_c (t := 66) rfl rfl hX rfl) (resV_t rfl) rfl) (.inl ⟨⟨vk, vn, vs, vl⟩, rfl, hok, hK⟩)
    · exact q_retB (resB_2 rfl (resV_c (t := 66) rfl rfl hX rfl) (resV_t rfl) rfl) (.inr ⟨e, rfl, hok, hK⟩)
  refine main.mono fun r σ' h => ?_
  unfold valueM
  rcases h with ⟨v, rfl, ⟨come, fl, hok⟩, hk⟩ | ⟨e, rfl, hok, hk⟩
  · rw [hok]
    exact ⟨_, rfl, Wk.refl _, hk⟩
  · rw [hok]
    exact ⟨_, rfl, Wk.tup ⟨Wk.agg ⟨Wk.refl _, Wk.refl _, Wk.refl _, Wk.nil 4, trivial⟩, Wk.refl _, trivial⟩, hk⟩
end
end Go.Proofs.Ytciciaikajdenaa
/- N16: package cell's Reach, Size, Build, Copy. -/
set_option linter.unusedSimpArgs false
set_option linter.unusedVariables false
namespace Go.Proofs.Ytciciaikajdenaa
open Go.RowKit

section
variable {σ : List AObj} {locH : Nat} {H : AHeap} {B : Int} {f : Nat} {w : AWord} {ws : List AWord}
set_option maxRecDepth 100000 in
set_option maxHeartbeats 8000000 in
theorem does97 (ok : H.Ok B) (hco : CellsOk H) (hH : σ[locH]? = some (ho H)) (hlen : ws.length ≤ 1000000000) (hn9 : walksF (walkF H f) ws [] false ≠ .bad 999) :
    DoesVI 97 (.d (.fptr [.lst 4 (wordsR ws)])) locH (fun n H' => H' = H ∧ ∃ vs come fl, walksF (walkF H f) ws [] false = .ok vs come fl ∧ n = come.length) (fun e => walksF (walkF H f) ws [] false = .bad e) σ := by
  intro σ1 locW locM hk oW oM hW hM
  have hH1 := hk _ _ trivial hH
  have hv := fun w come fl σ h a b c => value_x (locW := locW) (locM := locM) (locH := locH) ok hco f w come fl σ h a b c
  have nHW : locH ≠ locW := fun h => by rw [← h, hH1] at hW; cases hW
  have nHM : locH ≠ locM := fun h => by rw [← h, hH1] at hM; cases hM
  have hK := KeptP.refl (fun k => k ≠ locW ∧ k ≠ locM) σ1
  have e1 := wordsR_len ws
  clear hk oW oM hH
  refine enterX 21 tab_ok Try.func97 rfl (by kernel_rfl) rfl rfl rfl ?_
  repeat' (first | refine s_op rfl ?_ | (apply s_move; (iterate 4 (exact rfl))) | (apply s_ld_f tab_ok; (iterate 6 (exact rfl))) | (apply s_assign; (iterate 4 (exact rfl))) | (apply s_len tab_ok; (iterate 5 (exact rfl))) | refine al_nil ?_ | refine q_then_n ?_ | refine aw_block ?_ | refine aw_seq ?_ | refine aw_reg ?_)
  refine w_loop [0, 6, 7, 8] (fun n' vs' σ => ∃ (j : Nat) (vsj : List Val) (cj : List Int) (fj : Bool), vs' = [.ptr locW 0 0, .d (.lst 4 (wordsR ws)), .d (.v (.int .i64 ((wordsR ws).length : Int))), .d (.v (.int .i64 (j : Int)))] ∧ walksF (walkF H f) (ws.take j) [] false = .ok vsj cj fj ∧ σ[locW]? = some (walkO locH locM fj) ∧ σ[locM]? = some (seenO cj) ∧ σ[locH]? = some (ho H) ∧ KeptP (fun k => k ≠ locW ∧ k ≠ locM) σ1 σ ∧ j ≤ ws.length ∧ n' = ws.length - j) rfl ⟨0, [], [], false, rfl, rfl, hW, hM, hH1, hK, by omega, rfl⟩ ?_
  clear hW hM hH1 hK
  rintro n' vs' σ ⟨j, vsj, cj, fj, rfl, hwalk, hW, hM, hH1, hK, hj, rfl⟩ fr hfr
  cases hfr
  by_cases hlt : j < ws.length
  · obtain ⟨w, hw⟩ := getS hlt
    obtain ⟨w1, w2⟩ := walksF_take hw hwalk
    have hne : walkF H f w cj fj ≠ .bad 999 := fun h => hn9 (w2 _ h)
    have hc := fun σ a b c => hv w cj fj σ hne a b c
    unfold ValP ValE at hc
    obtain ⟨wk, wn, wstr, wg⟩ := w
    clear hv hwalk
    repeat' (first | refine s_op rfl ?_ | (apply s_move; (iterate 4 (exact rfl))) | (apply s_ld_f tab_ok; (iterate 6 (exact rfl))) | (apply s_idx tab_ok; (iterate 7 (exact rfl)); (first | exact valR_get (by assumption) | exact wordsR_get (by assumption) | assumption)) | (apply s_lss_t; (iterate 5 (exact rfl)); omega) | (apply s_add64; (iterate 5 (exact rfl)); omega) | (apply s_allocF tabZ_ok (d := 5); (iterate 6 (exact rfl)); intro locZ σ hc; have hZ := hc.at'; have nWZ := hc.ne hW; replace hW := hc.keep hW; have nMZ := hc.ne hM; replace hM := hc.keep hM; have nH1Z := hc.ne hH1; replace hH1 := hc.keep hH1; have oZ := hK.out hc; replace hK := hK.fresh hc; clear hc) | (apply s_storeF tab_ok; (iterate 7 (exact rfl)); exact hZ; (iterate 2 (exact rfl)); intro σ hc; replace hZ := hc.at'; replace hW := hc.keep (by first | assumption | (apply Ne.symm; assumption) | omega) hW; replace hM := hc.keep (by first | assumption | (apply Ne.symm; assumption) | omega) hM; replace hH1 := hc.keep (by first | assumption | (apply Ne.symm; assumption) | omega) hH1; replace hK := hK.chg oZ hc; clear hc) | (apply s_ldF tab_ok; (iterate 5 (exact rfl)); exact hZ; exact rfl) | (apply s_callX; (iterate 6 (exact rfl)); exact hc _ hW hM hH1; rotate_left; rintro _ σ2 ⟨e, he, rfl, hk2⟩; (repeat (first | refine q_then_p ?_ | refine q_blk_p ?_)); exact q_panX ⟨e, rfl, w2 _ he, hK.trans hk2⟩; rintro _ σ2 ⟨v, c2, f2, hok, rfl, hW2, hM2, hk2⟩; replace hH1 := hk2 _ _ ⟨nHW, nHM⟩ hH1; replace hK := hK.trans hk2; clear hk2 hZ) | refine al_nil ?_ | refine q_then_n ?_ | refine q_blk_n ?_ | refine aw_block ?_ | refine aw_seq ?_ | refine aw_reg ?_ | refine aw_true rfl ?_ | refine aw_skip ?_)
    all_goals exact ⟨_, _, rfl, by omega, j + 1, _, c2, f2, rfl, w1 _ c2 f2 hok, hW2, hM2, hH1, hK, by omega, rfl⟩
  · rw [List.take_of_length_le (by omega)] at hwalk
    unfold walkO at hW
    unfold seenO at hM
    have hlc : (entsV (Value.int .i64) (seenL cj)).length = cj.length := by simp [entsV, seenL]
    repeat' (first | refine s_op rfl ?_ | (apply s_move; (iterate 4 (exact rfl))) | (apply s_fa_p tab_ok; (iterate 5 (exact rfl))) | (apply s_assign; (iterate 4 (exact rfl))) | (apply s_nilc; (iterate 5 (exact rfl))) | (apply s_lss_f; (iterate 5 (exact rfl)); omega) | (apply s_ldF tab_ok; (iterate 5 (exact rfl)); exact hW; exact rfl) | (apply s_lenM seenP; (iterate 5 (exact rfl)); exact hM) | refine al_nil ?_ | refine q_then_n ?_ | refine q_blk_e ?_ | refine q_then_e ?_ | refine aw_exit ?_ | refine aw_seq ?_ | refine aw_reg ?_ | refine aw_false rfl ?_ | refine aw_ret ?_)
    all_goals exact q_retX (resB_1 rfl (resV_t rfl)) ⟨_, H, rfl, ⟨rfl, _, _, _, hwalk, by rw [hlc]⟩, hH1, hK.of fun k h => h.2⟩
set_option maxRecDepth 100000 in
set_option maxHeartbeats 8000000 in
theorem reach_c (ok : H.Ok B) (hco : CellsOk H) (hH : σ[locH]? = some (ho H)) (hlen : ws.length ≤ 1000000000) (hn9 : walksF (walkF H f) ws [] false ≠ .bad 999) :
    Runs Try.prog 48 [.ptr locH 0 0, .d (.lst 4 (wordsR ws))] σ (fun r σ' => r = .d (.tup [.v (.int .i64 (reachM H f ws).1), .v (.int .i64 (reachM H f ws).2)]) ∧ KeptP (fun _ => True) σ σ') := by
  have hd := does97 (f := f) (ws := ws) ok hco hH hlen hn9
  have hK := KeptP.refl (fun _ => True) σ
  have hg := fun σ1 (hk : KeptP (fun _ => True) σ σ1) (hH : σ1[locH]? = some (ho H)) => clo_wk (guarded_vI (hd.ext hk) hH)
  unfold GrdVI at hg
  have main : Runs Try.prog 48 [.ptr locH 0 0, .d (.lst 4 (wordsR ws))] σ (fun r σ' => (∃ n : Int, r = .d (.tup [.v (.int .i64 n), .v (.int .i64 0)]) ∧ (∃ vs come fl, walksF (walkF H f) ws [] false = .ok vs come fl ∧ n = come.length) ∧ KeptP (fun _ => True) σ σ') ∨ ∃ e, r = .d (.tup [.v (.int .i64 0), .v (.int .i64 e)]) ∧ walksF (walkF H f) ws [] false = .bad e ∧ KeptP (fun _ => True) σ σ') := by
    generalize walksF (walkF H f) ws [] false = R at hg
    refine enterB 11 tab_ok Try.func48 rfl (by kernel_rfl) rfl rfl rfl ?_
    repeat' (first | refine s_op rfl ?_ | (apply s_move; (iterate 4 (exact rfl))) | (apply s_assign; (iterate 4 (exact rfl))) | (apply s_ext; (iterate 5 (exact rfl))) | (apply s_mkf; (iterate 4 (exact rfl))) | (apply s_boxZ; (iterate 5 (exact rfl)); first | exact rfl | exact allD_mapd _) | (apply s_callS; (iterate 6 (exact rfl)); exact hg _ hK hH; rintro _ σ2 (⟨n, H2, rfl, ⟨rfl, hok⟩, hH2, hk2⟩ | ⟨e, rfl, hok, hk2⟩); have hk3 := hk2.one hH hH2; rotate_left; have hk3 := hk2; rotate_left; all_goals (replace hK := hK.trans hk3; clear hk3 hk2)) | refine al_nil ?_ | refine q_then_n ?_ | refine aw_seq ?_ | refine aw_reg ?_ | refine aw_ret ?_)
    · exact q_retB (resB_2 rfl (resV_t rfl) (resV_t rfl) rfl) (.inl ⟨n, rfl, hok, hK⟩)
    · exact q_retB (resB_2 rfl (resV_t rfl) (resV_t rfl) rfl) (.inr ⟨e, rfl, hok, hK⟩)
  refine main.mono fun r σ' h => ?_
  unfold reachM
  rcases h with ⟨n, rfl, ⟨vs, come, fl, hok, rfl⟩, hk⟩ | ⟨e, rfl, hok, hk⟩
  · rw [hok]
    exact ⟨rfl, hk⟩
  · rw [hok]
    exact ⟨rfl, hk⟩
set_option maxRecDepth 100000 in
set_option maxHeartbeats 8000000 in
theorem size_c53 (ok : H.Ok B) (hco : CellsOk H) (hH : σ[locH]? = some (ho H)) (hn9 : walksF (walkF H f) [w] [] false ≠ .bad 999) :
    Runs Try.prog 53 [.ptr locH 0 0, .d (.agg (wordD w))] σ (fun r σ' => r = .d (.tup [.v (.int .i64 (reachM H f [w]).1), .v (.int .i64 (reachM H f [w]).2)]) ∧ KeptP (fun _ => True) σ σ') := by
  have hr := fun σ1 (hH : σ1[locH]? = some (ho H)) => reach_c (σ := σ1) (f := f) (ws := [w]) ok hco hH (by simp) hn9
  have hK := KeptP.refl (fun _ => True) σ
  generalize reachM H f [w] = R at hr ⊢
  obtain ⟨wk, wn, ws, wg⟩ := w
  refine enterB 12 tab_ok Try.func53 rfl (by kernel_rfl) rfl rfl rfl ?_
  repeat' (first | refine s_op rfl ?_ | (apply s_move; (iterate 4 (exact rfl))) | (apply s_ld_f tab_ok; (iterate 6 (exact rfl))) | (apply s_assign; (iterate 4 (exact rfl))) | (apply s_ext; (iterate 5 (exact rfl))) | (apply s_boxZ; (iterate 5 (exact rfl)); first | exact rfl | exact allD_mapd _) | (apply s_lit tab_ok tabZ_ok; (iterate 10 (exact rfl))) | (apply s_callS; (iterate 6 (exact rfl)); exact hr _ hH; rintro _ σ2 ⟨rfl, hk2⟩; replace hK := hK.trans hk2; clear hk2) | refine al_nil ?_ | refine q_then_n ?_ | refine aw_seq ?_ | refine aw_reg ?_ | refine aw_ret ?_)
  all_goals exact q_retB (resB_2 rfl (resV_t rfl) (resV_t rfl) rfl) ⟨rfl, hK⟩
set_option maxRecDepth 100000 in
set_option maxHeartbeats 8000000 in
theorem does91 (ok : H.Ok B) (hB : 0 ≤ B) (hH : σ[locH]? = some (ho H)) {v : Val} (hv : v.kok) (hm : massV v ≤ 1000000000) :
    DoesVW 91 (.d (.fptr (valD v))) locH (fun w H' => makeE H v = 0 ∧ w = (buildF H v).1 ∧ H' = (buildF H v).2) (fun e => makeE H v ≠ 0 ∧ e = makeE H v) σ := by
  intro σ1 locW locM hk oW oM hW hM
  have hH1 := hk _ _ trivial hH
  have hmk := fun σ a b => make_x (σ := σ) (locW := locW) (locM := locM) (locH := locH) (fl := false) ok hB hv hm a b
  unfold MadeP MadeE at hmk
  have nHW : locH ≠ locW := fun h => by rw [← h, hH1] at hW; cases hW
  have hK := KeptP.refl (fun _ => True) σ1
  clear hk oW oM hH
  generalize makeE H v = E at hmk ⊢
  generalize buildF H v = g at hmk ⊢
  obtain ⟨vk, vn, vs, vl⟩ := v
  refine enterX 7 tab_ok Try.func91 rfl (by kernel_rfl) rfl rfl rfl ?_
  repeat' (first | refine s_op rfl ?_ | (apply s_move; (iterate 4 (exact rfl))) | (apply s_ld_f tab_ok; (iterate 6 (exact rfl))) | (apply s_allocF tabZ_ok (d := 3); (iterate 6 (exact rfl)); intro locX σ hc; have hX := hc.at'; have nWX := hc.ne hW; replace hW := hc.keep hW; have nH1X := hc.ne hH1; replace hH1 := hc.keep hH1; have oX := hK.out hc; replace hK := hK.fresh hc; clear hc) | (apply s_callX; (iterate 6 (exact rfl)); exact hmk _ hW hH1; rotate_left; rintro _ σ2 ⟨he, rfl, hk2⟩; (repeat (first | refine q_then_p ?_ | refine q_blk_p ?_)); exact q_panX ⟨_, rfl, ⟨he, rfl⟩, (hK.trans hk2).any⟩; rintro _ σ2 ⟨he, rfl, hH2, hk2⟩; replace hX := hk2 _ _ nH1X.symm hX; have hK2 : KeptP (fun k => k ≠ locH) σ1 σ2 := hK.any.trans hk2; clear hk2 hH1) | (apply s_storeF tab_ok; (iterate 7 (exact rfl)); exact hX; (iterate 2 (exact rfl)); intro σ hc; have hK3 := hK2.chg oX.any hc; replace hX := hc.at'; replace hH2 := hc.keep nH1X hH2; clear hc) | refine al_nil ?_ | refine q_then_n ?_ | refine aw_seq ?_ | refine aw_reg ?_ | refine aw_ret ?_)
  all_goals exact q_retX (resB_1 rfl (resV_c (t := 36) rfl rfl hX rfl)) ⟨g.1, g.2, rfl, ⟨he, rfl, rfl⟩, hH2, hK3.of fun k h => h.1⟩
set_option maxRecDepth 100000 in
set_option maxHeartbeats 8000000 in
theorem build_c45 (ok : H.Ok B) (hB : 0 ≤ B) (hH : σ[locH]? = some (ho H)) {v : Val} (hv : v.kok) (hm : massV v ≤ 1000000000) :
    Runs Try.prog 45 [.ptr locH 0 0, .d (.agg (valD v))] σ (fun r σ' => r = .d (.tup [.agg (wordD (buildM H v).1.1), .v (.int .i64 (buildM H v).1.2)]) ∧ σ'[locH]? = some (ho (buildM H v).2) ∧ KeptP (· ≠ locH) σ σ') := by
  have hd := does91 ok hB hH hv hm
  have hK := KeptP.refl (fun _ => True) σ
  have hg := fun σ1 (hk : KeptP (fun _ => True) σ σ1) (hH : σ1[locH]? = some (ho H)) => clo_wk (guarded_vW (hd.ext hk) hH)
  unfold GrdVW at hg
  have main : Runs Try.prog 45 [.ptr locH 0 0, .d (.agg (valD v))] σ (fun r σ' => (∃ w H', r = .d (.tup [.agg (wordD w), .v (.int .i64 0)]) ∧ (makeE H v = 0 ∧ w = (buildF H v).1 ∧ H' = (buildF H v).2) ∧ σ'[locH]? = some (ho H') ∧ KeptP (· ≠ locH) σ σ') ∨ ∃ e, r = .d (.tup [.agg (wordD .zero), .v (.int .i64 e)]) ∧ (makeE H v ≠ 0 ∧ e = makeE H v) ∧ KeptP (fun _ => True) σ σ') := by
    generalize makeE H v = E at hg ⊢
    generalize buildF H v = g at hg ⊢
    obtain ⟨vk, vn, vs, vl⟩ := v
    refine enterB 11 tab_ok Try.func45 rfl (by kernel_rfl) rfl rfl rfl ?_
    repeat' (first | refine s_op rfl ?_ | (apply s_move; (iterate 4 (exact rfl))) | (apply s_assign; (iterate 4 (exact rfl))) | (apply s_ext; (iterate 5 (exact rfl))) | (apply s_mkf; (iterate 4 (exact rfl))) | (apply s_boxZ; (iterate 5 (exact rfl)); first | exact rfl | exact allD_mapd _) | (apply s_allocF tabZ_ok (d := 4); (iterate 6 (exact rfl)); intro locX σ hc; have hX := hc.at'; have nHX := hc.ne hH; replace hH := hc.keep hH; have oX := hK.out hc; replace hK := hK.fresh hc; clear hc) | (apply s_callS; (iterate 6 (exact rfl)); exact hg _ hK hH; rintro _ σ2 (⟨w, H2, rfl, hPr, hH2, hk2⟩ | ⟨e, rfl, hPe, hk2⟩); rotate_left; (have hXn := hX; clear hX; have hX := hk2 _ _ trivial hXn; have hK2 := hK.trans hk2; clear hXn hk2); rotate_left; (have hXn := hX; clear hX; have hX := hk2 _ _ nHX.symm hXn; have hK2 : KeptP (· ≠ locH) _ _ := hK.any.trans hk2; clear hXn hk2)) | (apply s_storeF tab_ok; (iterate 7 (exact rfl)); exact hX; (iterate 2 (exact rfl)); intro σ hc; (try (replace hH2 := hc.keep nHX hH2)); replace hK2 := hK2.chg oX.any hc; replace hX := hc.at'; clear hc) | refine al_nil ?_ | refine q_then_n ?_ | refine aw_seq ?_ | refine aw_reg ?_ | refine aw_ret ?_)
    · exact q_retB (resB_2 rfl (resV_c (t := 36) rfl rfl hX rfl) (resV_t rfl) rfl) (.inl ⟨w, H2, rfl, hPr, hH2, hK2⟩)
    · exact q_retB (resB_2 rfl (resV_c (t := 36) rfl rfl hX rfl) (resV_t rfl) rfl) (.inr ⟨e, rfl, hPe, hK2⟩)
  refine main.mono fun r σ' h => ?_
  unfold buildM
  rcases h with ⟨w, H', rfl, ⟨h1, rfl, rfl⟩, hH, hk⟩ | ⟨e, rfl, ⟨h1, rfl⟩, hk⟩
  · rw [if_pos h1]
    exact ⟨rfl, hH, hk⟩
  · rw [if_neg h1]
    exact ⟨rfl, hk _ _ trivial hH, hk.any⟩
end
end Go.Proofs.Ytciciaikajdenaa
