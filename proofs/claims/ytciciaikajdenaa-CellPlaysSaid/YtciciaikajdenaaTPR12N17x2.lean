/- N17: package cell's Copy; a world without files; drop, Drop. -/
import Derived.Test.YtciciaikajdenaaTPR12Asx3
set_option linter.unusedSimpArgs false
set_option linter.unusedVariables false
namespace Go.Proofs.Ytciciaikajdenaa
open Go.RowKit

section
variable {σ : List AObj} {locH : Nat} {H : AHeap} {B : Int} {f : Nat} {w : AWord}
set_option maxRecDepth 100000 in
set_option maxHeartbeats 8000000 in
theorem does93 (ok : H.Ok B) (hB : 0 ≤ B) (hco : CellsOk H) (hH : σ[locH]? = some (ho H)) (hn9 : walkF H f w [] false ≠ .bad 999) (hkm : ∀ v come fl, walkF H f w [] false = .ok v come fl → v.kok ∧ massV v ≤ 1000000000) :
    DoesVW 93 (.d (.fptr (wordD w))) locH (fun w' H' => copyM H f w = ((w', 0), H')) (fun e => copyM H f w = ((.zero, e), H)) σ := by
  intro σ1 locW locM hk oW oM hW hM
  have hH1 := hk _ _ trivial hH
  have hv := fun σ a b c => value_x (locW := locW) (locM := locM) (locH := locH) ok hco f w [] false σ hn9 a b c
  unfold ValP ValE at hv
  have hmk := fun (v : Val) (fl : Bool) (h1 : v.kok) (h2 : massV v ≤ 1000000000) σ a b => make_x (σ := σ) (locW := locW) (locM := locM) (locH := locH) (fl := fl) ok hB h1 h2 a b
  unfold MadeP MadeE at hmk
  have nHW : locH ≠ locW := fun h => by rw [← h, hH1] at hW; cases hW
  have nHM : locH ≠ locM := fun h => by rw [← h, hH1] at hM; cases hM
  have nWM : locW ≠ locM := fun h => by rw [h, hM] at hW; cases hW
  have hK := KeptP.refl (fun k => k ≠ locW ∧ k ≠ locM) σ1
  have hcp : copyM H f w = match walkF H f w [] false with
    | .bad e => ((.zero, e), H)
    | .ok v _ fl => if fl then ((.zero, 240), H) else buildM H v := rfl
  generalize copyM H f w = C at hcp ⊢
  clear hk oW oM hH hn9
  cases hR : walkF H f w [] false with
  | bad e =>
    rw [hR] at hcp hv
    obtain ⟨wk, wn, ws, wg⟩ := w
    refine enterX 16 tab_ok Try.func93 rfl (by kernel_rfl) rfl rfl rfl ?_
    repeat' (first | refine s_op rfl ?_ | (apply s_move; (iterate 4 (exact rfl))) | (apply s_ld_f tab_ok; (iterate 6 (exact rfl))) | (apply s_allocF tabZ_ok (d := 3); (iterate 6 (exact rfl)); intro locX σ hc; have hX := hc.at'; have nWX := hc.ne hW; replace hW := hc.keep hW; have nMX := hc.ne hM; replace hM := hc.keep hM; have nH1X := hc.ne hH1; replace hH1 := hc.keep hH1; have oX := hK.out hc; replace hK := hK.fresh hc; clear hc) | (apply s_callX; (iterate 6 (exact rfl)); exact hv _ hW hM hH1; rotate_left; rintro _ σ2 ⟨e, he, rfl, hk2⟩; injection he with he; subst he; (repeat (first | refine q_then_p ?_ | refine q_blk_p ?_)); exact q_panX ⟨_, rfl, hcp, hK.trans hk2⟩; rintro _ σ2 ⟨v, come, fl, hok, _⟩; cases hok) | refine al_nil ?_ | refine q_then_n ?_ | refine aw_seq ?_ | refine aw_reg ?_)
  | ok v come fl =>
    obtain ⟨hkok, hmass⟩ := hkm v come fl hR
    rw [hR] at hcp hv
    simp only at hcp
    cases fl with
    | true =>
      rw [if_pos rfl] at hcp
      obtain ⟨wk, wn, ws, wg⟩ := w
      clear hmk
      refine enterX 16 tab_ok Try.func93 rfl (by kernel_rfl) rfl rfl rfl ?_
      obtain ⟨vk, vn, vs, vl⟩ := v
      repeat' (first | refine s_op rfl ?_ | (apply s_move; (iterate 4 (exact rfl))) | (apply s_fa_p tab_ok; (iterate 5 (exact rfl))) | (apply s_ld_f tab_ok; (iterate 6 (exact rfl))) | (apply s_nilc; (iterate 5 (exact rfl))) | (apply s_allocF tabZ_ok (d := 3); (iterate 6 (exact rfl)); intro locX σ hc; have hX := hc.at'; have nWX := hc.ne hW; replace hW := hc.keep hW; have nMX := hc.ne hM; replace hM := hc.keep hM; have nH1X := hc.ne hH1; replace hH1 := hc.keep hH1; have oX := hK.out hc; replace hK := hK.fresh hc; clear hc) | (apply s_callX; (iterate 6 (exact rfl)); exact hv _ hW hM hH1; rotate_left; rintro _ σ2 ⟨e, he, _⟩; cases he; rintro _ σ2 ⟨v, come, fl, hok, rfl, hW2, hM2, hk2⟩; injection hok with e1 e2 e3; subst e1 e2 e3; unfold walkO at hW2; replace hK := hK.trans hk2; clear hk2 hW hM hH1 hX) | (apply s_allocF tabZ_ok (d := 4); (iterate 6 (exact rfl)); intro locV σ hc; have hV := hc.at'; have nW2V := hc.ne hW2; replace hW2 := hc.keep hW2; have oV := hK.out hc; replace hK := hK.fresh hc; clear hc) | (apply s_storeF tab_ok; (iterate 7 (exact rfl)); exact hV; (iterate 2 (exact rfl)); intro σ hc; replace hV := hc.at'; replace hW2 := hc.keep (by first | assumption | (apply Ne.symm; assumption) | omega) hW2; replace hK := hK.chg oV hc; clear hc) | (apply s_ldF tab_ok; (iterate 5 (exact rfl)); exact hW2; exact rfl) | (apply s_callE; (iterate 4 (exact rfl)); exact must_bad 240 (by decide); rintro _ σ ⟨rfl, rfl⟩; (repeat (first | refine q_then_p ?_ | refine q_blk_p ?_)); exact q_panX ⟨_, rfl, hcp, hK⟩) | refine al_nil ?_ | refine q_then_n ?_ | refine aw_seq ?_ | refine aw_reg ?_ | refine aw_true rfl ?_)
    | false =>
      rw [if_neg (by simp)] at hcp
      have hm2 := hmk v false hkok hmass
      unfold buildM at hcp
      clear hmk
      generalize makeE H v = E at hm2 hcp
      generalize buildF H v = g at hm2 hcp
      obtain ⟨wk, wn, ws, wg⟩ := w
      refine enterX 16 tab_ok Try.func93 rfl (by kernel_rfl) rfl rfl rfl ?_
      obtain ⟨vk, vn, vs, vl⟩ := v
      repeat' (first | refine s_op rfl ?_ | (apply s_move; (iterate 4 (exact rfl))) | (apply s_fa_p tab_ok; (iterate 5 (exact rfl))) | (apply s_ld_f tab_ok; (iterate 6 (exact rfl))) | (apply s_nilc; (iterate 5 (exact rfl))) | (apply s_allocF tabZ_ok (d := 3); (iterate 6 (exact rfl)); intro locX σ hc; have hX := hc.at'; have nWX := hc.ne hW; replace hW := hc.keep hW; have nMX := hc.ne hM; replace hM := hc.keep hM; have nH1X := hc.ne hH1; replace hH1 := hc.keep hH1; have oX := hK.out hc; replace hK := hK.fresh hc; clear hc) | (apply s_callX; (iterate 6 (exact rfl)); exact hv _ hW hM hH1; rotate_left; rintro _ σ2 ⟨e, he, _⟩; cases he; rintro _ σ2 ⟨v, come, fl, hok, rfl, hW2, hM2, hk2⟩; injection hok with e1 e2 e3; subst e1 e2 e3; replace hH1 := hk2 _ _ ⟨nHW, nHM⟩ hH1; replace hX := hk2 _ _ ⟨nWX.symm, nMX.symm⟩ hX; replace hK := hK.trans hk2; clear hk2 hW hM) | (apply s_allocF tabZ_ok (d := 4); (iterate 6 (exact rfl)); intro locV σ hc; have hV := hc.at'; have nW2V := hc.ne hW2; replace hW2 := hc.keep hW2; have nH1V := hc.ne hH1; replace hH1 := hc.keep hH1; have nXV := hc.ne hX; replace hX := hc.keep hX; have oV := hK.out hc; replace hK := hK.fresh hc; clear hc) | (apply s_storeF tab_ok; (iterate 7 (exact rfl)); exact hV; (iterate 2 (exact rfl)); intro σ hc; replace hV := hc.at'; replace hW2 := hc.keep (by first | assumption | (apply Ne.symm; assumption) | omega) hW2; replace hH1 := hc.keep (by first | assumption | (apply Ne.symm; assumption) | omega) hH1; replace hX := hc.keep (by first | assumption | (apply Ne.symm; assumption) | omega) hX; replace hK := hK.chg oV hc; clear hc) | (apply s_ldF tab_ok; (iterate 5 (exact rfl)); exact hW2; exact rfl) | (apply s_ldF tab_ok; (iterate 5 (exact rfl)); exact hV; exact rfl) | (apply s_callX; (iterate 6 (exact rfl)); exact hm2 _ hW2 hH1; rotate_left; rintro _ σ2 ⟨he, rfl, hk2⟩; (repeat (first | refine q_then_p ?_ | refine q_blk_p ?_)); exact q_panX ⟨_, rfl, by rw [if_neg he] at hcp; exact hcp, hK.trans hk2.any⟩; rintro _ σ2 ⟨he, rfl, hH2, hk2⟩; replace hX := hk2 _ _ nH1X.symm hX; have hK2 : KeptP (fun k => k ≠ locH ∧ k ≠ locW ∧ k ≠ locM) σ1 σ2 := (fun k o hp ho => hk2 k o hp.1 (hK k o hp.2 ho)); clear hk2 hH1) | (apply s_storeF tab_ok; (iterate 7 (exact rfl)); exact hX; (iterate 2 (exact rfl)); intro σ hc; have hK3 := hK2.chg (fun o h e => oX o h.2 e) hc; replace hX := hc.at'; replace hH2 := hc.keep nH1X hH2; clear hc) | refine al_nil ?_ | refine q_then_n ?_ | refine aw_seq ?_ | refine aw_reg ?_ | refine aw_false rfl ?_ | refine aw_skip ?_ | refine aw_ret ?_)
      all_goals exact q_retX (resB_1 rfl (resV_c (t := 36) rfl rfl hX rfl)) ⟨g.1, g.2, rfl, by rw [if_pos he] at hcp; exact hcp, hH2, hK3⟩
set_option maxRecDepth 100000 in
set_option maxHeartbeats 8000000 in
theorem copy_c46 (ok : H.Ok B) (hB : 0 ≤ B) (hco : CellsOk H) (hH : σ[locH]? = some (ho H)) (hn9 : walkF H f w [] false ≠ .bad 999) (hkm : ∀ v come fl, walkF H f w [] false = .ok v come fl → v.kok ∧ massV v ≤ 1000000000) :
    Runs Try.prog 46 [.ptr locH 0 0, .d (.agg (wordD w))] σ (fun r σ' => r = .d (.tup [.agg (wordD (copyM H f w).1.1), .v (.int .i64 (copyM H f w).1.2)]) ∧ σ'[locH]? = some (ho (copyM H f w).2) ∧ KeptP (· ≠ locH) σ σ') := by
  have hd := does93 ok hB hco hH hn9 hkm
  have hK := KeptP.refl (fun _ => True) σ
  have hg := fun σ1 (hk : KeptP (fun _ => True) σ σ1) (hH : σ1[locH]? = some (ho H)) => clo_wk (guarded_vW (hd.ext hk) hH)
  unfold GrdVW at hg
  generalize copyM H f w = C at hg ⊢
  obtain ⟨wk, wn, ws, wg⟩ := w
  have main : Runs Try.prog 46 [.ptr locH 0 0, .d (.agg (wordD ⟨wk, wn, ws, wg⟩))] σ (fun r σ' => (∃ w H', r = .d (.tup [.agg (wordD w), .v (.int .i64 0)]) ∧ C = ((w, 0), H') ∧ σ'[locH]? = some (ho H') ∧ KeptP (· ≠ locH) σ σ') ∨ ∃ e, r = .d (.tup [.agg (wordD .zero), .v (.int .i64 e)]) ∧ C = ((.zero, e), H) ∧ KeptP (fun _ => True) σ σ') := by
    refine enterB 11 tab_ok Try.func46 rfl (by kernel_rfl) rfl rfl rfl ?_
    repeat' (first | refine s_op rfl ?_ | (apply s_move; (iterate 4 (exact rfl))) | (apply s_assign; (iterate 4 (exact rfl))) | (apply s_ext; (iterate 5 (exact rfl))) | (apply s_mkf; (iterate 4 (exact rfl))) | (apply s_boxZ; (iterate 5 (exact rfl)); first | exact rfl | exact allD_mapd _) | (apply s_allocF tabZ_ok (d := 4); (iterate 6 (exact rfl)); intro locX σ hc; have hX := hc.at'; have nHX := hc.ne hH; replace hH := hc.keep hH; have oX := hK.out hc; replace hK := hK.fresh hc; clear hc) | (apply s_callS; (iterate 6 (exact rfl)); exact hg _ hK hH; rintro _ σ2 (⟨w, H2, rfl, hPr, hH2, hk2⟩ | ⟨e, rfl, hPe, hk2⟩); rotate_left; (have hXn := hX; clear hX; have hX := hk2 _ _ trivial hXn; have hK2 := hK.trans hk2; clear hXn hk2); rotate_left; (have hXn := hX; clear hX; have hX := hk2 _ _ nHX.symm hXn; have hK2 : KeptP (· ≠ locH) _ _ := hK.any.trans hk2; clear hXn hk2)) | (apply s_storeF tab_ok; (iterate 7 (exact rfl)); exact hX; (iterate 2 (exact rfl)); intro σ hc; (try (replace hH2 := hc.keep nHX hH2)); replace hK2 := hK2.chg oX.any hc; replace hX := hc.at'; clear hc) | refine al_nil ?_ | refine q_then_n ?_ | refine aw_seq ?_ | refine aw_reg ?_ | refine aw_ret ?_)
    · exact q_retB (resB_2 rfl (resV_c (t := 36) rfl rfl hX rfl) (resV_t rfl) rfl) (.inl ⟨w, H2, rfl, hPr, hH2, hK2⟩)
    · exact q_retB (resB_2 rfl (resV_c (t := 36) rfl rfl hX rfl) (resV_t rfl) rfl) (.inr ⟨e, rfl, hPe, hK2⟩)
  refine main.mono fun r σ' h => ?_
  rcases h with ⟨w, H', rfl, rfl, hH, hk⟩ | ⟨e, rfl, rfl, hk⟩
  · exact ⟨rfl, hH, hk⟩
  · exact ⟨rfl, hk _ _ trivial hH, hk.any⟩
end
end Go.Proofs.Ytciciaikajdenaa
/- N18: a world without files; package cell's drop, Drop. -/
set_option linter.unusedSimpArgs false
set_option linter.unusedVariables false
namespace Go.Proofs.Ytciciaikajdenaa
open Go.RowKit

section
variable {P : Program} {T : Tab} {nt : Nat} {Q : Exit → Fr → List AObj → Prop} {fr : Fr} {σ : List AObj} {ops : Array Oper} {dr : Bool} {dos ends : List Nat} {l : Trr} {o : Oper} {i d : Nat}
variable {ty : TypeId} {pos : String} {aft : Array Edge} {gd : Option (Nat × Bool)}
theorem rd_fptrNil {t t' : TypeId} {a : Operand} {cells : List DV} (ho : o.op = .binOp .eql t a (.const (.pointer none)) t') (hu : ∃ e, P.underlying t = some (.pointer e)) (ha : aget fr a = .d (.fptr cells)) : RdOp P o fr σ (.d (.v (.bool false))) := by
  intro k c nt A w s
  have h1 := s.arg a
  rw [ha] at h1
  obtain ⟨b, off, e1, _⟩ := h1
  obtain ⟨e, hu⟩ := hu
  refine ⟨_, ⟨rfl, rfl⟩, fun w' _ => ?_⟩
  unfold execOp
  have e2 : A.eval (.const (.pointer none)) = .pointer none := rfl
  simp [ho, e1, e2, eqGuard, run_ptr_nil (P := P) w' ⟨b, off, none⟩ hu]
theorem s_fptrNil {t t' : TypeId} {a : Operand} {cells : List DV} (hu : ∃ e, P.underlying t = some (.pointer e)) (hp : dr = dr) (hg : guardB ops fr gd = some true) (ht : Nat.blt d nt = true) (ha : aget fr a = .d (.fptr cells)) (h : AL P nt ops dr dos ends l Q ((d, .d (.v (.bool false))) :: fr) σ) : ALo P nt ops dr dos ends i ⟨some d, .binOp .eql t a (.const (.pointer none)) t', ty, pos, aft, gd⟩ l Q fr σ :=
  ⟨fun ho => s_read ho hp hg ht (rd_fptrNil rfl hu ha) h⟩
end
/-- A world without files, handles and trace. -/
def worldC : List DV := [.lst 2 [], .lst 1 [], .nil, .nil]
theorem ptr68 : ∃ e, Try.prog.underlying 68 = some (.pointer e) := ⟨137, by kernel_rfl⟩
theorem sl91 : Try.prog.underlying 91 = some (.slice 130) := by kernel_rfl
theorem sl128 : Try.prog.underlying 128 = some (.slice 4) := by kernel_rfl
theorem sl86 : Try.prog.underlying 86 = some (.slice 154) := by kernel_rfl
/-- A result that says less. -/
theorem RunsP.less {P : Program} {f : FuncId} {args : List DV} {y : DV} (h : RunsP P f args (fun v => Wk v y)) : RunsP P f args (fun v => v = y) :=
  ⟨h.1, fun B F w vs a b c => Calls.mono (h.2 B F w vs a b c) fun e w' ⟨u, v, F', h1, h2, h3, h4, h5, h6, h7, h8⟩ => ⟨u, y, F', h1, h2, h8 _ _ h3, h4, h5, h6, h7, rfl⟩⟩
set_option maxRecDepth 100000 in
theorem clone88 : RunsP Try.prog 88 [.nil] (fun v => v = .lst 2 []) := by
  refine RunsP.less ?_
  refine enterP 8 Try.func88 rfl (by kernel_rfl) rfl rfl rfl ?_
  repeat' (first | refine s_op rfl ?_ | (apply s_move; (iterate 4 (exact rfl))) | (apply s_assign; (iterate 4 (exact rfl))) | (apply s_nilSl sl91; (iterate 5 (exact rfl)); intro b; cases b) | (apply s_litO tab_ok tabZ_ok (d := 5) (m := 0); (iterate 12 (exact rfl)); intro locA σ hc; have hA := hc.at'; clear hc) | (apply s_appF tab_ok tabZ_ok (d := 7) (rows2 := []) (rows3 := []) (m := 0); (iterate 10 (exact rfl)); exact hA; exact src_of sl91 (rows_d rfl); exact rfl; (refine ⟨rfl, ?_, rfl⟩; decide); intro σ hc; replace hA := hc.at'; clear hc) | (refine w_freezeF 2 rfl hA rfl ?_; intro σ hc; clear hc hA) | refine al_nil ?_ | refine q_then_n ?_ | refine q_then_r ?_ | refine aw_seq ?_ | refine aw_reg ?_ | refine aw_true rfl ?_ | refine aw_false rfl ?_ | refine aw_skip ?_ | refine aw_ret ?_)
  all_goals exact q_ret rfl ⟨_, rfl, by first | exact Wk.nil 2 | exact Wk.refl _⟩
set_option maxRecDepth 100000 in
theorem clone89 : RunsP Try.prog 89 [.nil] (fun v => v = .lst 1 []) := by
  refine RunsP.less ?_
  refine enterP 8 Try.func89 rfl (by kernel_rfl) rfl rfl rfl ?_
  repeat' (first | refine s_op rfl ?_ | (apply s_move; (iterate 4 (exact rfl))) | (apply s_assign; (iterate 4 (exact rfl))) | (apply s_nilSl sl128; (iterate 5 (exact rfl)); intro b; cases b) | (apply s_litO tab_ok tabZ_ok (d := 5) (m := 0); (iterate 12 (exact rfl)); intro locA σ hc; have hA := hc.at'; clear hc) | (apply s_appF tab_ok tabZ_ok (d := 7) (rows2 := []) (rows3 := []) (m := 0); (iterate 10 (exact rfl)); exact hA; exact src_of sl128 (rows_d rfl); exact rfl; (refine ⟨rfl, ?_, rfl⟩; decide); intro σ hc; replace hA := hc.at'; clear hc) | (refine w_freezeF 2 rfl hA rfl ?_; intro σ hc; clear hc hA) | refine al_nil ?_ | refine q_then_n ?_ | refine q_then_r ?_ | refine aw_seq ?_ | refine aw_reg ?_ | refine aw_true rfl ?_ | refine aw_false rfl ?_ | refine aw_skip ?_ | refine aw_ret ?_)
  all_goals exact q_ret rfl ⟨_, rfl, by first | exact Wk.nil 1 | exact Wk.refl _⟩
set_option maxRecDepth 100000 in
set_option maxHeartbeats 8000000 in
theorem world_new : RunsP Try.prog 44 [.nil, .nil] (fun v => v = .tup [.fptr worldC, .v (.int .i64 0)]) := by
  refine enterPB 36 tab_ok Try.func44 rfl (by kernel_rfl) rfl rfl rfl ?_
  repeat' (first | refine s_op rfl ?_ | (apply s_move; (iterate 4 (exact rfl))) | (apply s_assign; (iterate 4 (exact rfl))) | (apply s_len tab_ok; (iterate 5 (exact rfl))) | (apply s_gtr_f; (iterate 5 (exact rfl)); omega) | refine al_nil ?_ | refine q_then_n ?_ | refine aw_block ?_ | refine aw_seq ?_ | refine aw_reg ?_ | refine aw_false rfl ?_ | refine aw_skip ?_)
  refine w_loop [0, 1, 12, 13] (fun n' vs' σ => vs' = [.d .nil, .d .nil, .d (.v (.int .i64 0)), .d (.v (.int .i64 0))] ∧ n' = 0) rfl ⟨rfl, rfl⟩ ?_
  rintro n' vs' σ ⟨rfl, rfl⟩ fr hfr
  cases hfr
  repeat' (first | refine s_op rfl ?_ | (apply s_move; (iterate 4 (exact rfl))) | (apply s_assign; (iterate 4 (exact rfl))) | (apply s_build tabZ_ok; (iterate 5 (exact rfl))) | (apply s_boxZ; (iterate 5 (exact rfl)); first | exact rfl | exact allD_mapd _) | (apply s_lss_f; (iterate 5 (exact rfl)); omega) | (apply s_call; (iterate 6 (exact rfl)); first | (exact clone88; rintro _ rfl) | (exact clone89; rintro _ rfl)) | refine al_nil ?_ | refine q_then_n ?_ | refine q_blk_e ?_ | refine q_then_e ?_ | refine aw_exit ?_ | refine aw_seq ?_ | refine aw_reg ?_ | refine aw_false rfl ?_ | refine aw_ret ?_)
  all_goals exact q_retB (resB_2 rfl (resV_t rfl) (resV_t rfl) rfl) ⟨_, rfl, rfl⟩
set_option maxRecDepth 100000 in
theorem world_find (n : Int) : RunsP Try.prog 125 [.fptr worldC, .v (.int .i64 n)] (fun v => v = .tup [.v (.pointer none), .v (.int .i64 4)]) := by
  unfold worldC
  refine enterPB 36 tab_ok Try.func125 rfl (by kernel_rfl) rfl rfl rfl ?_
  by_cases hn : n < 0
  · repeat' (first | refine s_op rfl ?_ | (apply s_skipV; (iterate 2 (exact rfl))) | (apply s_move; (iterate 4 (exact rfl))) | (apply s_assign; (iterate 4 (exact rfl))) | (apply s_pick_t; (iterate 5 (exact rfl))) | (apply s_lss_t; (iterate 5 (exact rfl)); omega) | (apply s_fptrNil ptr68; (iterate 4 (exact rfl))) | refine al_nil ?_ | refine q_then_n ?_ | refine q_blk_r ?_ | refine aw_block ?_ | refine q_then_r ?_ | refine aw_seq ?_ | refine aw_reg ?_ | refine aw_true rfl ?_ | refine aw_false rfl ?_ | refine aw_ret ?_)
    all_goals exact q_retB (resB_2 rfl (resV_t rfl) (resV_t rfl) rfl) ⟨_, rfl, rfl⟩
  · repeat' (first | refine s_op rfl ?_ | (apply s_move; (iterate 4 (exact rfl))) | (apply s_fa_f tab_ok; (iterate 6 (exact rfl))) | (apply s_ld_f tab_ok; (iterate 6 (exact rfl))) | (apply s_assign; (iterate 4 (exact rfl))) | (apply s_pick_f; (iterate 5 (exact rfl))) | (apply s_len tab_ok; (iterate 5 (exact rfl))) | (apply s_nilc; (iterate 5 (exact rfl))) | (apply s_lss_f; (iterate 5 (exact rfl)); omega) | (apply s_geq_t; (iterate 5 (exact rfl)); omega) | (apply s_fptrNil ptr68; (iterate 4 (exact rfl))) | refine al_nil ?_ | refine q_then_n ?_ | refine q_blk_r ?_ | refine aw_block ?_ | refine q_then_r ?_ | refine aw_seq ?_ | refine aw_reg ?_ | refine aw_true rfl ?_ | refine aw_false rfl ?_ | refine aw_ret ?_)
    all_goals exact q_retB (resB_2 rfl (resV_t rfl) (resV_t rfl) rfl) ⟨_, rfl, rfl⟩
set_option maxRecDepth 100000 in
theorem world_drop (n : Int) : RunsP Try.prog 123 [.fptr worldC, .v (.int .i64 n)] (fun v => v = .v (.int .i64 4)) := by
  have h := world_find n
  refine enterP 19 Try.func123 rfl (by kernel_rfl) rfl rfl rfl ?_
  repeat' (first | refine s_op rfl ?_ | (apply s_move; (iterate 4 (exact rfl))) | (apply s_assign; (iterate 4 (exact rfl))) | (apply s_ext; (iterate 5 (exact rfl))) | (apply s_eql_f; (iterate 5 (exact rfl)); omega) | (apply s_call; (iterate 6 (exact rfl)); first | (exact h; rintro _ rfl)) | refine al_nil ?_ | refine q_then_n ?_ | refine aw_seq ?_ | refine aw_reg ?_ | refine aw_false rfl ?_ | refine aw_skip ?_ | refine aw_ret ?_)
  all_goals exact q_ret rfl ⟨_, rfl, rfl⟩
end Go.Proofs.Ytciciaikajdenaa
