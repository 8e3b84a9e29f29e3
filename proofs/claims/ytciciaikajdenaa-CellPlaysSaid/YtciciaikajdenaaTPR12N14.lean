/- N14: guarded, of another type. Printed by gen_n13.py. -/
import Derived.Test.YtciciaikajdenaaTPR12N12x2
set_option linter.unusedSimpArgs false
set_option linter.unusedVariables false
namespace Go.Proofs.Ytciciaikajdenaa
open Go.RowKit

noncomputable def cat1I : Option Code := match Try.f121.body with
  | some c => findW 1 c
  | none => none
def zero66I : List AV := [.d (.v (.int .i64 0))]
section
variable {σ : List AObj} {l4 l5 : Nat} {e : Int}
set_option maxRecDepth 100000 in
set_option maxHeartbeats 8000000 in
theorem cat_awkI (h4 : σ[l4]? = some (.row 3 zero66I)) (h5 : σ[l5]? = some (.row 26 [.d (.v (.int .i64 0))])) {X : Code} (hX : cat1I = some X) :
    AWk Try.prog 20 X (endQ (CatP 3 zero66I l4 l5 e σ)) [(0, .ptr l4 0 0), (1, .ptr l5 0 0), (2, .d (.v (badV e)))] σ := by
  have hK := KeptP.refl (fun k => k ≠ l4 ∧ k ≠ l5) σ
  have n45 : l4 ≠ l5 := fun h => by rw [h, h5] at h4; cases h4
  have o4 : OutP (fun k => k ≠ l4 ∧ k ≠ l5) σ l4 := fun _ h => absurd rfl h.1
  have o5 : OutP (fun k => k ≠ l4 ∧ k ≠ l5) σ l5 := fun _ h => absurd rfl h.2
  unfold zero66I at h4 ⊢
  unfold badV
  cases hX
  repeat' (first | refine s_op rfl ?_ | (apply s_move; (iterate 4 (exact rfl))) | (apply s_fa_p tab_ok; (iterate 5 (exact rfl))) | (apply s_assign; (iterate 4 (exact rfl))) | (apply s_ext; (iterate 5 (exact rfl))) | (apply s_not_t; (iterate 4 (exact rfl))) | (apply s_held badH; (iterate 4 (exact rfl))) | (apply s_assertOk badU; (iterate 4 (exact rfl)); exact badD _) | (apply s_allocF tabZ_ok (d := 3); (iterate 6 (exact rfl)); intro locY σ hc; have hY := hc.at'; have n4Y := hc.ne h4; replace h4 := hc.keep h4; have n5Y := hc.ne h5; replace h5 := hc.keep h5; have oY := hK.out hc; replace hK := hK.fresh hc; clear hc) | (apply s_storeF tab_ok; (iterate 7 (exact rfl)); exact hY; (iterate 2 (exact rfl)); intro σ hc; replace hY := hc.at'; replace h4 := hc.keep (by first | assumption | (apply Ne.symm; assumption) | omega) h4; replace h5 := hc.keep (by first | assumption | (apply Ne.symm; assumption) | omega) h5; replace hK := hK.chg oY hc; clear hc) | (apply s_storeF tab_ok; (iterate 7 (exact rfl)); exact h4; (iterate 2 (exact rfl)); intro σ hc; replace h4 := hc.at'; replace h5 := hc.keep (by first | assumption | (apply Ne.symm; assumption) | omega) h5; replace hY := hc.keep (by first | assumption | (apply Ne.symm; assumption) | omega) hY; replace hK := hK.chg o4 hc; clear hc) | (apply s_storeF tab_ok; (iterate 7 (exact rfl)); exact h5; (iterate 2 (exact rfl)); intro σ hc; replace h5 := hc.at'; replace h4 := hc.keep (by first | assumption | (apply Ne.symm; assumption) | omega) h4; replace hY := hc.keep (by first | assumption | (apply Ne.symm; assumption) | omega) hY; replace hK := hK.chg o5 hc; clear hc) | (apply s_ldF tab_ok; (iterate 5 (exact rfl)); exact hY; exact rfl) | refine al_nil ?_ | refine q_then_n ?_ | refine aw_seq ?_ | refine aw_reg ?_ | refine aw_false rfl ?_ | refine aw_skip ?_ | refine al_fork ?_ ?_ | refine aw_draws (id := 6) (trO [0, 1] (.fork 2 (trO [3, 4] .nil) 3 (trO [2, 4] .nil))) [2, 3, 4] [3, 4] mixed_ok (by kernel_rfl) ?_)
  all_goals exact ⟨h4, h5, hK⟩
set_option maxRecDepth 100000 in
set_option maxHeartbeats 8000000 in
theorem idle_awkI {X : Code} (hX : cat1I = some X) :
    AWk Try.prog 20 X (endQ (· = σ)) [(0, .ptr l4 0 0), (1, .ptr l5 0 0), (2, .d (.v .nilIface))] σ := by
  cases hX
  repeat' (first | refine s_op rfl ?_ | (apply s_move; (iterate 4 (exact rfl))) | (apply s_nils badH; (iterate 4 (exact rfl))) | refine al_nil ?_ | refine q_then_n ?_ | refine q_then_r ?_ | refine aw_seq ?_ | refine aw_reg ?_ | refine aw_true rfl ?_ | refine aw_ret ?_)
  all_goals exact rfl
end
section
variable {σ : List AObj} {l4 l5 : Nat} {e : Int} {B : Base} {R : Frag} {x : Ctx} {w : World} {q4 q5 : Addr}
set_option maxRecDepth 100000 in
set_option maxHeartbeats 8000000 in
theorem cat_panicI (hh : Heap x σ R w) (hc : Calm B w) (r4 : ARep x (.ptr l4 0 0) (.pointer (some q4))) (r5 : ARep x (.ptr l5 0 0) (.pointer (some q5))) (h4 : σ[l4]? = some (.row 3 zero66I)) (h5 : σ[l5]? = some (.row 26 [.d (.v (.int .i64 0))])) :
    CallsD Try.prog 121 #[.pointer (some q4), .pointer (some q5)] (.panicking (chainOf (badV e))) w fun en u' w' => en = .returned (.tuple #[]) ∧ u' = .panicking [{ v := badV e, recovered := true }] ∧ MemX B R x (CatP 3 zero66I l4 l5 e σ) w' := by
  refine callsD_of_wpS Try.func121 rfl fun c₀ cs hu => ?_
  apply wpS_seq
  apply wpS_region
  unfold chainOf at hu
  simp [wpOpsS, go_sem, recoverD, hu, Try.ntmps121, Exit.thenS]
  refine wpS_of_wp ?_
  refine wp_mono ((cat_awkI (e := e) h4 h5 rfl).out ⟨B, R, []⟩ x _ w ?_) ?_
  · refine ⟨by simp, rfl, fun i => ?_, hh, hc⟩
    match i with
    | 0 => exact (show ARep x (.ptr l4 0 0) _ from by simpa using r4)
    | 1 => exact (show ARep x (.ptr l5 0 0) _ from by simpa using r5)
    | 2 => exact ⟨by simp, rfl⟩
    | n + 3 => exact trivial
  · intro en A w' p
    cases en with
    | normal =>
      obtain ⟨x', fr, σ', hx, hs, hN⟩ := p
      exact ⟨hs.defers, _, rfl, .tuple #[], by simp [results, Try.results121], rfl, rfl, x', σ', hx, hs.heap, hs.calm, hN⟩
    | ret =>
      obtain ⟨x', fr, σ', hx, hs, hN⟩ := p
      exact ⟨hs.defers, _, rfl, .tuple #[], by simp [results, Try.results121], rfl, rfl, x', σ', hx, hs.heap, hs.calm, hN⟩
    | exit i => obtain ⟨x', fr, σ', hx, hs, hN⟩ := p; exact hN.elim
    | goto i => obtain ⟨x', fr, σ', hx, hs, hN⟩ := p; exact hN.elim
    | panic ch => obtain ⟨_, x', σ', hx, _, _, hN⟩ := p; exact hN.elim
    | outgrown => exact p.elim
set_option maxRecDepth 100000 in
set_option maxHeartbeats 8000000 in
theorem cat_idleI (hh : Heap x σ R w) (hc : Calm B w) (r4 : ARep x (.ptr l4 0 0) (.pointer (some q4))) (r5 : ARep x (.ptr l5 0 0) (.pointer (some q5))) :
    CallsD Try.prog 121 #[.pointer (some q4), .pointer (some q5)] .returning w fun en u' w' => en = .returned (.tuple #[]) ∧ u' = .returning ∧ MemX B R x (· = σ) w' := by
  refine callsD_of_wpS Try.func121 rfl fun c₀ cs hu => ?_
  apply wpS_seq
  apply wpS_region
  simp [wpOpsS, go_sem, recoverD, hu, Try.ntmps121, Exit.thenS]
  refine wpS_of_wp ?_
  refine wp_mono ((idle_awkI (σ := σ) (l4 := l4) (l5 := l5) rfl).out ⟨B, R, []⟩ x _ w ?_) ?_
  · refine ⟨by simp, rfl, fun i => ?_, hh, hc⟩
    match i with
    | 0 => exact (show ARep x (.ptr l4 0 0) _ from by simpa using r4)
    | 1 => exact (show ARep x (.ptr l5 0 0) _ from by simpa using r5)
    | 2 => exact ⟨by simp, rfl⟩
    | n + 3 => exact trivial
  · intro en A w' p
    cases en with
    | normal =>
      obtain ⟨x', fr, σ', hx, hs, hN⟩ := p
      exact ⟨hs.defers, _, by rw [← hu], .tuple #[], by simp [results, Try.results121], rfl, rfl, x', σ', hx, hs.heap, hs.calm, hN⟩
    | ret =>
      obtain ⟨x', fr, σ', hx, hs, hN⟩ := p
      exact ⟨hs.defers, _, by rw [← hu], .tuple #[], by simp [results, Try.results121], rfl, rfl, x', σ', hx, hs.heap, hs.calm, hN⟩
    | exit i => obtain ⟨x', fr, σ', hx, hs, hN⟩ := p; exact hN.elim
    | goto i => obtain ⟨x', fr, σ', hx, hs, hN⟩ := p; exact hN.elim
    | panic ch => obtain ⟨_, x', σ', hx, _, _, hN⟩ := p; exact hN.elim
    | outgrown => exact p.elim
end

noncomputable def grd4I : Option (Array Oper) := match Try.f96.body with
  | some c => match findW 4 c with
    | some (.seq (.region _ ops _) _) => some ops
    | _ => none
  | none => none
noncomputable def grd0I : Option (Code × Code) := match Try.f96.body with
  | some (.seq a (.seq b _)) => some (a, b)
  | _ => none
section
variable {σ : List AObj} {locH l4 l5 gd : Nat} {c : AV} {H : AHeap} {Pr : Int → AHeap → Prop} {Pe : Int → Prop}
/-- The contract of what is guarded. -/
def DoesVI (gd : Nat) (c : AV) (locH : Nat) (Pr : Int → AHeap → Prop) (Pe : Int → Prop) (σ : List AObj) : Prop :=
  ∀ (σ1 : List AObj) (locW locM : Nat), KeptP (fun _ => True) σ σ1 → OutP (fun _ => True) σ locW → OutP (fun _ => True) σ locM → σ1[locW]? = some (walkO locH locM false) → σ1[locM]? = some (seenO []) →
    RunsX Try.prog gd [.ptr locW 0 0, c] σ1 (fun r σ2 => ∃ v H', r = .d (.v (.int .i64 v)) ∧ Pr v H' ∧ σ2[locH]? = some (ho H') ∧ KeptP (fun k => k ≠ locH ∧ k ≠ locW ∧ k ≠ locM) σ1 σ2) (fun pv σ2 => ∃ e, pv = badV e ∧ Pe e ∧ KeptP (fun k => k ≠ locW ∧ k ≠ locM) σ1 σ2)
def grd4QI (l4 l5 locH : Nat) (Pr : Int → AHeap → Prop) (Pe : Int → Prop) (σ : List AObj) : Exit → Fr → List AObj → Prop
  | .normal, _, σ' => ∃ v H', Pr v H' ∧ σ'[l4]? = some (.row 3 [.d (.v (.int .i64 v))]) ∧ σ'[l5]? = some (cell26 0) ∧ σ'[locH]? = some (ho H') ∧ KeptP (fun k => k ≠ locH ∧ k ≠ l4 ∧ k ≠ l5) σ σ'
  | .panic ch, _, σ' => ∃ e, ch = chainOf (badV e) ∧ Pe e ∧ σ'[l4]? = some (.row 3 zero66I) ∧ σ'[l5]? = some (cell26 0) ∧ KeptP (fun _ => True) σ σ'
  | _, _, _ => False
theorem q_g4pI {ch : List PanicEntry} {fr : Fr} {σ' : List AObj} {e : Int} (h : ch = chainOf (badV e)) (h2 : Pe e) (h3 : σ'[l4]? = some (.row 3 zero66I)) (h4 : σ'[l5]? = some (cell26 0)) (h5 : KeptP (fun _ => True) σ σ') : grd4QI l4 l5 locH Pr Pe σ (.panic ch) fr σ' := ⟨e, h, h2, h3, h4, h5⟩
set_option maxRecDepth 100000 in
set_option maxHeartbeats 8000000 in
theorem grd_alI {σ0 : List AObj} (hd : DoesVI gd c locH Pr Pe σ0) (n45 : l4 ≠ l5) (nH4 : locH ≠ l4) (nH5 : locH ≠ l5) (hH : σ0[locH]? = some (ho H)) (h4 : σ0[l4]? = some (.row 3 zero66I)) (h5 : σ0[l5]? = some (cell26 0)) {ops : Array Oper} (hX : grd4I = some ops) {fr : Fr} (hfr : fr = [(0, .ptr locH 0 0), (1, .clo (.func gd) [] [c]), (4, .ptr l4 0 0), (5, .ptr l5 0 0)]) :
    AL Try.prog 16 ops false [] [] (trOf (List.range ops.size)) (grd4QI l4 l5 locH Pr Pe σ0) fr σ0 := by
  have hK := KeptP.refl (fun _ => True) σ0
  unfold DoesVI at hd
  unfold zero66I cell26 at *
  subst hfr
  cases hX
  repeat' (first | refine s_op rfl ?_ | (apply s_move; (iterate 4 (exact rfl))) | (apply s_build tabZ_ok; (iterate 5 (exact rfl))) | (apply s_makeMapF (Value.int .i64 : Int → Value) (d := 12); (iterate 4 (exact rfl)); intro locM σ hc; have hM := hc.at'; have nHM := hc.ne hH; replace hH := hc.keep hH; have n4M := hc.ne h4; replace h4 := hc.keep h4; have n5M := hc.ne h5; replace h5 := hc.keep h5; have oM := hK.out hc; replace hK := hK.fresh hc; clear hc) | (apply s_boxF; (iterate 6 (exact rfl)); intro locW σ hc; have hW := hc.at'; have nHW := hc.ne hH; replace hH := hc.keep hH; have n4W := hc.ne h4; replace h4 := hc.keep h4; have n5W := hc.ne h5; replace h5 := hc.keep h5; have nMW := hc.ne hM; replace hM := hc.keep hM; have oW := hK.out hc; replace hK := hK.fresh hc; clear hc) | (apply s_callX; (iterate 6 (exact rfl)); exact hd _ _ _ hK oW oM hW hM; rotate_left; rintro _ σ2 ⟨e, rfl, hPe, hk2⟩; exact q_g4pI rfl hPe (hk2 _ _ ⟨n4W, n4M⟩ h4) (hk2 _ _ ⟨n5W, n5M⟩ h5) (fun k o hp ho => hk2 k o ⟨fun q => oW o trivial (q ▸ ho), fun q => oM o trivial (q ▸ ho)⟩ (hK k o hp ho)); rintro _ σ2 ⟨v, H2, rfl, hPr, hH2, hk2⟩; have h4 := hk2 _ _ ⟨nH4.symm, n4W, n4M⟩ h4; have h5 := hk2 _ _ ⟨nH5.symm, n5W, n5M⟩ h5; have hK2 : KeptP (fun k => k ≠ locH ∧ k ≠ l4 ∧ k ≠ l5) σ0 σ2 := fun k o hp ho => hk2 k o ⟨hp.1, fun q => oW o trivial (q ▸ ho), fun q => oM o trivial (q ▸ ho)⟩ (hK k o trivial ho)) | (apply s_storeF tab_ok; (iterate 7 (exact rfl)); exact h4; (iterate 2 (exact rfl)); intro σ hc; replace h4 := hc.at'; replace h5 := hc.keep n45.symm h5; replace hH2 := hc.keep nH4 hH2; replace hK2 := hK2.chg (fun _ h => absurd rfl h.2.1) hc; clear hc) | (apply s_storeF tab_ok; (iterate 7 (exact rfl)); exact h5; (iterate 2 (exact rfl)); intro σ hc; replace h5 := hc.at'; replace h4 := hc.keep n45 h4; replace hH2 := hc.keep nH5 hH2; replace hK2 := hK2.chg (fun _ h => absurd rfl h.2.2) hc; clear hc) | refine al_nil ?_)
  all_goals exact ⟨v, H2, hPr, h4, h5, hH2, hK2⟩
theorem DoesVI.ext {σ1 : List AObj} (h : DoesVI gd c locH Pr Pe σ) (hk : KeptP (fun _ => True) σ σ1) : DoesVI gd c locH Pr Pe σ1 :=
  fun σ2 locW locM k o1 o2 h1 h2 => h σ2 locW locM (hk.trans k) (fun o _ e => o1 o trivial (hk _ _ trivial e)) (fun o _ e => o2 o trivial (hk _ _ trivial e)) h1 h2
def grdNI (σ : List AObj) (locH gd : Nat) (c : AV) : Fr → List AObj → Prop := fun fr σ1 => ∃ l4 l5, fget fr 0 = .ptr locH 0 0 ∧ fget fr 1 = .clo (.func gd) [] [c] ∧ fget fr 4 = .ptr l4 0 0 ∧ fget fr 5 = .ptr l5 0 0 ∧ σ1[l4]? = some (.row 3 zero66I) ∧ σ1[l5]? = some (cell26 0) ∧ KeptP (fun _ => True) σ σ1 ∧ OutP (fun _ => True) σ l4 ∧ OutP (fun _ => True) σ l5 ∧ l4 ≠ l5
set_option maxRecDepth 100000 in
set_option maxHeartbeats 8000000 in
theorem grd_a0I {A B : Code} (hX : grd0I = some (A, B)) : AWk Try.prog 16 A (nextQ (grdNI σ locH gd c)) (frameOf [.ptr locH 0 0, .clo (.func gd) [] [c]] 0) σ := by
  have hK := KeptP.refl (fun _ => True) σ
  have e : frameOf [.ptr locH 0 0, .clo (.func gd) [] [c]] 0 = [(0, .ptr locH 0 0), (1, .clo (.func gd) [] [c])] := rfl
  rw [e]
  cases hX
  repeat' (first | refine s_op rfl ?_ | (apply s_allocF tabZ_ok (d := 4); (iterate 6 (exact rfl)); intro loc4 σ hc; have h4 := hc.at'; have o4 := hK.out hc; replace hK := hK.fresh hc; clear hc) | (apply s_allocF tabZ_ok (d := 5); (iterate 6 (exact rfl)); intro loc5 σ hc; have h5 := hc.at'; have n45 := hc.ne h4; replace h4 := hc.keep h4; have o5 := hK.out hc; replace hK := hK.fresh hc; clear hc) | refine al_nil ?_ | refine aw_reg ?_)
  all_goals exact ⟨_, _, rfl, rfl, rfl, rfl, h4, h5, hK, o4, o5, n45⟩
set_option maxRecDepth 100000 in
set_option maxHeartbeats 8000000 in
theorem grd_a1I {A B : Code} (hX : grd0I = some (A, B)) {fr : Fr} {σ1 : List AObj} (hN : grdNI σ locH gd c fr σ1) : AWk Try.prog 16 B (nextQ (grdNI σ locH gd c)) fr σ1 := by
  obtain ⟨l4, l5, e0, e1, e4, e5, h4, h5, hK, o4, o5, n45⟩ := hN
  cases hX
  refine w_keep [0, 1, 4, 5] (vs := [.ptr locH 0 0, .clo (.func gd) [] [c], .ptr l4 0 0, .ptr l5 0 0]) (by simp [getO, e0, e1, e4, e5, forceAV]) rfl ?_
  clear e0 e1 e4 e5
  repeat' (first | refine s_op rfl ?_ | (apply s_move; (iterate 4 (exact rfl))) | (apply s_ptrNil ptr25; (iterate 4 (exact rfl))) | refine al_nil ?_ | refine q_then_n ?_ | refine aw_seq ?_ | refine aw_reg ?_ | refine aw_false rfl ?_ | refine aw_skip ?_)
  all_goals exact ⟨_, _, rfl, rfl, rfl, rfl, h4, h5, hK, o4, o5, n45⟩
end
section
variable {σ : List AObj} {locH gd : Nat} {c : AV} {H : AHeap} {Pr : Int → AHeap → Prop} {Pe : Int → Prop}
/-- What guarded answers. -/
def GrdVI (locH : Nat) (Pr : Int → AHeap → Prop) (Pe : Int → Prop) (σ : List AObj) : AV → List AObj → Prop := fun r σ' =>
  (∃ v H', r = .d (.tup [.v (.int .i64 v), .v (.int .i64 0)]) ∧ Pr v H' ∧ σ'[locH]? = some (ho H') ∧ KeptP (· ≠ locH) σ σ') ∨ ∃ e, r = .d (.tup [.v (.int .i64 0), .v (.int .i64 e)]) ∧ Pe e ∧ KeptP (fun _ => True) σ σ'
set_option maxRecDepth 100000 in
set_option maxHeartbeats 8000000 in
theorem guarded_vI (hd : DoesVI gd c locH Pr Pe σ) (hH : σ[locH]? = some (ho H)) : Runs Try.prog 96 [.ptr locH 0 0, .clo (.func gd) [] [c]] σ (GrdVI locH Pr Pe σ) := by
  refine ⟨by kernel_rfl, fun B R x w vs ha hh hc => ?_⟩
  refine calls_of_wp_defers Try.func96 rfl ?_
  have hl := ha.len
  have s : Sim ⟨B, R, []⟩ x 16 (frameOf [.ptr locH 0 0, .clo (.func gd) [] [c]] 0) σ { tmps := vs.toArray ++ Array.replicate (Try.f96.ntmps - vs.toArray.size) undef, defers := [] } w := by
    refine ⟨by rw [Try.ntmps96]; simp at hl ⊢; omega, rfl, fun i => ?_, hh, hc⟩
    have := frame_rep (Array.replicate (Try.f96.ntmps - vs.toArray.size) undef) #[] ha i
    simpa using this
  generalize ({ tmps := vs.toArray ++ Array.replicate (Try.f96.ntmps - vs.toArray.size) undef, defers := [] } : Act) = A0 at s
  refine wp_first s (grd_a0I rfl) fun x1 fr1 σ1 A1 w1 hx1 s1 hN1 => ?_
  refine wp_first s1 (grd_a1I rfl hN1) fun x2 fr2 σ2 A2 w2 hx2 s2 hN2 => ?_
  obtain ⟨l4, l5, e0, e1, e4, e5, h4, h5, hK, o4, o5, n45⟩ := hN2
  refine wp_defers s2 (by decide) e4 e5 fun A3 q4 q5 d hd1 hd2 r4 r5 s3 => ?_
  have hg : Ghost ((9, .any) :: fr2) σ2 [(0, .ptr locH 0 0), (1, .clo (.func gd) [] [c]), (4, .ptr l4 0 0), (5, .ptr l5 0 0)] σ2 := ghost_frame fun i => by
    match i with
    | 0 => exact .inl e0.symm
    | 1 => exact .inl e1.symm
    | 4 => exact .inl e4.symm
    | 5 => exact .inl e5.symm
    | 2 | 3 => exact .inr rfl
    | n + 6 => exact .inr rfl
  obtain ⟨x4, hx4, s4⟩ := hg _ _ _ _ _ s3
  have nH4 : locH ≠ l4 := fun h => o4 _ trivial (h ▸ hH)
  have nH5 : locH ≠ l5 := fun h => o5 _ trivial (h ▸ hH)
  have hw := walkW_ops _ _ _ ((grd_alI (hd.ext hK) n45 nH4 nH5 (hK _ _ trivial hH) h4 h5 rfl rfl).out _ _ _ _ s4)
  have t4 := s4.tmps 4
  have t5 := s4.tmps 5
  have hw4 := wpOps_keep (t := 4) (fun i o ho => by
    match i with
    | 0 | 1 | 2 | 3 | 4 | 5 | 6 | 7 => injection ho with ho; subst ho; decide
    | n + 8 => cases ho) _ A3 w2 rfl hw
  have hw5 := wpOps_keep (t := 5) (fun i o ho => by
    match i with
    | 0 | 1 | 2 | 3 | 4 | 5 | 6 | 7 => injection ho with ho; subst ho; decide
    | n + 8 => cases ho) _ A3 w2 rfl hw4
  have hkeep : ∀ (A' : Act), A'.tmps[4]? = A3.tmps[4]? → A'.tmps[5]? = A3.tmps[5]? → A'.tmps.getD 4 undef = A3.tmps.getD 4 undef ∧ A'.tmps.getD 5 undef = A3.tmps.getD 5 undef := fun A' a b => by
    simp only [Array.getD_eq_getD_getElem?, a, b, and_self]
  obtain ⟨dt, da⟩ := d
  simp only at hd1 hd2
  subst hd1 hd2
  refine wp_seq (wp_mono (wp_region hw5) fun e A' w' p => ?_)
  cases e with
  | normal =>
    obtain ⟨⟨⟨x5, fr5, σ5, hx5, s5, v, H', hPr, g4, g5, gH, gK⟩, k4⟩, k5⟩ := p
    obtain ⟨kk4, kk5⟩ := hkeep A' (k4.resolve_left (by simp)) (k5.resolve_left (by simp))
    refine wp_ret ?_
    show Leaves Try.prog Try.f96 A'.tmps _ A'.defers .returning w'
    rw [s5.defers]
    refine leaves_cons (f := 121) (args := #[.pointer (some q4), .pointer (some q5)]) (by simp) (by simp [go_sem]) ?_
    refine (cat_idleI (l4 := l4) (l5 := l5) s5.heap s5.calm (r4.ext (hx4.trans hx5)) (r5.ext (hx4.trans hx5))).mono ?_
    rintro en u' w'' ⟨rfl, rfl, x6, σ6, hx6, hh6, hc6, rfl⟩
    obtain ⟨u, hu1, hu2⟩ := res_two (fn := Try.f96) (T0 := 3) (by rfl) rfl (tmps := A'.tmps) (by rw [kk4]; exact t4.ext (hx5.trans hx6)) (by rw [kk5]; exact t5.ext (hx5.trans hx6)) hh6 hc6 g4 (v := .d (.v (.int .i64 v))) (rfl) g5
    exact ⟨u, hu1, u, _, x6, _, rfl, (((hx1.trans hx2).trans hx4).trans hx5).trans hx6, hu2, hh6, hc6, .inl ⟨v, H', rfl, hPr, gH, fun k o hp ho => gK k o ⟨hp, fun q => o4 o trivial (q ▸ ho), fun q => o5 o trivial (q ▸ ho)⟩ (hK k o trivial ho)⟩⟩
  | panic ch =>
    obtain ⟨⟨⟨hdf, x5, σ5, hx5, hh5, hc5, e, rfl, hPe, g4, g5, gK⟩, k4⟩, k5⟩ := p
    obtain ⟨kk4, kk5⟩ := hkeep A' (k4.resolve_left (by simp)) (k5.resolve_left (by simp))
    show Leaves Try.prog Try.f96 A'.tmps _ A'.defers (.panicking (chainOf (badV e))) w'
    rw [hdf]
    refine leaves_cons (f := 121) (args := #[.pointer (some q4), .pointer (some q5)]) (by simp) (by simp [go_sem]) ?_
    refine (cat_panicI hh5 hc5 (r4.ext (hx4.trans hx5)) (r5.ext (hx4.trans hx5)) g4 g5).mono ?_
    rintro en u' w'' ⟨rfl, rfl, x6, σ6, hx6, hh6, hc6, c4, c5, cK⟩
    obtain ⟨u, hu1, hu2⟩ := res_two (fn := Try.f96) (T0 := 3) (by rfl) rfl (tmps := A'.tmps) (by rw [kk4]; exact t4.ext (hx5.trans hx6)) (by rw [kk5]; exact t5.ext (hx5.trans hx6)) hh6 hc6 c4 rfl (e := e) c5
    exact ⟨u, hu1, u, _, x6, σ6, rfl, (((hx1.trans hx2).trans hx4).trans hx5).trans hx6, hu2, hh6, hc6, .inr ⟨e, rfl, hPe, fun k o hp ho => cK k o ⟨fun q => o4 o trivial (q ▸ ho), fun q => o5 o trivial (q ▸ ho)⟩ (gK k o trivial (hK k o trivial ho))⟩⟩
  | ret => obtain ⟨⟨⟨_, _, _, _, _, hN⟩, _⟩, _⟩ := p; exact hN.elim
  | exit i => obtain ⟨⟨⟨_, _, _, _, _, hN⟩, _⟩, _⟩ := p; exact hN.elim
  | goto i => obtain ⟨⟨⟨_, _, _, _, _, hN⟩, _⟩, _⟩ := p; exact hN.elim
  | outgrown => exact p.1.1.elim
end
end Go.Proofs.Ytciciaikajdenaa
