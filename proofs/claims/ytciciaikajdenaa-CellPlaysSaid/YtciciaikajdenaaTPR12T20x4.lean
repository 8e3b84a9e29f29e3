/- T20: the world of one file: Open, whole. -/
import Derived.Test.YtciciaikajdenaaTPR12T18x2
set_option linter.unusedSimpArgs false
set_option linter.unusedVariables false
namespace Go.Proofs.Ytciciaikajdenaa
open Go.RowKit

section
variable {σ0 σ : List AObj} {q : WQ} {hs : List Bool}
/-- The note, as a call that was deferred. -/
theorem note_calls {x : Ctx} {B : Base} {R : Frag} {w : World} {q4 q5 : Addr} {locO vh vt n m : Nat} {H : List (List DV)} (hh : Heap x σ R w) (hc : Calm B w) (r4 : ARep x (.ptr q.p 0 0) (.pointer (some q4))) (r5 : ARep x (.ptr locO 0 0) (.pointer (some q5)))
    (hq : q.Ok) (hO : σ[locO]? = some (opRow (m : Int) true)) (nO : NotW q locO) (hP : σ[q.p]? = some (pRow q vh vt n m)) (hH : σ[q.h]? = some (.arr 171 3 vh H)) (hT : σ[q.t]? = some (.arr 154 5 vt (oRows m))) (hm : m ≤ 1000000) :
    CallsD Try.prog 107 #[.pointer (some q4), .pointer (some q5)] .returning w fun en u' w' => u' = .returning ∧ (en = .returned (.tuple #[]) ∧ MemX B R x (NoteN q vh n m H σ) w') := by
  refine callsD_of_wp Try.func107 rfl ?_
  refine wp_mono ((note_awk hq hO nO hP hH hT hm rfl).out ⟨B, R, []⟩ x _ w ?_) ?_
  · refine ⟨by simp [Try.ntmps107], rfl, fun i => ?_, hh, hc⟩
    match i with
    | 0 => exact (show ARep x (.ptr q.p 0 0) _ from by simpa using r4)
    | 1 => exact (show ARep x (.ptr locO 0 0) _ from by simpa using r5)
    | n + 2 => exact trivial
  · intro en A w' p
    cases en with
    | normal =>
      obtain ⟨x', fr, σ', hx, hs, hN⟩ := p
      exact ⟨hs.defers, .tuple #[], by simp [results, Try.results107], rfl, x', σ', hx, hs.heap, hs.calm, hN⟩
    | ret =>
      obtain ⟨x', fr, σ', hx, hs, hN⟩ := p
      exact ⟨hs.defers, .tuple #[], by simp [results, Try.results107], rfl, x', σ', hx, hs.heap, hs.calm, hN⟩
    | exit i => obtain ⟨x', fr, σ', hx, hs, hN⟩ := p; exact hN.elim
    | goto i => obtain ⟨x', fr, σ', hx, hs, hN⟩ := p; exact hN.elim
    | panic ch => obtain ⟨_, x', σ', hx, _, _, hN⟩ := p; exact hN.elim
    | outgrown => exact p.elim
set_option maxRecDepth 100000 in
set_option maxHeartbeats 8000000 in
theorem open67 (h : PW σ q hs) (hl : hs.length ≤ 1000000) : Runs Try.prog 67 [.ptr q.p 0 0, .d (.v (.string ⟨#[97]⟩))] σ (fun r σ' => r = .d (.tup [.v (.int .i64 (hs.length : Int)), .v (.bool true)]) ∧ PW σ' q (hs ++ [false]) ∧ KeptP (NotW q) σ σ') := by
  refine ⟨by kernel_rfl, fun B R x w vs ha hh hc => ?_⟩
  refine calls_of_wp_defers Try.func67 rfl ?_
  have hll := ha.len
  have s : Sim ⟨B, R, []⟩ x 49 (frameOf [.ptr q.p 0 0, .d (.v (.string ⟨#[97]⟩))] 0) σ { tmps := vs.toArray ++ Array.replicate (Try.f67.ntmps - vs.toArray.size) undef, defers := [] } w := by
    refine ⟨by rw [Try.ntmps67]; simp at hll ⊢; omega, rfl, fun i => ?_, hh, hc⟩
    have := frame_rep (Array.replicate (Try.f67.ntmps - vs.toArray.size) undef) #[] ha i
    simpa using this
  generalize ({ tmps := vs.toArray ++ Array.replicate (Try.f67.ntmps - vs.toArray.size) undef, defers := [] } : Act) = A0 at s
  refine wp_first s (opn_a rfl) fun x1 fr1 σ1 A1 w1 hx1 s1 hN1 => ?_
  refine wp_first s1 (opn_b rfl hN1) fun x2 fr2 σ2 A2 w2 hx2 s2 hN2 => ?_
  refine wp_first s2 (opn_c rfl h hN2) fun x3 fr3 σ3 A3 w3 hx3 s3 hN3 => ?_
  obtain ⟨locO, e0, e3, e6, hO, pO, oO, hK⟩ := hN3
  refine wp_defers2 s3 (by decide) (by decide) e0 e6 fun A4 q4 q5 d hd1 hd2 r4 r5 s4 => ?_
  have hg : Ghost ((13, .any) :: fr3) σ3 [(0, .ptr q.p 0 0), (3, fName), (6, .ptr locO 0 0)] σ3 := ghost_frame fun i => by
    match i with
    | 0 => exact .inl e0.symm
    | 3 => exact .inl e3.symm
    | 6 => exact .inl e6.symm
    | 1 | 2 | 4 | 5 => exact .inr rfl
    | n + 7 => exact .inr rfl
  obtain ⟨x4, hx4, s4⟩ := hg _ _ _ _ _ s4
  have hq := h.ok
  have hw := (opn_d rfl (h.keep hK) hl pO hO (hK.of fun _ _ => trivial) (fun o _ e => oO o trivial e)).out _ _ _ _ s4
  obtain ⟨dt, da⟩ := d
  simp only at hd1 hd2
  subst hd1 hd2
  refine wp_mono hw fun e A' w' p => ?_
  cases e with
  | ret =>
    obtain ⟨x5, fr5, σ5, hx5, s5, vh, vt, e4, e5, hP5, hH5, hT5, hO5, hK5⟩ := p
    show Leaves Try.prog Try.f67 A'.tmps _ A'.defers .returning w'
    rw [s5.defers]
    refine leaves_cons (f := 107) (args := #[.pointer (some q4), .pointer (some q5)]) (by simp) (by simp [go_sem]) ?_
    refine (note_calls s5.heap s5.calm (r4.ext (hx4.trans hx5)) (r5.ext (hx4.trans hx5)) hq hO5 pO hP5 hH5 hT5 hl).mono ?_
    rintro en u' w'' ⟨rfl, rfl, x6, σ6, hx6, hh6, hc6, vt', g1, g2, g3, g4⟩
    have s6 : Sim ⟨B, R, []⟩ x6 A'.tmps.size fr5 σ6 ⟨A'.tmps, []⟩ w'' := ⟨rfl, rfl, fun i => (s5.tmps i).ext hx6, hh6, hc6⟩
    obtain ⟨u, hu1, hu2⟩ := resB_spec tab_ok s6 (fn := Try.f67) (v := .d (.tup [.v (.int .i64 (hs.length : Int)), .v (.bool true)])) (resB_2 rfl (resV_t e4) (resV_t e5) rfl)
    refine ⟨u, hu1, u, _, x6, σ6, rfl, ((((hx1.trans hx2).trans hx3).trans hx4).trans hx5).trans hx6, hu2, hh6, hc6, rfl, ⟨hq, vh, vt', ?_, g2, ?_⟩, fun k o hp ho => g4 k o hp (hK5 k o hp ho)⟩
    · unfold pRow at g1
      rw [List.length_append, List.length_singleton]
      exact g1
    · rw [List.length_append, List.length_singleton]
      exact g3
  | normal => obtain ⟨_, _, _, _, _, hN⟩ := p; exact hN.elim
  | exit i => obtain ⟨_, _, _, _, _, hN⟩ := p; exact hN.elim
  | goto i => obtain ⟨_, _, _, _, _, hN⟩ := p; exact hN.elim
  | panic ch => obtain ⟨_, _, _, _, _, _, hN⟩ := p; exact hN.elim
  | outgrown => exact p.elim
end
end Go.Proofs.Ytciciaikajdenaa
/- T21: the world of one file: New. -/
set_option linter.unusedSimpArgs false
set_option linter.unusedVariables false
namespace Go.Proofs.Ytciciaikajdenaa
open Go.RowKit

section
variable {σ : List AObj} {lc : Nat}
set_option maxRecDepth 100000 in
theorem files57 : RunsP Try.prog 57 [] (fun v => v = .lst 2 [[DV.v (.string ⟨#[97]⟩), DV.v (.string ⟨#[98]⟩)]]) := by
  refine enterP 3 Try.func57 rfl (by kernel_rfl) rfl rfl rfl ?_
  repeat' (first | refine s_op rfl ?_ | (apply s_assign; (iterate 4 (exact rfl))) | (apply s_build tabZ_ok; (iterate 5 (exact rfl))) | (apply s_lit tab_ok tabZ_ok; (iterate 10 (exact rfl))) | refine al_nil ?_ | refine q_then_n ?_ | refine aw_seq ?_ | refine aw_reg ?_ | refine aw_ret ?_)
  all_goals exact q_ret rfl ⟨_, rfl, rfl⟩
set_option maxRecDepth 100000 in
set_option maxHeartbeats 8000000 in
theorem clone88f : RunsP Try.prog 88 [.lst 2 [[DV.v (.string ⟨#[97]⟩), DV.v (.string ⟨#[98]⟩)]]] (fun v => v = .lst 2 [[DV.v (.string ⟨#[97]⟩), DV.v (.string ⟨#[98]⟩)]]) := by
  refine enterPB 8 tab_ok Try.func88 rfl (by kernel_rfl) rfl rfl rfl ?_
  repeat' (first | refine s_op rfl ?_ | (apply s_move; (iterate 4 (exact rfl))) | (apply s_assign; (iterate 4 (exact rfl))) | (apply s_nilL sl91; (iterate 5 (exact rfl))) | (apply s_lit0 tab_ok tabZ_ok; (iterate 7 (exact rfl))) | (refine o_adoptF 5 130 2 rfl ?_; intro locA σ hc; have hA := hc.at'; clear hc) | (apply s_appF tab_ok tabZ_ok (d := 7) (rows2 := [[DV.v (.string ⟨#[97]⟩), DV.v (.string ⟨#[98]⟩)]]) (rows3 := [[DV.v (.string ⟨#[97]⟩), DV.v (.string ⟨#[98]⟩)]]) (m := 1); (iterate 10 (exact rfl)); exact hA; exact src_of sl91 (rows_d rfl); exact rfl; exact ⟨rfl, by decide, rfl⟩; intro σ hc; replace hA := hc.at'; clear hc) | (refine w_freezeF 2 rfl hA rfl ?_; intro σ hc; clear hc hA) | refine al_nil ?_ | refine q_then_n ?_ | refine aw_seq ?_ | refine aw_reg ?_ | refine aw_false rfl ?_ | refine aw_skip ?_ | refine aw_ret ?_)
  all_goals exact q_retB (resB_1 rfl (resV_t rfl)) ⟨_, rfl, rfl⟩
set_option maxRecDepth 100000 in
set_option maxHeartbeats 8000000 in
theorem idx109n : Runs Try.prog 109 [.d (.lst 2 []), .clo (.func 87) [] [.ptr lc 0 0]] σ (fun r σ' => r = .d (.v (.int .i64 (-1))) ∧ σ' = σ) := by
  refine enterB 19 tab_ok Try.func109 rfl (by kernel_rfl) rfl rfl rfl ?_
  repeat' (first | refine s_op rfl ?_ | (apply s_move; (iterate 4 (exact rfl))) | (apply s_assign; (iterate 4 (exact rfl))) | (apply s_len tab_ok; (iterate 5 (exact rfl))) | refine al_nil ?_ | refine q_then_n ?_ | refine aw_block ?_ | refine aw_seq ?_ | refine aw_reg ?_)
  refine w_loop [7, 8] (fun n' vs' σ' => vs' = [.d (.v (.int .i64 0)), .d (.v (.int .i64 0))] ∧ σ' = σ ∧ n' = 1) rfl ⟨rfl, rfl, rfl⟩ ?_
  rintro n' vs' σ' ⟨rfl, rfl, rfl⟩ fr hfr
  cases hfr
  repeat' (first | refine s_op rfl ?_ | (apply s_assign; (iterate 4 (exact rfl))) | (apply s_lss_f; (iterate 5 (exact rfl)); omega) | refine al_nil ?_ | refine q_then_n ?_ | refine q_blk_e ?_ | refine q_then_e ?_ | refine aw_exit ?_ | refine aw_seq ?_ | refine aw_reg ?_ | refine aw_false rfl ?_ | refine aw_ret ?_)
  all_goals exact q_retB (resB_1 rfl (resV_t rfl)) ⟨rfl, rfl⟩
set_option maxRecDepth 100000 in
set_option maxHeartbeats 8000000 in
theorem contains86 : Runs Try.prog 86 [.d (.lst 2 []), .clo (.func 87) [] [.ptr lc 0 0]] σ (fun r σ' => r = .d (.v (.bool false)) ∧ σ' = σ) := by
  have hi := fun σ => idx109n (σ := σ) (lc := lc)
  refine enterB 9 tab_ok Try.func86 rfl (by kernel_rfl) rfl rfl rfl ?_
  repeat' (first | refine s_op rfl ?_ | (apply s_move; (iterate 4 (exact rfl))) | (apply s_assign; (iterate 4 (exact rfl))) | (apply s_geq_f; (iterate 5 (exact rfl)); omega) | (apply s_callS; (iterate 6 (exact rfl)); exact hi _; rintro _ σ2 ⟨rfl, rfl⟩) | refine al_nil ?_ | refine q_then_n ?_ | refine aw_seq ?_ | refine aw_reg ?_ | refine aw_ret ?_)
  all_goals exact q_retB (resB_1 rfl (resV_t rfl)) ⟨rfl, rfl⟩
set_option maxRecDepth 100000 in
set_option maxHeartbeats 8000000 in
theorem new44 {σ0 : List AObj} : Runs Try.prog 44 [.d (.lst 2 [[DV.v (.string ⟨#[97]⟩), DV.v (.string ⟨#[98]⟩)]]), .d .nil] σ0 (fun v σ' => ∃ q : WQ, v = .tup [.ptr q.p 0 0, .d (.v (.int .i64 0))] ∧ PW σ' q [] ∧ KeptP (fun _ => True) σ0 σ' ∧ OutP (fun _ => True) σ0 q.p ∧ OutP (fun _ => True) σ0 q.h ∧ OutP (fun _ => True) σ0 q.t) := by
  have hK := KeptP.refl (fun _ => True) σ0
  have hct := fun (σ : List AObj) (lc : Nat) => contains86 (σ := σ) (lc := lc)
  have h88 := clone88f
  have h89 := clone89
  refine enterB 36 tab_ok Try.func44 rfl (by kernel_rfl) rfl rfl rfl ?_
  repeat' (first | refine s_op rfl ?_ | (apply s_move; (iterate 4 (exact rfl))) | (apply s_assign; (iterate 4 (exact rfl))) | (apply s_len tab_ok; (iterate 5 (exact rfl))) | (apply s_gtr_f; (iterate 5 (exact rfl)); decide) | refine al_nil ?_ | refine q_then_n ?_ | refine aw_block ?_ | refine aw_seq ?_ | refine aw_reg ?_ | refine aw_false rfl ?_ | refine aw_skip ?_)
  refine w_loop [0, 1, 11, 12, 13] (fun n' vs' σ' => ∃ j : Nat, vs' = [.d (.lst 2 [[DV.v (.string ⟨#[97]⟩), DV.v (.string ⟨#[98]⟩)]]), .d .nil, .d (.lst 2 [[DV.v (.string ⟨#[97]⟩), DV.v (.string ⟨#[98]⟩)]]), .d (.v (.int .i64 1)), .d (.v (.int .i64 (j : Int)))] ∧ KeptP (fun _ => True) σ0 σ' ∧ j ≤ 1 ∧ n' = 1 - j) rfl ⟨0, rfl, hK, by omega, rfl⟩ ?_
  clear hK
  rintro n' vs' σ ⟨j, rfl, hK, hj, rfl⟩ fr hfr
  cases hfr
  by_cases hlt : j = 0
  · subst hlt
    repeat' (first | refine s_op rfl ?_ | (apply s_move; (iterate 4 (exact rfl))) | (apply s_fa_p tab_ok; (iterate 5 (exact rfl))) | (apply s_ld_f tab_ok; (iterate 6 (exact rfl))) | (apply s_assign; (iterate 4 (exact rfl))) | (apply s_pick_f; (iterate 5 (exact rfl))) | (apply s_lens str_ok; (iterate 4 (exact rfl))) | (apply s_mkf; (iterate 4 (exact rfl))) | (apply s_lss_t; (iterate 5 (exact rfl)); omega) | (apply s_add64; (iterate 5 (exact rfl)); omega) | (apply s_sliceE tab_ok (rows' := []); (iterate 8 (exact rfl)); exact ⟨by decide, by decide, by decide⟩; exact rfl) | (apply s_allocF tabZ_ok (d := 7); (iterate 6 (exact rfl)); intro locX σ hc; have hX := hc.at'; have oX := hK.out hc; replace hK := hK.fresh hc; clear hc) | (apply s_storeF tab_ok; (iterate 7 (exact rfl)); exact hX; (iterate 2 (exact rfl)); intro σ hc; replace hX := hc.at'; replace hK := hK.chg oX hc; clear hc) | (apply s_ldF tab_ok; (iterate 5 (exact rfl)); exact hX; exact rfl) | (apply s_idx (j := 0) tab_ok; (iterate 7 (exact rfl)); exact rfl) | (apply s_callS; (iterate 6 (exact rfl)); exact hct _ _; rintro _ σ2 ⟨rfl, rfl⟩) | (apply s_gtr_f; (iterate 5 (exact rfl)); decide) | refine al_nil ?_ | refine q_then_n ?_ | refine q_blk_n ?_ | refine aw_block ?_ | refine aw_seq ?_ | refine aw_reg ?_ | refine aw_true rfl ?_ | refine aw_false rfl ?_ | refine aw_skip ?_)
    all_goals exact ⟨_, _, rfl, by decide, 1, rfl, hK, by decide, rfl⟩
  · have hj1 : j = 1 := by omega
    subst hj1
    repeat' (first | refine s_op rfl ?_ | (apply s_move; (iterate 4 (exact rfl))) | (apply s_assign; (iterate 4 (exact rfl))) | (apply s_build tabZ_ok; (iterate 5 (exact rfl))) | (apply s_lss_f; (iterate 5 (exact rfl)); omega) | (apply s_boxF; (iterate 6 (exact rfl)); intro locP σ hc; have hP := hc.at'; have oP := hK.out hc; replace hK := hK.fresh hc; clear hc) | (refine w_adoptC locP 2 171 3 hP rfl ?_; intro locH σ hc; have key := hK.adopt (t := 137) oP hc; have hH := hc.arr; have nPH := hc.ne.symm; replace hP := hc.row; obtain ⟨hK, oH⟩ := key; clear hc; refine w_adoptC locP 3 154 5 hP rfl ?_; intro locT σ hc; have key := hK.adopt (t := 137) oP hc; have hT := hc.arr; have nPT := hc.ne.symm; have nHT := hc.fresh _ _ hH; replace hH := hc.keep nPH.symm hH; replace hP := hc.row; obtain ⟨hK, oT⟩ := key; clear hc) | (apply s_call; (iterate 6 (exact rfl)); first | (exact h88; rintro _ rfl) | (exact h89; rintro _ rfl)) | refine al_nil ?_ | refine q_then_n ?_ | refine q_blk_e ?_ | refine q_then_e ?_ | refine aw_exit ?_ | refine aw_seq ?_ | refine aw_reg ?_ | refine aw_false rfl ?_ | refine aw_ret ?_)
    all_goals exact q_retB (resB_2 rfl (resV_t rfl) (resV_t rfl) rfl) ⟨⟨locP, locH, locT⟩, rfl, ⟨⟨nPH, nPT, nHT⟩, 0, 0, hP, hH, hT⟩, hK, oP, oH, oT⟩
end
end Go.Proofs.Ytciciaikajdenaa
/- T22: the document's world of one file, natively. -/
set_option linter.unusedSimpArgs false
set_option linter.unusedVariables false
namespace Go.Proofs.Ytciciaikajdenaa
open Go.RowKit

def rRowH (b : Bool) : List DV := [.v (.int .i64 (if b then -1 else 0)), .v (.int .i64 0)]
def rRows (l : List Bool) : List (List DV) := l.map rRowH
theorem rRows_len (l : List Bool) : (rRows l).length = l.length := by simp [rRows]
theorem rRows_get {l : List Bool} {j : Nat} {b : Bool} (h : l[j]? = some b) : (rRows l)[j]? = some (rRowH b) := row_map (f := rRowH) h
theorem rRows_set (l : List Bool) (j : Nat) (b : Bool) : (rRows l).set j (rRowH b) = rRows (l.set j b) := by simp [rRows, List.map_set]
structure RW (σ : List AObj) (q : WQ) (hs : List Bool) : Prop where
  ok : q.Ok
  at' : ∃ (vh vt : Nat), σ[q.p]? = some (.row 157 [.d (.lst 2 [[DV.v (.string ⟨#[97]⟩), DV.v (.string ⟨#[98]⟩)]]), .d .nil, .d (.v (.int .i64 0)), .own q.h vh 2 0 hs.length, .own q.t vt 5 0 hs.length]) ∧ σ[q.h]? = some (.arr 173 2 vh (rRows hs)) ∧ σ[q.t]? = some (.arr 154 5 vt (oRows hs.length))
theorem RW.keepP {σ σ' : List AObj} {q : WQ} {hs : List Bool} {p : Nat → Prop} (h : RW σ q hs) (k : KeptP p σ σ') (h1 : p q.p) (h2 : p q.h) (h3 : p q.t) : RW σ' q hs := by
  obtain ⟨vh, vt, a, b, c⟩ := h.at'
  exact ⟨h.ok, vh, vt, k _ _ h1 a, k _ _ h2 b, k _ _ h3 c⟩
theorem RW.keep {σ σ' : List AObj} {q : WQ} {hs : List Bool} (h : RW σ q hs) (k : KeptP (fun _ => True) σ σ') : RW σ' q hs := h.keepP k trivial trivial trivial
section
variable {σ σ0 : List AObj} {q : WQ} {hs : List Bool} {vh vt : Nat}
set_option maxRecDepth 100000 in
set_option maxHeartbeats 8000000 in
theorem wrong126 (h : RW σ q hs) (hl : hs.length ≤ 1000000) (n : Int) : Runs Try.prog 126 [.ptr q.p 0 0, .d (.v (.int .i64 n))] σ (fun r σ' => r = .d (.v (.int .i64 (wrongW hs n))) ∧ σ' = σ) := by
  have e1 := rRows_len hs
  obtain ⟨vh, vt, hP, hH, hT⟩ := h.at'
  by_cases h0 : n < 0
  · have hw : wrongW hs n = 4 := by unfold wrongW; rw [if_pos (.inl h0)]
    rw [hw]
    refine enterB 25 tab_ok Try.func126 rfl (by kernel_rfl) rfl rfl rfl ?_
    repeat' (first | refine s_op rfl ?_ | (apply s_skipV; (iterate 2 (exact rfl))) | (apply s_move; (iterate 4 (exact rfl))) | (apply s_assign; (iterate 4 (exact rfl))) | (apply s_pick_t; (iterate 5 (exact rfl))) | (apply s_lss_t; (iterate 5 (exact rfl)); omega) | refine al_nil ?_ | refine q_then_n ?_ | refine q_then_r ?_ | refine aw_seq ?_ | refine aw_reg ?_ | refine aw_true rfl ?_ | refine aw_ret ?_)
    all_goals exact q_retB (resB_1 rfl (resV_t rfl)) ⟨rfl, rfl⟩
  · obtain ⟨j, rfl⟩ : ∃ j : Nat, n = (j : Int) := ⟨n.toNat, by omega⟩
    by_cases hlt : hs.length ≤ j
    · have hw : wrongW hs (j : Int) = 4 := by unfold wrongW; rw [if_pos (.inr (by omega))]
      rw [hw]
      refine enterB 25 tab_ok Try.func126 rfl (by kernel_rfl) rfl rfl rfl ?_
      repeat' (first | refine s_op rfl ?_ | (apply s_move; (iterate 4 (exact rfl))) | (apply s_fa_p tab_ok; (iterate 5 (exact rfl))) | (apply s_assign; (iterate 4 (exact rfl))) | (apply s_pick_f; (iterate 5 (exact rfl))) | (apply s_len tab_ok; (iterate 5 (exact rfl))) | (apply s_nilc; (iterate 5 (exact rfl))) | (apply s_lss_f; (iterate 5 (exact rfl)); omega) | (apply s_geq_t; (iterate 5 (exact rfl)); omega) | (apply s_ldF tab_ok; (iterate 5 (exact rfl)); exact hP; exact rfl) | refine al_nil ?_ | refine q_then_n ?_ | refine q_then_r ?_ | refine aw_seq ?_ | refine aw_reg ?_ | refine aw_true rfl ?_ | refine aw_ret ?_)
      all_goals exact q_retB (resB_1 rfl (resV_t rfl)) ⟨rfl, rfl⟩
    · obtain ⟨b, hb⟩ := getS (show j < hs.length by omega)
      cases b with
      | true =>
        have hr : (rRows hs)[j]? = some [DV.v (.int .i64 (-1)), DV.v (.int .i64 0)] := rRows_get hb
        have hw : wrongW hs (j : Int) = 220 := by unfold wrongW; rw [if_neg (by omega), Int.toNat_natCast, hb]
        rw [hw]
        refine enterB 25 tab_ok Try.func126 rfl (by kernel_rfl) rfl rfl rfl ?_
        repeat' (first | refine s_op rfl ?_ | (apply s_move; (iterate 4 (exact rfl))) | (apply s_fa_p tab_ok; (iterate 5 (exact rfl))) | (apply s_assign; (iterate 4 (exact rfl))) | (apply s_pick_f; (iterate 5 (exact rfl))) | (apply s_len tab_ok; (iterate 5 (exact rfl))) | (apply s_nilc; (iterate 5 (exact rfl))) | (apply s_lss_t; (iterate 5 (exact rfl)); omega) | (apply s_lss_f; (iterate 5 (exact rfl)); omega) | (apply s_geq_f; (iterate 5 (exact rfl)); omega) | (apply s_ldF tab_ok; (iterate 5 (exact rfl)); exact hP; exact rfl) | (apply s_idxO (j * 2) tab_ok; (iterate 7 (exact rfl)); exact hH; exact ⟨by omega, by omega⟩) | (apply s_ldA j 0 tab_ok; (iterate 5 (exact rfl)); exact hH; exact hr; omega; exact rfl) | refine al_nil ?_ | refine q_then_n ?_ | refine q_then_r ?_ | refine aw_seq ?_ | refine aw_reg ?_ | refine aw_true rfl ?_ | refine aw_false rfl ?_ | refine aw_skip ?_ | refine aw_ret ?_)
        all_goals exact q_retB (resB_1 rfl (resV_t rfl)) ⟨rfl, rfl⟩
      | false =>
        have hr : (rRows hs)[j]? = some [DV.v (.int .i64 0), DV.v (.int .i64 0)] := rRows_get hb
        have hw : wrongW hs (j : Int) = 0 := by unfold wrongW; rw [if_neg (by omega), Int.toNat_natCast, hb]
        rw [hw]
        refine enterB 25 tab_ok Try.func126 rfl (by kernel_rfl) rfl rfl rfl ?_
        repeat' (first | refine s_op rfl ?_ | (apply s_move; (iterate 4 (exact rfl))) | (apply s_fa_p tab_ok; (iterate 5 (exact rfl))) | (apply s_assign; (iterate 4 (exact rfl))) | (apply s_pick_f; (iterate 5 (exact rfl))) | (apply s_len tab_ok; (iterate 5 (exact rfl))) | (apply s_nilc; (iterate 5 (exact rfl))) | (apply s_lss_f; (iterate 5 (exact rfl)); omega) | (apply s_geq_f; (iterate 5 (exact rfl)); omega) | (apply s_ldF tab_ok; (iterate 5 (exact rfl)); exact hP; exact rfl) | (apply s_idxO (j * 2) tab_ok; (iterate 7 (exact rfl)); exact hH; exact ⟨by omega, by omega⟩) | (apply s_ldA j 0 tab_ok; (iterate 5 (exact rfl)); exact hH; exact hr; omega; exact rfl) | refine al_nil ?_ | refine q_then_n ?_ | refine aw_seq ?_ | refine aw_reg ?_ | refine aw_false rfl ?_ | refine aw_skip ?_ | refine aw_ret ?_)
        all_goals exact q_retB (resB_1 rfl (resV_t rfl)) ⟨rfl, rfl⟩
theorem wrong_zero {n : Int} (hw : wrongW hs n = 0) : ∃ j : Nat, n = (j : Int) ∧ hs[j]? = some false := by
  unfold wrongW at hw
  split at hw
  · cases hw
  · rename_i h1
    refine ⟨n.toNat, by omega, ?_⟩
    split at hw
    · cases hw
    · rename_i h2; exact h2
    · cases hw
set_option maxRecDepth 100000 in
set_option maxHeartbeats 8000000 in
theorem drop124 (h : RW σ q hs) (hl : hs.length ≤ 1000000) (n : Int) : Runs Try.prog 124 [.ptr q.p 0 0, .d (.v (.int .i64 n))] σ (fun r σ' => r = .d (.v (.int .i64 (wrongW hs n))) ∧ RW σ' q (dropW hs n) ∧ KeptP (NotW q) σ σ') := by
  have hK := KeptP.refl (NotW q) σ
  have hq := h.ok
  have hf := fun (σ : List AObj) (h : RW σ q hs) => wrong126 h hl n
  have e1 := rRows_len hs
  obtain ⟨vh, vt, hP, hH, hT⟩ := h.at'
  have oH : OutP (NotW q) σ q.h := fun _ h => absurd rfl h.2.1
  by_cases hw : wrongW hs n = 0
  · have hd : dropW hs n = hs.set n.toNat true := by unfold dropW; rw [if_pos hw]
    obtain ⟨j, rfl, hb⟩ := wrong_zero hw
    rw [hw] at hf
    rw [hd, hw]
    have hr : (rRows hs)[j]? = some [DV.v (.int .i64 0), DV.v (.int .i64 0)] := rRows_get hb
    have hset : (rRows hs).set j (spliceL [DV.v (.int .i64 0), DV.v (.int .i64 0)] 0 [DV.v (.int .i64 (-1))]) = rRows (hs.set j true) := rRows_set hs j true
    have hlen : (hs.set j true).length = hs.length := List.length_set
    have hjl := (List.getElem?_eq_some_iff.1 hb).1
    rw [Int.toNat_natCast]
    refine enterB 19 tab_ok Try.func124 rfl (by kernel_rfl) rfl rfl rfl ?_
    repeat' (first | refine s_op rfl ?_ | (apply s_move; (iterate 4 (exact rfl))) | (apply s_fa_p tab_ok; (iterate 5 (exact rfl))) | (apply s_assign; (iterate 4 (exact rfl))) | (apply s_nilc; (iterate 5 (exact rfl))) | (apply s_eql_t; (iterate 5 (exact rfl)); omega) | (apply s_ldF tab_ok; (iterate 5 (exact rfl)); exact hP; exact rfl) | (apply s_callS; (iterate 6 (exact rfl)); exact hf _ h; rintro _ σ2 ⟨rfl, rfl⟩) | (apply s_idxO (j * 2) tab_ok; (iterate 7 (exact rfl)); exact hH; exact ⟨by omega, by omega⟩) | (apply s_stA j 0 tab_ok; (iterate 8 (exact rfl)); exact hH; exact hr; omega; omega; exact hset; intro σ hc; replace hH := hc.at'; replace hP := hc.keep hq.ph hP; replace hT := hc.keep hq.ht.symm hT; replace hK := hK.chg oH hc; clear hc h) | refine al_nil ?_ | refine q_then_n ?_ | refine aw_seq ?_ | refine aw_reg ?_ | refine aw_true rfl ?_ | refine aw_ret ?_)
    all_goals exact q_retB (resB_1 rfl (resV_t rfl)) ⟨rfl, ⟨hq, vh, vt, by (rw [hlen]; exact hP), hH, by (rw [hlen]; exact hT)⟩, hK⟩
  · have hd : dropW hs n = hs := by unfold dropW; rw [if_neg hw]
    rw [hd]
    generalize wrongW hs n = e at *
    refine enterB 19 tab_ok Try.func124 rfl (by kernel_rfl) rfl rfl rfl ?_
    repeat' (first | refine s_op rfl ?_ | (apply s_move; (iterate 4 (exact rfl))) | (apply s_assign; (iterate 4 (exact rfl))) | (apply s_eql_f; (iterate 5 (exact rfl)); omega) | (apply s_callS; (iterate 6 (exact rfl)); exact hf _ h; rintro _ σ2 ⟨rfl, rfl⟩) | refine al_nil ?_ | refine q_then_n ?_ | refine aw_seq ?_ | refine aw_reg ?_ | refine aw_false rfl ?_ | refine aw_skip ?_ | refine aw_ret ?_)
    all_goals exact q_retB (resB_1 rfl (resV_t rfl)) ⟨rfl, h, hK⟩
set_option maxRecDepth 100000 in
theorem fail111 {x3 x4 : AV} (hP : σ[q.p]? = some (.row 157 [.d (.lst 2 [[DV.v (.string ⟨#[97]⟩), DV.v (.string ⟨#[98]⟩)]]), .d .nil, .d (.v (.int .i64 0)), x3, x4])) : Runs Try.prog 111 [.ptr q.p 0 0] σ (fun r σ' => r = .d (.v (.bool false)) ∧ σ' = σ) := by
  refine enterB 31 tab_ok Try.func111 rfl (by kernel_rfl) rfl rfl rfl ?_
  repeat' (first | refine s_op rfl ?_ | (apply s_move; (iterate 4 (exact rfl))) | (apply s_fa_p tab_ok; (iterate 5 (exact rfl))) | (apply s_assign; (iterate 4 (exact rfl))) | (apply s_len tab_ok; (iterate 5 (exact rfl))) | (apply s_nilc; (iterate 5 (exact rfl))) | (apply s_geq_t; (iterate 5 (exact rfl)); omega) | (apply s_ldF tab_ok; (iterate 5 (exact rfl)); exact hP; exact rfl) | refine al_nil ?_ | refine q_then_n ?_ | refine q_then_r ?_ | refine aw_seq ?_ | refine aw_reg ?_ | refine aw_true rfl ?_ | refine aw_ret ?_ | refine aw_draws (id := 1) (trO [0, 1, 2, 3, 4, 5, 6, 7, 8, 9] .nil) [] [] mixed_ok (by kernel_rfl) ?_)
  all_goals exact q_retB (resB_1 rfl (resV_t rfl)) ⟨rfl, rfl⟩
set_option maxRecDepth 100000 in
set_option maxHeartbeats 8000000 in
theorem did112 {m n : Nat} {HR : List (List DV)} (hq : q.Ok) (hP : σ[q.p]? = some (.row 157 [.d (.lst 2 [[DV.v (.string ⟨#[97]⟩), DV.v (.string ⟨#[98]⟩)]]), .d .nil, .d (.v (.int .i64 0)), .own q.h vh 2 0 n, .own q.t vt 5 0 m])) (hH : σ[q.h]? = some (.arr 173 2 vh HR)) (hT : σ[q.t]? = some (.arr 154 5 vt (oRows m))) (hm : m ≤ 1000000) :
    Runs Try.prog 112 [.ptr q.p 0 0, .d (.agg [DV.v (.int .u8 1), DV.v (.int .i64 (m : Int)), DV.v (.string ⟨#[97]⟩), DV.v (.string ⟨#[]⟩), DV.v (.bool true)])] σ (fun r σ' => r = .tup [] ∧ ∃ vt', σ'[q.p]? = some (.row 157 [.d (.lst 2 [[DV.v (.string ⟨#[97]⟩), DV.v (.string ⟨#[98]⟩)]]), .d .nil, .d (.v (.int .i64 0)), .own q.h vh 2 0 n, .own q.t vt' 5 0 (m + 1)]) ∧ σ'[q.h]? = some (.arr 173 2 vh HR) ∧ σ'[q.t]? = some (.arr 154 5 vt' (oRows (m + 1))) ∧ KeptP (NotW q) σ σ') := by
  have hK := KeptP.refl (NotW q) σ
  have oP : OutP (NotW q) σ q.p := fun _ h => absurd rfl h.1
  have oT : OutP (NotW q) σ q.t := fun _ h => absurd rfl h.2.2
  have eo := oRows_succ m
  have el := oRows_len m
  unfold oRow at eo
  refine enter 14 Try.func112 rfl (by kernel_rfl) rfl rfl rfl ?_
  repeat' (first | refine s_op rfl ?_ | (apply s_move; (iterate 4 (exact rfl))) | (apply s_fa_p tab_ok; (iterate 5 (exact rfl))) | (apply s_ld_f tab_ok; (iterate 6 (exact rfl))) | (apply s_nilc; (iterate 5 (exact rfl))) | (apply s_boxZ; (iterate 5 (exact rfl)); first | exact rfl | exact allD_mapd _) | (apply s_lit tab_ok tabZ_ok; (iterate 10 (exact rfl))) | (apply s_ldF tab_ok; (iterate 5 (exact rfl)); exact hP; exact rfl) | (apply s_appF tab_ok tabZ_ok (d := 11) (rows2 := [[DV.v (.int .u8 1), DV.v (.int .i64 (m : Int)), DV.v (.string ⟨#[97]⟩), DV.v (.string ⟨#[]⟩), DV.v (.bool true)]]) (rows3 := oRows (m + 1)) (m := m + 1); (iterate 10 (exact rfl)); exact hT; exact src_of sl86 (rows_d rfl); exact eo; (refine ⟨?_, ?_, ?_⟩ <;> first | omega | (simp only [List.length_cons, List.length_nil] <;> omega)); intro σ hc; replace hT := hc.at'; replace hP := hc.keep hq.pt hP; replace hH := hc.keep hq.ht hH; replace hK := hK.chg oT hc; clear hc) | (apply s_storeF tab_ok; (iterate 7 (exact rfl)); exact hP; (iterate 2 (exact rfl)); intro σ hc; replace hP := hc.at'; replace hH := hc.keep hq.ph.symm hH; replace hT := hc.keep hq.pt.symm hT; replace hK := hK.chg oP hc; clear hc) | refine al_nil ?_ | refine q_then_n ?_ | refine aw_seq ?_ | refine aw_reg ?_ | refine aw_draws (id := 1) (trO [0, 1, 2, 3, 4, 5, 6, 7, 8, 9, 10] .nil) [6, 7, 10] [7, 10] mixed_ok (by kernel_rfl) ?_)
  all_goals exact q_end rfl ⟨rfl, _, hP, hH, hT, hK⟩
end
end Go.Proofs.Ytciciaikajdenaa
/- T23: the document's world: Open, New. -/
set_option linter.unusedSimpArgs false
set_option linter.unusedVariables false
namespace Go.Proofs.Ytciciaikajdenaa
open Go.RowKit

section
variable {σ : List AObj} {q : WQ} {hs : List Bool}
set_option maxRecDepth 100000 in
set_option maxHeartbeats 8000000 in
theorem open68 (h : RW σ q hs) (hl : hs.length ≤ 1000000) : Runs Try.prog 68 [.ptr q.p 0 0, .d (.v (.string ⟨#[97]⟩))] σ (fun r σ' => r = .d (.tup [.v (.int .i64 (hs.length : Int)), .v (.bool true)]) ∧ RW σ' q (hs ++ [false]) ∧ KeptP (NotW q) σ σ') := by
  have hK := KeptP.refl (NotW q) σ
  have hq := h.ok
  obtain ⟨vh, vt, hP, hH, hT⟩ := h.at'
  have oP : OutP (NotW q) σ q.p := fun _ h => absurd rfl h.1
  have oH : OutP (NotW q) σ q.h := fun _ h => absurd rfl h.2.1
  have ea : rRows hs ++ [[DV.v (.int .i64 0), DV.v (.int .i64 0)]] = rRows (hs ++ [false]) := by simp [rRows, rRowH]
  have e1 := rRows_len hs
  clear h
  refine enterB 60 tab_ok Try.func68 rfl (by kernel_rfl) rfl rfl rfl ?_
  repeat' (first | refine s_op rfl ?_ | (apply s_move; (iterate 4 (exact rfl))) | (apply s_assign; (iterate 4 (exact rfl))) | (apply s_callS; (iterate 6 (exact rfl)); exact fail111 hP; rintro _ σ ⟨rfl, rfl⟩) | refine al_nil ?_ | refine q_then_n ?_ | refine aw_block ?_ | refine aw_seq ?_ | refine aw_reg ?_)
  refine w_loop [0, 1, 6, 7] (fun n' vs' σ' => vs' = [.ptr q.p 0 0, .d (.v (.string ⟨#[97]⟩)), .d (.v (.bool false)), .d (.v (.int .i64 0))] ∧ σ' = σ ∧ n' = 1) rfl ⟨rfl, rfl, rfl⟩ ?_
  rintro n' vs' σ ⟨rfl, rfl, rfl⟩ fr hfr
  cases hfr
  repeat' (first | refine s_op rfl ?_ | (apply s_move; (iterate 4 (exact rfl))) | (apply s_fa_p tab_ok; (iterate 5 (exact rfl))) | (apply s_fa_f tab_ok; (iterate 6 (exact rfl))) | (apply s_ld_f tab_ok; (iterate 6 (exact rfl))) | (apply s_assign; (iterate 4 (exact rfl))) | (apply s_pick_t; (iterate 5 (exact rfl))) | (apply s_len tab_ok; (iterate 5 (exact rfl))) | (apply s_nilc; (iterate 5 (exact rfl))) | (apply s_build tabZ_ok; (iterate 5 (exact rfl))) | (apply s_lit tab_ok tabZ_ok; (iterate 10 (exact rfl))) | (apply s_not_f; (iterate 4 (exact rfl))) | (apply s_streq_t; (iterate 6 (exact rfl))) | (apply s_lss_t; (iterate 5 (exact rfl)); decide) | (apply s_ldF tab_ok; (iterate 5 (exact rfl)); exact hP; exact rfl) | (apply s_idx (j := 0) tab_ok; (iterate 7 (exact rfl)); exact rfl) | (apply s_callS; (iterate 6 (exact rfl)); exact did112 hq hP hH hT hl; rintro _ σ ⟨rfl, vt, hP', hH', hT', hk⟩; replace hP := hP'; replace hH := hH'; replace hT := hT'; replace hK := hK.trans hk; clear hk hP' hH' hT') | (apply s_appF tab_ok tabZ_ok (d := 47) (rows2 := [[DV.v (.int .i64 0), DV.v (.int .i64 0)]]) (rows3 := rRows (hs ++ [false])) (m := hs.length + 1); (iterate 10 (exact rfl)); exact hH; exact src_of (Tab.slIs tab_ok (t := 155) rfl) (rows_d rfl); exact ea; (refine ⟨?_, ?_, ?_⟩ <;> first | omega | (simp only [List.length_cons, List.length_nil] <;> omega)); intro σ hc; replace hH := hc.at'; replace hP := hc.keep hq.ph hP; replace hT := hc.keep hq.ht.symm hT; replace hK := hK.chg oH hc; clear hc) | (apply s_storeF tab_ok; (iterate 7 (exact rfl)); exact hP; (iterate 2 (exact rfl)); intro σ hc; replace hP := hc.at'; replace hH := hc.keep hq.ph.symm hH; replace hT := hc.keep hq.pt.symm hT; replace hK := hK.chg oP hc; clear hc) | refine al_nil ?_ | refine q_then_n ?_ | refine q_blk_r ?_ | refine aw_block ?_ | refine q_then_r ?_ | refine aw_seq ?_ | refine aw_reg ?_ | refine aw_true rfl ?_ | refine aw_skip ?_ | refine aw_ret ?_)
  all_goals exact q_retB (resB_2 rfl (resV_t rfl) (resV_t rfl) rfl) ⟨rfl, ⟨hq, _, _, by (rw [List.length_append, List.length_singleton]; exact hP), hH, by (rw [List.length_append, List.length_singleton]; exact hT)⟩, hK⟩
set_option maxRecDepth 100000 in
set_option maxHeartbeats 8000000 in
theorem new58 {σ0 : List AObj} : Runs Try.prog 58 [.d (.lst 2 [[DV.v (.string ⟨#[97]⟩), DV.v (.string ⟨#[98]⟩)]]), .d .nil] σ0 (fun v σ' => ∃ q : WQ, v = .tup [.ptr q.p 0 0, .d (.v (.int .i64 0))] ∧ RW σ' q [] ∧ KeptP (fun _ => True) σ0 σ' ∧ OutP (fun _ => True) σ0 q.p ∧ OutP (fun _ => True) σ0 q.h ∧ OutP (fun _ => True) σ0 q.t) := by
  have hK := KeptP.refl (fun _ => True) σ0
  refine enterB 47 tab_ok Try.func58 rfl (by kernel_rfl) rfl rfl rfl ?_
  repeat' (first | refine s_op rfl ?_ | (apply s_assign; (iterate 4 (exact rfl))) | refine al_nil ?_ | refine q_then_n ?_ | refine aw_block ?_ | refine aw_seq ?_ | refine aw_reg ?_)
  refine w_loop [0, 1, 6] (fun n' vs' σ' => ∃ j : Nat, vs' = [.d (.lst 2 [[DV.v (.string ⟨#[97]⟩), DV.v (.string ⟨#[98]⟩)]]), .d .nil, .d (.v (.int .i64 (j : Int)))] ∧ σ' = σ0 ∧ j ≤ 1 ∧ n' = 1 - j) rfl ⟨0, rfl, rfl, by omega, rfl⟩ ?_
  rintro n' vs' σ ⟨j, rfl, rfl, hj, rfl⟩ fr hfr
  cases hfr
  by_cases hlt : j = 0
  · subst hlt
    repeat' (first | refine s_op rfl ?_ | (apply s_move; (iterate 4 (exact rfl))) | (apply s_fa_f tab_ok; (iterate 6 (exact rfl))) | (apply s_ld_f tab_ok; (iterate 6 (exact rfl))) | (apply s_assign; (iterate 4 (exact rfl))) | (apply s_pick_f; (iterate 5 (exact rfl))) | (apply s_len tab_ok; (iterate 5 (exact rfl))) | (apply s_lens str_ok; (iterate 4 (exact rfl))) | (apply s_geq_f; (iterate 5 (exact rfl)); omega) | (apply s_lss_t; (iterate 5 (exact rfl)); decide) | (apply s_idx (j := 0) tab_ok; (iterate 7 (exact rfl)); exact rfl) | (apply s_gtr_f; (iterate 5 (exact rfl)); decide) | refine al_nil ?_ | refine q_then_n ?_ | refine aw_block ?_ | refine aw_seq ?_ | refine aw_reg ?_ | refine aw_true rfl ?_ | refine aw_false rfl ?_ | refine aw_skip ?_)
    refine w_loop [0, 1, 6, 7] (fun n' vs' σ' => vs' = [.d (.lst 2 [[DV.v (.string ⟨#[97]⟩), DV.v (.string ⟨#[98]⟩)]]), .d .nil, .d (.v (.int .i64 0)), .d (.v (.int .i64 0))] ∧ σ' = σ ∧ n' = 1) rfl ⟨rfl, rfl, rfl⟩ ?_
    rintro n' vs' σ ⟨rfl, rfl, rfl⟩ fr hfr
    cases hfr
    repeat' (first | refine s_op rfl ?_ | (apply s_move; (iterate 4 (exact rfl))) | (apply s_assign; (iterate 4 (exact rfl))) | (apply s_lss_f; (iterate 5 (exact rfl)); omega) | (apply s_add64; (iterate 5 (exact rfl)); omega) | refine al_nil ?_ | refine q_then_n ?_ | refine q_blk_n ?_ | refine q_blk_e ?_ | refine q_then_e ?_ | refine aw_exit ?_ | refine aw_seq ?_ | refine aw_reg ?_ | refine aw_false rfl ?_)
    all_goals exact ⟨_, _, rfl, by decide, 1, rfl, rfl, by decide, rfl⟩
  · have hj1 : j = 1 := by omega
    subst hj1
    repeat' (first | refine s_op rfl ?_ | (apply s_move; (iterate 4 (exact rfl))) | (apply s_assign; (iterate 4 (exact rfl))) | (apply s_len tab_ok; (iterate 5 (exact rfl))) | (apply s_lss_f; (iterate 5 (exact rfl)); decide) | (apply s_lit0 tab_ok tabZ_ok; (iterate 7 (exact rfl))) | (refine o_adoptF 41 130 2 rfl ?_; intro locA σ hc; have hA := hc.at'; have oA := hK.out hc; replace hK := hK.fresh hc; clear hc) | (apply s_appF tab_ok tabZ_ok (d := 43) (rows2 := [[DV.v (.string ⟨#[97]⟩), DV.v (.string ⟨#[98]⟩)]]) (rows3 := [[DV.v (.string ⟨#[97]⟩), DV.v (.string ⟨#[98]⟩)]]) (m := 1); (iterate 10 (exact rfl)); exact hA; exact src_of sl91 (rows_d rfl); exact rfl; exact ⟨rfl, by decide, rfl⟩; intro σ hc; replace hA := hc.at'; replace hK := hK.chg oA hc; clear hc) | (refine o_freezeF 43 rfl hA rfl ?_; intro σ hc; replace hK := hK.chg oA hc; clear hc hA) | (apply s_build tabZ_ok; (iterate 5 (exact rfl))) | (apply s_boxF; (iterate 6 (exact rfl)); intro locP σ hc; have hP := hc.at'; have oP := hK.out hc; replace hK := hK.fresh hc; clear hc) | (refine w_adoptC locP 3 173 2 hP rfl ?_; intro locH σ hc; have key := hK.adopt (t := 157) oP hc; have hH := hc.arr; have nPH := hc.ne.symm; replace hP := hc.row; obtain ⟨hK, oH⟩ := key; clear hc; refine w_adoptC locP 4 154 5 hP rfl ?_; intro locT σ hc; have key := hK.adopt (t := 157) oP hc; have hT := hc.arr; have nPT := hc.ne.symm; have nHT := hc.fresh _ _ hH; replace hH := hc.keep nPH.symm hH; replace hP := hc.row; obtain ⟨hK, oT⟩ := key; clear hc) | refine al_nil ?_ | refine q_then_n ?_ | refine q_blk_e ?_ | refine q_then_e ?_ | refine aw_exit ?_ | refine aw_seq ?_ | refine aw_reg ?_ | refine aw_false rfl ?_ | refine aw_ret ?_)
    all_goals exact q_retB (resB_2 rfl (resV_t rfl) (resV_t rfl) rfl) ⟨⟨locP, locH, locT⟩, rfl, ⟨⟨nPH, nPT, nHT⟩, 0, 0, hP, hH, hT⟩, hK, oP, oH, oT⟩
end
end Go.Proofs.Ytciciaikajdenaa
