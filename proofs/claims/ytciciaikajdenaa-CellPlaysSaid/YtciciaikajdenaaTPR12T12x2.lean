/- T12: the document's value of a cell, whole. -/
import Derived.Test.YtciciaikajdenaaTPR12T9x3
set_option linter.unusedSimpArgs false
set_option linter.unusedVariables false
namespace Go.Proofs.Ytciciaikajdenaa
open Go.RowKit

section
variable {σ : List AObj} {q : RQ} {H : AHeap} {B : Int} {wg : Int} {ws : ByteArray}
set_option maxRecDepth 100000 in
set_option maxHeartbeats 8000000 in
theorem value_q_cell {f : AWord → List Int → Bool → Res Val} {kws : List AWord} {c0 c9 : List Int} {fl f9 : Bool} {vs9 : List Val} {cn ck g : Int} {lv : Bool} {i : Nat} (hR : walksF f kws c0 fl = .ok vs9 c9 f9) (hkl : kws.length ≤ 1000000) (hl : H.slots.length ≤ 1000000) (hi : H.slots[i]? = some ⟨⟨ck, cn, kws⟩, g, lv⟩) (hk : ck = 1 ∨ ck = 2 ∨ ck = 3)
    (hcall : ∀ (w : AWord) (c : List Int) (b : Bool) (v : Val) (c2 : List Int) (b2 : Bool) (σ : List AObj), w ∈ kws → f w c b = .ok v c2 b2 → RHeap σ q H → Runs Try.prog 105 [.ptr q.p 0 0, .d (.agg (wordD w))] σ (fun r σ' => r = .d (.agg (valD v)) ∧ KeptP (fun _ => True) σ σ'))
    (h : RHeap σ q H) : Runs Try.prog 105 [.ptr q.p 0 0, .d (.agg [DV.v (.int .u8 5), DV.v (.int .i64 (i : Int)), DV.v (.string ws), DV.v (.int .i64 wg)])] σ (fun r σ' => r = .d (.agg (valD (.mk (ck + 10) cn ⟨#[]⟩ vs9))) ∧ KeptP (fun _ => True) σ σ') := by
  have hK := KeptP.refl (fun _ => True) σ
  have e2 := slotsR_len H.slots
  have hil := (List.getElem?_eq_some_iff.1 hi).1
  have hr : (slotsR H.slots)[i]? = some [DV.v (.int .u8 ck), DV.v (.int .i64 cn), DV.lst 4 (wordsR kws), DV.v (.int .i64 g), DV.v (.bool lv)] := slotsR_get hi
  obtain ⟨vs, vg, gr, hP, hS, hG, hgr, hgl⟩ := h.at'
  have hq := h.ok
  unfold rRow at hP
  rcases hk with rfl | rfl | rfl
  · refine enterB 55 tab_ok Try.func105 rfl (by kernel_rfl) rfl rfl rfl ?_
    repeat' (first | refine s_op rfl ?_ | (apply s_move; (iterate 4 (exact rfl))) | (apply s_fa_p tab_ok; (iterate 5 (exact rfl))) | (apply s_fa_f tab_ok; (iterate 6 (exact rfl))) | (apply s_ld_f tab_ok; (iterate 6 (exact rfl))) | (apply s_nilc; (iterate 5 (exact rfl))) | (apply s_build tabZ_ok; (iterate 5 (exact rfl))) | (apply s_boxZ; (iterate 5 (exact rfl)); first | exact rfl | exact allD_mapd _) | (apply s_lit tab_ok tabZ_ok; (iterate 10 (exact rfl))) | (apply s_neq_f; (iterate 5 (exact rfl)); omega) | (refine w_keep [0, 4, 5, 6] rfl rfl ?_; exact value_q_kids hR hkl hcall nXC nXV nCV pX pC pV oX oV ⟨hq, vs, vg, gr, hP, hS, hG, hgr, hgl⟩ hX hC hV hK rfl) | (apply s_allocF tabZ_ok (d := 4); (iterate 6 (exact rfl)); intro locX σ hc; have hX := hc.at'; have pX : q.p ≠ locX ∧ q.s ≠ locX ∧ q.g ≠ locX := ⟨hc.ne hP, hc.ne hS, hc.ne hG⟩; replace hP := hc.keep hP; replace hS := hc.keep hS; replace hG := hc.keep hG; have oX := hK.out hc; replace hK := hK.fresh hc; clear hc) | (apply s_allocF tabZ_ok (d := 5); (iterate 6 (exact rfl)); intro locC σ hc; have hC := hc.at'; have pC : q.p ≠ locC ∧ q.s ≠ locC ∧ q.g ≠ locC := ⟨hc.ne hP, hc.ne hS, hc.ne hG⟩; have nXC := hc.ne hX; replace hX := hc.keep hX; replace hP := hc.keep hP; replace hS := hc.keep hS; replace hG := hc.keep hG; have oC := hK.out hc; replace hK := hK.fresh hc; clear hc) | (apply s_allocF tabZ_ok (d := 6); (iterate 6 (exact rfl)); intro locV σ hc; have hV := hc.at'; have pV : q.p ≠ locV ∧ q.s ≠ locV ∧ q.g ≠ locV := ⟨hc.ne hP, hc.ne hS, hc.ne hG⟩; have nXV := hc.ne hX; have nCV := hc.ne hC; replace hX := hc.keep hX; replace hC := hc.keep hC; replace hP := hc.keep hP; replace hS := hc.keep hS; replace hG := hc.keep hG; have oV := hK.out hc; replace hK := hK.fresh hc; clear hc) | (apply s_ldF tab_ok; (iterate 5 (exact rfl)); exact hP; exact rfl) | (apply s_idxO (i * 5) tab_ok; (iterate 7 (exact rfl)); exact hS; exact ⟨by omega, by omega⟩) | (apply s_ldA i 0 tab_ok; (iterate 5 (exact rfl)); exact hS; exact hr; omega; exact rfl) | (apply s_storeF tab_ok; (iterate 7 (exact rfl)); exact hC; (iterate 2 (exact rfl)); intro σ hc; replace hC := hc.at'; replace hX := hc.keep nXC hX; replace hP := hc.keep pC.1 hP; replace hS := hc.keep pC.2.1 hS; replace hG := hc.keep pC.2.2 hG; replace hK := hK.chg oC hc; clear hc) | (apply s_storeF tab_ok; (iterate 7 (exact rfl)); exact hV; (iterate 2 (exact rfl)); intro σ hc; replace hV := hc.at'; replace hX := hc.keep nXV hX; replace hC := hc.keep nCV hC; replace hP := hc.keep pV.1 hP; replace hS := hc.keep pV.2.1 hS; replace hG := hc.keep pV.2.2 hG; replace hK := hK.chg oV hc; clear hc) | (apply s_ldF tab_ok; (iterate 5 (exact rfl)); exact hC; exact rfl) | (apply s_idx (j := 1) tab_ok; (iterate 7 (exact rfl)); exact rfl) | refine al_nil ?_ | refine q_then_n ?_ | refine aw_seq ?_ | refine aw_reg ?_ | refine aw_false rfl ?_ | refine aw_skip ?_ | refine al_fork ?_ ?_ | refine aw_draws (id := 3) (trO [0, 1, 2, 3, 4, 5, 6, 7, 8, 9, 10] .nil) [9, 10] [10] mixed_ok (by kernel_rfl) ?_ | refine aw_draws (id := 4) (trO [1, 2, 5, 6] (.fork 0 (trO [3, 4, 7, 8, 9] .nil) 8 (trO [0, 3, 4, 7, 9] .nil))) [0, 8, 9] [9] mixed_ok (by kernel_rfl) ?_)
  · refine enterB 55 tab_ok Try.func105 rfl (by kernel_rfl) rfl rfl rfl ?_
    repeat' (first | refine s_op rfl ?_ | (apply s_move; (iterate 4 (exact rfl))) | (apply s_fa_p tab_ok; (iterate 5 (exact rfl))) | (apply s_fa_f tab_ok; (iterate 6 (exact rfl))) | (apply s_ld_f tab_ok; (iterate 6 (exact rfl))) | (apply s_nilc; (iterate 5 (exact rfl))) | (apply s_build tabZ_ok; (iterate 5 (exact rfl))) | (apply s_boxZ; (iterate 5 (exact rfl)); first | exact rfl | exact allD_mapd _) | (apply s_lit tab_ok tabZ_ok; (iterate 10 (exact rfl))) | (apply s_neq_f; (iterate 5 (exact rfl)); omega) | (refine w_keep [0, 4, 5, 6] rfl rfl ?_; exact value_q_kids hR hkl hcall nXC nXV nCV pX pC pV oX oV ⟨hq, vs, vg, gr, hP, hS, hG, hgr, hgl⟩ hX hC hV hK rfl) | (apply s_allocF tabZ_ok (d := 4); (iterate 6 (exact rfl)); intro locX σ hc; have hX := hc.at'; have pX : q.p ≠ locX ∧ q.s ≠ locX ∧ q.g ≠ locX := ⟨hc.ne hP, hc.ne hS, hc.ne hG⟩; replace hP := hc.keep hP; replace hS := hc.keep hS; replace hG := hc.keep hG; have oX := hK.out hc; replace hK := hK.fresh hc; clear hc) | (apply s_allocF tabZ_ok (d := 5); (iterate 6 (exact rfl)); intro locC σ hc; have hC := hc.at'; have pC : q.p ≠ locC ∧ q.s ≠ locC ∧ q.g ≠ locC := ⟨hc.ne hP, hc.ne hS, hc.ne hG⟩; have nXC := hc.ne hX; replace hX := hc.keep hX; replace hP := hc.keep hP; replace hS := hc.keep hS; replace hG := hc.keep hG; have oC := hK.out hc; replace hK := hK.fresh hc; clear hc) | (apply s_allocF tabZ_ok (d := 6); (iterate 6 (exact rfl)); intro locV σ hc; have hV := hc.at'; have pV : q.p ≠ locV ∧ q.s ≠ locV ∧ q.g ≠ locV := ⟨hc.ne hP, hc.ne hS, hc.ne hG⟩; have nXV := hc.ne hX; have nCV := hc.ne hC; replace hX := hc.keep hX; replace hC := hc.keep hC; replace hP := hc.keep hP; replace hS := hc.keep hS; replace hG := hc.keep hG; have oV := hK.out hc; replace hK := hK.fresh hc; clear hc) | (apply s_ldF tab_ok; (iterate 5 (exact rfl)); exact hP; exact rfl) | (apply s_idxO (i * 5) tab_ok; (iterate 7 (exact rfl)); exact hS; exact ⟨by omega, by omega⟩) | (apply s_ldA i 0 tab_ok; (iterate 5 (exact rfl)); exact hS; exact hr; omega; exact rfl) | (apply s_storeF tab_ok; (iterate 7 (exact rfl)); exact hC; (iterate 2 (exact rfl)); intro σ hc; replace hC := hc.at'; replace hX := hc.keep nXC hX; replace hP := hc.keep pC.1 hP; replace hS := hc.keep pC.2.1 hS; replace hG := hc.keep pC.2.2 hG; replace hK := hK.chg oC hc; clear hc) | (apply s_storeF tab_ok; (iterate 7 (exact rfl)); exact hV; (iterate 2 (exact rfl)); intro σ hc; replace hV := hc.at'; replace hX := hc.keep nXV hX; replace hC := hc.keep nCV hC; replace hP := hc.keep pV.1 hP; replace hS := hc.keep pV.2.1 hS; replace hG := hc.keep pV.2.2 hG; replace hK := hK.chg oV hc; clear hc) | (apply s_ldF tab_ok; (iterate 5 (exact rfl)); exact hC; exact rfl) | (apply s_idx (j := 2) tab_ok; (iterate 7 (exact rfl)); exact rfl) | refine al_nil ?_ | refine q_then_n ?_ | refine aw_seq ?_ | refine aw_reg ?_ | refine aw_false rfl ?_ | refine aw_skip ?_ | refine al_fork ?_ ?_ | refine aw_draws (id := 3) (trO [0, 1, 2, 3, 4, 5, 6, 7, 8, 9, 10] .nil) [9, 10] [10] mixed_ok (by kernel_rfl) ?_ | refine aw_draws (id := 4) (trO [1, 2, 5, 6] (.fork 0 (trO [3, 4, 7, 8, 9] .nil) 8 (trO [0, 3, 4, 7, 9] .nil))) [0, 8, 9] [9] mixed_ok (by kernel_rfl) ?_)
  · refine enterB 55 tab_ok Try.func105 rfl (by kernel_rfl) rfl rfl rfl ?_
    repeat' (first | refine s_op rfl ?_ | (apply s_move; (iterate 4 (exact rfl))) | (apply s_fa_p tab_ok; (iterate 5 (exact rfl))) | (apply s_fa_f tab_ok; (iterate 6 (exact rfl))) | (apply s_ld_f tab_ok; (iterate 6 (exact rfl))) | (apply s_nilc; (iterate 5 (exact rfl))) | (apply s_build tabZ_ok; (iterate 5 (exact rfl))) | (apply s_boxZ; (iterate 5 (exact rfl)); first | exact rfl | exact allD_mapd _) | (apply s_lit tab_ok tabZ_ok; (iterate 10 (exact rfl))) | (apply s_neq_f; (iterate 5 (exact rfl)); omega) | (refine w_keep [0, 4, 5, 6] rfl rfl ?_; exact value_q_kids hR hkl hcall nXC nXV nCV pX pC pV oX oV ⟨hq, vs, vg, gr, hP, hS, hG, hgr, hgl⟩ hX hC hV hK rfl) | (apply s_allocF tabZ_ok (d := 4); (iterate 6 (exact rfl)); intro locX σ hc; have hX := hc.at'; have pX : q.p ≠ locX ∧ q.s ≠ locX ∧ q.g ≠ locX := ⟨hc.ne hP, hc.ne hS, hc.ne hG⟩; replace hP := hc.keep hP; replace hS := hc.keep hS; replace hG := hc.keep hG; have oX := hK.out hc; replace hK := hK.fresh hc; clear hc) | (apply s_allocF tabZ_ok (d := 5); (iterate 6 (exact rfl)); intro locC σ hc; have hC := hc.at'; have pC : q.p ≠ locC ∧ q.s ≠ locC ∧ q.g ≠ locC := ⟨hc.ne hP, hc.ne hS, hc.ne hG⟩; have nXC := hc.ne hX; replace hX := hc.keep hX; replace hP := hc.keep hP; replace hS := hc.keep hS; replace hG := hc.keep hG; have oC := hK.out hc; replace hK := hK.fresh hc; clear hc) | (apply s_allocF tabZ_ok (d := 6); (iterate 6 (exact rfl)); intro locV σ hc; have hV := hc.at'; have pV : q.p ≠ locV ∧ q.s ≠ locV ∧ q.g ≠ locV := ⟨hc.ne hP, hc.ne hS, hc.ne hG⟩; have nXV := hc.ne hX; have nCV := hc.ne hC; replace hX := hc.keep hX; replace hC := hc.keep hC; replace hP := hc.keep hP; replace hS := hc.keep hS; replace hG := hc.keep hG; have oV := hK.out hc; replace hK := hK.fresh hc; clear hc) | (apply s_ldF tab_ok; (iterate 5 (exact rfl)); exact hP; exact rfl) | (apply s_idxO (i * 5) tab_ok; (iterate 7 (exact rfl)); exact hS; exact ⟨by omega, by omega⟩) | (apply s_ldA i 0 tab_ok; (iterate 5 (exact rfl)); exact hS; exact hr; omega; exact rfl) | (apply s_storeF tab_ok; (iterate 7 (exact rfl)); exact hC; (iterate 2 (exact rfl)); intro σ hc; replace hC := hc.at'; replace hX := hc.keep nXC hX; replace hP := hc.keep pC.1 hP; replace hS := hc.keep pC.2.1 hS; replace hG := hc.keep pC.2.2 hG; replace hK := hK.chg oC hc; clear hc) | (apply s_storeF tab_ok; (iterate 7 (exact rfl)); exact hV; (iterate 2 (exact rfl)); intro σ hc; replace hV := hc.at'; replace hX := hc.keep nXV hX; replace hC := hc.keep nCV hC; replace hP := hc.keep pV.1 hP; replace hS := hc.keep pV.2.1 hS; replace hG := hc.keep pV.2.2 hG; replace hK := hK.chg oV hc; clear hc) | (apply s_ldF tab_ok; (iterate 5 (exact rfl)); exact hC; exact rfl) | (apply s_idx (j := 3) tab_ok; (iterate 7 (exact rfl)); exact rfl) | refine al_nil ?_ | refine q_then_n ?_ | refine aw_seq ?_ | refine aw_reg ?_ | refine aw_false rfl ?_ | refine aw_skip ?_ | refine al_fork ?_ ?_ | refine aw_draws (id := 3) (trO [0, 1, 2, 3, 4, 5, 6, 7, 8, 9, 10] .nil) [9, 10] [10] mixed_ok (by kernel_rfl) ?_ | refine aw_draws (id := 4) (trO [1, 2, 5, 6] (.fork 0 (trO [3, 4, 7, 8, 9] .nil) 8 (trO [0, 3, 4, 7, 9] .nil))) [0, 8, 9] [9] mixed_ok (by kernel_rfl) ?_)
theorem value_q (ok : H.Ok B) (hlv : LiveOk H) : ∀ (f : Nat) (w : AWord) (come : List Int) (fl : Bool) (v : Val) (c2 : List Int) (f2 : Bool) (σ : List AObj), walkF H f w come fl = .ok v c2 f2 → RHeap σ q H →
    Runs Try.prog 105 [.ptr q.p 0 0, .d (.agg (wordD w))] σ (fun r σ' => r = .d (.agg (valD v)) ∧ KeptP (fun _ => True) σ σ')
  | 0, w, come, fl, v, c2, f2, σ, hw, _ => by cases hw
  | f + 1, w, come, fl, v, c2, f2, σ, hw, h => by
    have hl : H.slots.length ≤ 1000000 := by have := ok.few; have := ok.room1; omega
    have hd : walkF H (f + 1) w come fl = if w.ok = false then .bad 2
      else if w.k ≠ 5 then .ok (.mk w.k w.n w.s []) come (fl || (decide (w.k = 6) || decide (w.k = 7)))
      else if (H.find w).1 ≠ 0 then .bad (H.find w).1
      else if w.n ∈ come then .bad 6
      else match walksF (walkF H f) (H.get w).1.ws (come ++ [w.n]) fl with
        | .bad e => .bad e
        | .ok vs come fl => .ok (.mk ((H.get w).1.k + 10) (H.get w).1.n ⟨#[]⟩ vs) come fl := rfl
    rw [hd] at hw
    clear hd
    split at hw
    · cases hw
    split at hw
    · rename_i h2
      injection hw with q1 q2 q3
      subst q1
      obtain ⟨wk, wn, ws, wg⟩ := w
      exact value_q_leaf h2
    rename_i h2
    split at hw
    · cases hw
    rename_i h3
    split at hw
    · cases hw
    rename_i h4
    have h2' : w.k = 5 := by simpa using h2
    have h3' : (H.find w).1 = 0 := by simpa using h3
    obtain ⟨z1, z2, z3, z4, z5, z6, z7⟩ := AHeap.find_zero h3'
    have hget : H.get w = ((H.slot (H.find w).2).c, 0) := by unfold AHeap.get; rw [if_pos h3']
    rw [hget] at hw
    have hs2 := AHeap.slot_get z5
    have hcw := ok.words _ (AHeap.slot_mem z5)
    obtain ⟨k1, k3, _⟩ := ok_kind (hlv.slot z5 z6)
    generalize (H.find w).2 = i at *
    generalize H.slot i = s at *
    obtain ⟨⟨ck, cn, cw⟩, g, lv⟩ := s
    obtain ⟨wk, wn, ws, wg⟩ := w
    replace h2' : wk = 5 := h2'
    replace z4 : wn = (i : Int) := z4
    subst h2' z4
    replace k1 : 1 ≤ ck := k1
    replace k3 : ck ≤ 3 := k3
    dsimp only at hw
    split at hw
    · cases hw
    · rename_i vs9 c9 f9 hR
      injection hw with q1 q2 q3
      subst q1
      exact value_q_cell hR (Nat.le_trans hcw (by decide)) hl hs2 (by omega) (fun w c b v c2 b2 σ _ hf h => value_q ok hlv f w c b v c2 b2 σ hf h) h
end
end Go.Proofs.Ytciciaikajdenaa
/- T13: the document's Value and Reach. -/
set_option linter.unusedSimpArgs false
set_option linter.unusedVariables false
namespace Go.Proofs.Ytciciaikajdenaa
open Go.RowKit

section
variable {σ : List AObj} {q : RQ} {H : AHeap} {B : Int}
theorem walk_n_ok (ok : H.Ok B) {f : Nat} (hf : H.slots.length + 1 ≤ f) {w : AWord} {v : Val} {c2 : List Int} {f2 : Bool} (hw : walkF H f w [] false = .ok v c2 f2) (σ : List AObj) (h : RHeap σ q H) : Runs Try.prog 104 [.ptr q.p 0 0, .d (.agg (wordD w)), .d .nil, .d (.v (.bool false))] σ (fun x σ' => ∃ loc ver n, x = .tup [.own loc ver 1 0 n, .d (.v (.bool f2)), .d (.v (.int .i64 0))] ∧ KeptP (fun _ => True) σ σ') := by
  refine (walk_n ok h hf w false).mono fun x σ' hx => ?_
  rw [hw] at hx
  rcases hx with ⟨v', c', f', loc, ver, n, hR, hx, hk⟩ | ⟨e, loc, ver, n, f', hR, he, hx, hk⟩
  · injection hR with q1 q2 q3
    subst q3
    exact ⟨loc, ver, n, hx, hk⟩
  · cases hR
theorem walk_n_bad (ok : H.Ok B) {f : Nat} (hf : H.slots.length + 1 ≤ f) {w : AWord} {e : Int} (hw : walkF H f w [] false = .bad e) (σ : List AObj) (h : RHeap σ q H) : Runs Try.prog 104 [.ptr q.p 0 0, .d (.agg (wordD w)), .d .nil, .d (.v (.bool false))] σ (fun x σ' => ∃ loc ver n f2, x = .tup [.own loc ver 1 0 n, .d (.v (.bool f2)), .d (.v (.int .i64 e))] ∧ e ≠ 0 ∧ KeptP (fun _ => True) σ σ') := by
  refine (walk_n ok h hf w false).mono fun x σ' hx => ?_
  rw [hw] at hx
  rcases hx with ⟨v', c', f', loc, ver, n, hR, hx, hk⟩ | ⟨e', loc, ver, n, f', hR, he, hx, hk⟩
  · cases hR
  · injection hR with q1
    subst q1
    exact ⟨loc, ver, n, f', hx, he, hk⟩
set_option maxRecDepth 100000 in
set_option maxHeartbeats 8000000 in
theorem value64 (ok : H.Ok B) (hlv : LiveOk H) {f : Nat} (hf : H.slots.length + 1 ≤ f) (w : AWord) (h : RHeap σ q H) : Runs Try.prog 64 [.ptr q.p 0 0, .d (.agg (wordD w))] σ (fun r σ' => r = .d (.tup [.agg (valD (valueM H f w).1), .v (.int .i64 (valueM H f w).2)]) ∧ KeptP (fun _ => True) σ σ') := by
  have hK := KeptP.refl (fun _ => True) σ
  have h0 := h
  cases hw : walkF H f w [] false with
  | bad e =>
    have hv : valueM H f w = (.mk 0 0 ⟨#[]⟩ [], e) := by unfold valueM; rw [hw]
    rw [hv]
    have hwk := walk_n_bad (q := q) ok hf hw
    refine Runs.weakR ?_
    obtain ⟨wk, wn, ws, wg⟩ := w
    show Runs Try.prog 64 [.ptr q.p 0 0, .d (.agg [DV.v (.int .u8 wk), DV.v (.int .i64 wn), DV.v (.string ws), DV.v (.int .i64 wg)])] σ _
    refine enterB 23 tab_ok Try.func64 rfl (by kernel_rfl) rfl rfl rfl ?_
    repeat' (first | refine s_op rfl ?_ | (apply s_move; (iterate 4 (exact rfl))) | (apply s_ld_f tab_ok; (iterate 6 (exact rfl))) | (apply s_assign; (iterate 4 (exact rfl))) | (apply s_ext; (iterate 5 (exact rfl))) | (apply s_build tabZ_ok; (iterate 5 (exact rfl))) | (apply s_boxZ; (iterate 5 (exact rfl)); first | exact rfl | exact allD_mapd _) | (apply s_neq_t; (iterate 5 (exact rfl)); omega) | (apply s_allocF tabZ_ok (d := 4); (iterate 6 (exact rfl)); intro locX σ hc; have hX := hc.at'; replace h := h.keep (KeptP.fresh (KeptP.refl _ _) hc); have pX : q.p ≠ locX ∧ q.s ≠ locX ∧ q.g ≠ locX := (by obtain ⟨vs, vg, gr, a, b, c, _⟩ := h0.at'; exact ⟨hc.ne a, hc.ne b, hc.ne c⟩); have oX := hK.out hc; replace hK := hK.fresh hc; clear hc) | (apply s_storeF tab_ok; (iterate 7 (exact rfl)); exact hX; (iterate 2 (exact rfl)); intro σ hc; replace hX := hc.at'; replace h := h.keepP (p := (· ≠ locX)) (fun k o hk e => hc.keep hk e) pX.1 pX.2.1 pX.2.2; replace hK := hK.chg oX hc; clear hc) | (apply s_callS; (iterate 6 (exact rfl)); exact hwk _ h; rintro _ σ2 ⟨locW, verW, nW, fW, rfl, he, hk2⟩; replace h := h.keep hk2; replace hX := hk2 _ _ trivial hX; replace hK := hK.trans hk2; clear hk2) | refine al_nil ?_ | refine q_then_n ?_ | refine q_then_r ?_ | refine aw_seq ?_ | refine aw_reg ?_ | refine aw_true rfl ?_ | refine aw_ret ?_)
    all_goals exact q_retB (resB_2 rfl (resV_c (t := 66) rfl rfl hX rfl) (resV_t rfl) rfl) ⟨_, rfl, Wk.tup ⟨Wk.agg ⟨Wk.refl _, Wk.refl _, Wk.refl _, Wk.nil 4, trivial⟩, Wk.refl _, trivial⟩, hK⟩
  | ok v c2 f2 =>
    have hv : valueM H f w = (v, 0) := by unfold valueM; rw [hw]
    rw [hv]
    have hwk := walk_n_ok (q := q) ok hf hw
    have hvq := fun σ (h : RHeap σ q H) => value_q ok hlv f w [] false v c2 f2 σ hw h
    obtain ⟨wk, wn, ws, wg⟩ := w
    obtain ⟨vk, vn, vs, vl⟩ := v
    show Runs Try.prog 64 [.ptr q.p 0 0, .d (.agg [DV.v (.int .u8 wk), DV.v (.int .i64 wn), DV.v (.string ws), DV.v (.int .i64 wg)])] σ _
    refine enterB 23 tab_ok Try.func64 rfl (by kernel_rfl) rfl rfl rfl ?_
    repeat' (first | refine s_op rfl ?_ | (apply s_move; (iterate 4 (exact rfl))) | (apply s_ld_f tab_ok; (iterate 6 (exact rfl))) | (apply s_assign; (iterate 4 (exact rfl))) | (apply s_ext; (iterate 5 (exact rfl))) | (apply s_boxZ; (iterate 5 (exact rfl)); first | exact rfl | exact allD_mapd _) | (apply s_neq_f; (iterate 5 (exact rfl)); omega) | (apply s_allocF tabZ_ok (d := 4); (iterate 6 (exact rfl)); intro locX σ hc; have hX := hc.at'; replace h := h.keep (KeptP.fresh (KeptP.refl _ _) hc); have pX : q.p ≠ locX ∧ q.s ≠ locX ∧ q.g ≠ locX := (by obtain ⟨vs, vg, gr, a, b, c, _⟩ := h0.at'; exact ⟨hc.ne a, hc.ne b, hc.ne c⟩); have oX := hK.out hc; replace hK := hK.fresh hc; clear hc) | (apply s_storeF tab_ok; (iterate 7 (exact rfl)); exact hX; (iterate 2 (exact rfl)); intro σ hc; replace hX := hc.at'; replace h := h.keepP (p := (· ≠ locX)) (fun k o hk e => hc.keep hk e) pX.1 pX.2.1 pX.2.2; replace hK := hK.chg oX hc; clear hc) | (apply s_callS; (iterate 6 (exact rfl)); exact hwk _ h; rintro _ σ2 ⟨locW, verW, nW, rfl, hk2⟩; replace h := h.keep hk2; replace hX := hk2 _ _ trivial hX; replace hK := hK.trans hk2; clear hk2) | (apply s_callS; (iterate 6 (exact rfl)); exact hvq _ h; rintro _ σ2 ⟨rfl, hk2⟩; replace h := h.keep hk2; replace hX := hk2 _ _ trivial hX; replace hK := hK.trans hk2; clear hk2) | refine al_nil ?_ | refine q_then_n ?_ | refine aw_seq ?_ | refine aw_reg ?_ | refine aw_false rfl ?_ | refine aw_skip ?_ | refine aw_ret ?_)
    all_goals exact q_retB (resB_2 rfl (resV_c (t := 66) rfl rfl hX rfl) (resV_t rfl) rfl) ⟨rfl, hK⟩
/-- What a walk comes to, whatever the files. -/
def Res.er : Res Val → Except Int (List Int)
  | .ok _ c _ => .ok c
  | .bad e => .error e
def erL : Res (List Val) → Except Int (List Int)
  | .ok _ c _ => .ok c
  | .bad e => .error e
theorem walks_er {f : AWord → List Int → Bool → Res Val} (hf : ∀ w c b b', (f w c b).er = (f w c b').er) : ∀ (ws : List AWord) (c : List Int) (b b' : Bool), erL (walksF f ws c b) = erL (walksF f ws c b')
  | [], c, b, b' => rfl
  | w :: ws, c, b, b' => by
    have h := hf w c b b'
    simp only [walksF]
    cases h1 : f w c b with
    | bad e =>
      rw [h1] at h
      cases h2 : f w c b' with
      | bad e' => rw [h2] at h; simp only [Res.er, Except.error.injEq] at h; rw [h]
      | ok v c2 f2 => rw [h2] at h; simp [Res.er] at h
    | ok v c2 f2 =>
      rw [h1] at h
      cases h2 : f w c b' with
      | bad e' => rw [h2] at h; simp [Res.er] at h
      | ok v' c2' f2' =>
        rw [h2] at h
        simp only [Res.er, Except.ok.injEq] at h
        subst h
        have h3 := walks_er hf ws c2 f2 f2'
        simp only
        cases h4 : walksF f ws c2 f2 with
        | bad e =>
          rw [h4] at h3
          cases h5 : walksF f ws c2 f2' with
          | bad e' => rw [h5] at h3; exact h3
          | ok vs c3 f3 => rw [h5] at h3; simp [erL] at h3
        | ok vs c3 f3 =>
          rw [h4] at h3
          cases h5 : walksF f ws c2 f2' with
          | bad e' => rw [h5] at h3; simp [erL] at h3
          | ok vs' c3' f3' => rw [h5] at h3; exact h3
theorem walk_er (H : AHeap) : ∀ (f : Nat) (w : AWord) (c : List Int) (b b' : Bool), (walkF H f w c b).er = (walkF H f w c b').er
  | 0, w, c, b, b' => rfl
  | f + 1, w, c, b, b' => by
    simp only [walkF]
    split
    · rfl
    split
    · rfl
    split
    · rfl
    split
    · rfl
    have h := walks_er (fun w c b b' => walk_er H f w c b b') (H.get w).1.ws (c ++ [w.n]) b b'
    cases h4 : walksF (walkF H f) (H.get w).1.ws (c ++ [w.n]) b with
    | bad e =>
      rw [h4] at h
      cases h5 : walksF (walkF H f) (H.get w).1.ws (c ++ [w.n]) b' with
      | bad e' => rw [h5] at h; exact h
      | ok vs c3 f3 => rw [h5] at h; simp [erL] at h
    | ok vs c3 f3 =>
      rw [h4] at h
      cases h5 : walksF (walkF H f) (H.get w).1.ws (c ++ [w.n]) b' with
      | bad e' => rw [h5] at h; simp [erL] at h
      | ok vs' c3' f3' => rw [h5] at h; exact h
set_option maxRecDepth 100000 in
set_option maxHeartbeats 8000000 in
theorem reach65 {σ0 : List AObj} (ok : H.Ok B) {f : Nat} (hf : H.slots.length + 1 ≤ f) (ws : List AWord) (hwl : ws.length ≤ 1000000) (h : RHeap σ0 q H) : Runs Try.prog 65 [.ptr q.p 0 0, .d (.lst 4 (wordsR ws))] σ0 (fun r σ' => r = .d (.tup [.v (.int .i64 (reachM H f ws).1), .v (.int .i64 (reachM H f ws).2)]) ∧ KeptP (fun _ => True) σ0 σ') := by
  have hK := KeptP.refl (fun _ => True) σ0
  have e1 := wordsR_len ws
  have hend := walk_end H f
  refine enterB 31 tab_ok Try.func65 rfl (by kernel_rfl) rfl rfl rfl ?_
  repeat' (first | refine s_op rfl ?_ | (apply s_assign; (iterate 4 (exact rfl))) | (refine w_adoptF 6 2 1 rfl ?_; intro locC σ hc; have hC := hc.at'; have pC : q.p ≠ locC ∧ q.s ≠ locC ∧ q.g ≠ locC := (by obtain ⟨vs, vg, gr, a, b, c, _⟩ := h.at'; exact ⟨hc.ne a, hc.ne b, hc.ne c⟩); replace h := h.keep (KeptP.fresh (KeptP.refl _ _) hc); have oC := hK.out hc; replace hK := hK.fresh hc; clear hc) | refine al_nil ?_ | refine q_then_n ?_ | refine aw_block ?_ | refine aw_seq ?_ | refine aw_reg ?_)
  have hwq := fun w c b σ ver hs hl h hC => walk_q (locC := locC) ok pC.1 pC.2.1 pC.2.2 f w c b σ ver hs hl h hC
  refine w_loop [0, 1, 6, 8] (fun n' vs' σ' => ∃ (j ver : Nat) (vsj : List Val) (cj : List Int) (fj : Bool), vs' = [.ptr q.p 0 0, .d (.lst 4 (wordsR ws)), .own locC ver 1 0 cj.length, .d (.v (.int .i64 (j : Int)))] ∧ walksF (walkF H f) (ws.take j) [] false = .ok vsj cj fj ∧ Seen H cj ∧ RHeap σ' q H ∧ σ'[locC]? = some (.arr 2 1 ver (comeR cj)) ∧ KeptP (fun _ => True) σ0 σ' ∧ j ≤ ws.length ∧ n' = ws.length - j) rfl ⟨0, 0, [], [], false, rfl, rfl, ⟨List.nodup_nil, fun x hx => by cases hx⟩, h, hC, hK, by omega, rfl⟩ ?_
  clear h hC hK
  rintro n' vs' σ ⟨j, ver, vsj, cj, fj, rfl, hwalk, hsn, h, hC, hK, hj, rfl⟩ fr hfr
  cases hfr
  by_cases hlt : j < ws.length
  · obtain ⟨w, hw⟩ := getS hlt
    obtain ⟨w1, w2⟩ := walksF_take hw hwalk
    have hcl := hwq w cj false σ ver hsn (by omega) h hC
    have her := walk_er H f w cj false fj
    have hsn2 := (hend w cj false hsn (by omega)).2
    have hok : ∀ v c2 f2, walkF H f w cj false = .ok v c2 f2 → ∃ v' f2', walksF (walkF H f) (ws.take (j + 1)) [] false = .ok (vsj ++ [v']) c2 f2' := fun v c2 f2 hf => by
      rw [hf] at her
      cases h5 : walkF H f w cj fj with
      | bad e' => rw [h5] at her; simp [Res.er] at her
      | ok v' c2' f2' =>
        rw [h5] at her
        simp only [Res.er, Except.ok.injEq] at her
        subst her
        exact ⟨v', f2', w1 _ _ _ h5⟩
    have hbad : ∀ e, walkF H f w cj false = .bad e → reachM H f ws = (0, e) := fun e hf => by
      rw [hf] at her
      cases h5 : walkF H f w cj fj with
      | bad e' =>
        rw [h5] at her
        simp only [Res.er, Except.error.injEq] at her
        subst her
        unfold reachM
        rw [w2 _ h5]
      | ok v' c2' f2' => rw [h5] at her; simp [Res.er] at her
    unfold WalkP at hcl
    clear hwq hend her hwalk w1 w2
    obtain ⟨xk, xn, xs, xg⟩ := w
    repeat' (first | refine s_op rfl ?_ | (apply s_move; (iterate 4 (exact rfl))) | (apply s_ld_f tab_ok; (iterate 6 (exact rfl))) | (apply s_assign; (iterate 4 (exact rfl))) | (apply s_len tab_ok; (iterate 5 (exact rfl))) | (apply s_idx tab_ok; (iterate 7 (exact rfl)); (first | exact valR_get (by assumption) | exact wordsR_get (by assumption) | assumption)) | (apply s_ext; (iterate 5 (exact rfl))) | (apply s_neq_t; (iterate 5 (exact rfl)); omega) | (apply s_neq_f; (iterate 5 (exact rfl)); omega) | (apply s_lss_t; (iterate 5 (exact rfl)); omega) | (apply s_add64; (iterate 5 (exact rfl)); omega) | (apply s_callS; (iterate 6 (exact rfl)); exact hcl; rintro _ σ2 (⟨v, c2, f2, ver2, hf2, rfl, hC2, hk2⟩ | ⟨e, ver2, m2, f2, hf2, he, rfl, hk2⟩) <;> (replace hK : KeptP (fun _ => True) σ0 σ2 := (fun i o _ eo => hk2 i o (fun e2 => by subst e2; exact oC o trivial eo) (hK i o trivial eo)); replace h := h.keepP hk2 pC.1 pC.2.1 pC.2.2; clear hcl)) | refine al_nil ?_ | refine q_then_n ?_ | refine q_blk_n ?_ | refine q_blk_r ?_ | refine aw_block ?_ | refine q_then_r ?_ | refine aw_seq ?_ | refine aw_reg ?_ | refine aw_true rfl ?_ | refine aw_false rfl ?_ | refine aw_skip ?_ | refine aw_ret ?_)
    · obtain ⟨v', f2', h6⟩ := hok _ _ _ hf2
      exact ⟨_, _, rfl, by omega, j + 1, _, _, c2, f2', rfl, h6, (hsn2 _ _ _ hf2).1, h, hC2, hK, by omega, rfl⟩
    · rw [hbad e hf2]
      exact q_retB (resB_2 rfl (resV_t rfl) (resV_t rfl) rfl) ⟨rfl, hK⟩
  · have hjl : j = ws.length := by omega
    rw [List.take_of_length_le (by omega)] at hwalk
    have hr : reachM H f ws = ((cj.length : Int), 0) := by unfold reachM; rw [hwalk]
    rw [hr]
    clear hwq
    repeat' (first | refine s_op rfl ?_ | (apply s_move; (iterate 4 (exact rfl))) | (apply s_assign; (iterate 4 (exact rfl))) | (apply s_len tab_ok; (iterate 5 (exact rfl))) | (apply s_lss_f; (iterate 5 (exact rfl)); omega) | refine al_nil ?_ | refine q_then_n ?_ | refine q_blk_e ?_ | refine q_then_e ?_ | refine aw_exit ?_ | refine aw_seq ?_ | refine aw_reg ?_ | refine aw_false rfl ?_ | refine aw_ret ?_)
    all_goals exact q_retB (resB_2 rfl (resV_t rfl) (resV_t rfl) rfl) ⟨rfl, hK⟩
end
end Go.Proofs.Ytciciaikajdenaa
