/- T29: the law's alike: a heap and a world, and the document's. -/
import Derived.Test.YtciciaikajdenaaTPR12T28x2
import Derived.Test.YtciciaikajdenaaTPR12N26x7
import Derived.Test.YtciciaikajdenaaTPR12T25x4
set_option linter.unusedSimpArgs false
set_option linter.unusedVariables false
namespace Go.Proofs.Ytciciaikajdenaa
open Go.RowKit

theorem same37 (ws : List AWord) (hl : ws.length ≤ 1000000) : RunsP Try.prog 37 [.lst 4 (wordsR ws), .lst 4 (wordsR ws)] (fun v => v = .v (.bool true)) := by
  have h26 := same26 ⟨0, 0, ws⟩ hl
  replace h26 : RunsP Try.prog 26 [.agg [DV.v (.int .u8 0), DV.v (.int .i64 0), DV.lst 4 (wordsR ws)], .agg [DV.v (.int .u8 0), DV.v (.int .i64 0), DV.lst 4 (wordsR ws)]] (fun v => v = .v (.bool true)) := h26
  refine enterPB 10 tab_ok Try.func37 rfl (by kernel_rfl) rfl rfl rfl ?_
  repeat' (first | refine s_op rfl ?_ | (apply s_move; (iterate 4 (exact rfl))) | (apply s_assign; (iterate 4 (exact rfl))) | (apply s_build tabZ_ok; (iterate 5 (exact rfl))) | (apply s_call; (iterate 6 (exact rfl)); first | (exact h26; rintro _ rfl)) | refine al_nil ?_ | refine q_then_n ?_ | refine aw_seq ?_ | refine aw_reg ?_ | refine aw_ret ?_)
  all_goals exact q_retB (resB_1 rfl (resV_t rfl)) ⟨_, rfl, rfl⟩
noncomputable def tail69 : Option Code := match Try.f69.body with
  | some c => findW 3 c
  | none => none
section
variable {σ0 : List AObj} {q : RQ} {x y : WQ} {H : AHeap} {hs : List Bool} {B : Int} {locH : Nat}
set_option maxRecDepth 100000 in
set_option maxHeartbeats 8000000 in
theorem alike_tail {vh vt m : Nat} {cs : List AWord} (hcs : ∀ w ∈ cs, (H.get w).2 = 0 ∧ (H.get w).1.ws.length ≤ 64) (hcl : cs.length ≤ 1000000) (hm : hs.length = m) (hl : m ≤ 1000000)
    (c39 : ∀ σ, RHeap σ q H → Runs Try.prog 39 [.ptr q.p 0 0] σ (fun r σ' => r = .d (.lst 4 (wordsR cs)) ∧ KeptP (fun _ => True) σ σ'))
    (c113 : ∀ σ, PW σ x hs → Runs Try.prog 113 [.ptr x.p 0 0] σ (fun r σ' => ∃ rows, rows.length = cntF hs ∧ r = .d (.lst 1 rows) ∧ KeptP (fun _ => True) σ σ'))
    (c22 : ∀ w σ, σ[locH]? = some (ho H) → Runs Try.prog 22 [.ptr locH 0 0, .d (.agg (wordD w))] σ (fun r σ' => r = .d (.tup [.agg (cellD (H.get w).1), .v (.int .i64 (H.get w).2)]) ∧ σ' = σ))
    (c23 : ∀ w σ, RHeap σ q H → Runs Try.prog 23 [.ptr q.p 0 0, .d (.agg (wordD w))] σ (fun r σ' => r = .d (.tup [.agg (cellD (H.get w).1), .v (.int .i64 (H.get w).2)]) ∧ KeptP (fun _ => True) σ σ'))
    {σ : List AObj} (hH : σ[locH]? = some (ho H)) (h : RHeap σ q H) (hx : PW σ x hs) (hY : σ[y.p]? = some (.row 157 [.d (.lst 2 [[DV.v (.string ⟨#[97]⟩), DV.v (.string ⟨#[98]⟩)]]), .d .nil, .d (.v (.int .i64 0)), .own y.h vh 2 0 m, .own y.t vt 5 0 m])) (hYH : σ[y.h]? = some (.arr 173 2 vh (rRows hs))) (hK : KeptP (fun _ => True) σ0 σ) {c : Code} (hc : tail69 = some c) :
    AWk Try.prog 103 c (retQB tab Try.f69 (fun r σ' => r = .d (.v (.bool true)) ∧ KeptP (fun _ => True) σ0 σ')) [(0, .ptr locH 0 0), (1, .ptr q.p 0 0), (2, .ptr x.p 0 0), (3, .ptr y.p 0 0)] σ := by
  have e1 := wordsR_len cs
  have e2 := rRows_len hs
  cases hc
  repeat' (first | refine s_op rfl ?_ | (apply s_move; (iterate 4 (exact rfl))) | (apply s_len tab_ok; (iterate 5 (exact rfl))) | (apply s_callS; (iterate 6 (exact rfl)); exact c39 _ h; rintro _ σ ⟨rfl, hk2⟩; replace hH := hk2 _ _ trivial hH; replace h := h.keep hk2; replace hx := hx.keep hk2; replace hY := hk2 _ _ trivial hY; replace hYH := hk2 _ _ trivial hYH; replace hK := hK.trans hk2; clear hk2) | refine al_nil ?_ | refine q_then_n ?_ | refine aw_block ?_ | refine aw_seq ?_ | refine aw_reg ?_)
  refine w_loop [0, 1, 2, 3, 52, 53, 54] (fun n' vs' σ' => ∃ j : Nat, vs' = [.ptr locH 0 0, .ptr q.p 0 0, .ptr x.p 0 0, .ptr y.p 0 0, .d (.lst 4 (wordsR cs)), .d (.v (.int .i64 ((wordsR cs).length : Int))), .d (.v (.int .i64 (j : Int)))] ∧ σ'[locH]? = some (ho H) ∧ RHeap σ' q H ∧ PW σ' x hs ∧ σ'[y.p]? = some (.row 157 [.d (.lst 2 [[DV.v (.string ⟨#[97]⟩), DV.v (.string ⟨#[98]⟩)]]), .d .nil, .d (.v (.int .i64 0)), .own y.h vh 2 0 m, .own y.t vt 5 0 m]) ∧ σ'[y.h]? = some (.arr 173 2 vh (rRows hs)) ∧ KeptP (fun _ => True) σ0 σ' ∧ j ≤ cs.length ∧ n' = cs.length - j) rfl ⟨0, rfl, hH, h, hx, hY, hYH, hK, by omega, rfl⟩ ?_
  clear hH h hx hY hYH hK
  rintro n' vs' σ ⟨j, rfl, hH, h, hx, hY, hYH, hK, hj, rfl⟩ fr hfr
  cases hfr
  by_cases hlt : j < cs.length
  · obtain ⟨w, hw⟩ := getS hlt
    obtain ⟨g1, g2⟩ := hcs w (List.mem_of_getElem? hw)
    have d22 := c22 w
    have d23 := c23 w
    rw [g1] at d22 d23
    have h26 := same26 (H.get w).1 (by omega)
    generalize (H.get w).1 = cc at *
    obtain ⟨ck, cn, cw⟩ := cc
    obtain ⟨wk, wn, ws, wg⟩ := w
    clear c22 c23 c39 c113 hcs g1 g2
    have hK0 := hK
    replace hK := KeptP.refl (fun _ => True) σ
    repeat' (first | refine s_op rfl ?_ | (apply s_move; (iterate 4 (exact rfl))) | (apply s_ld_f tab_ok; (iterate 6 (exact rfl))) | (apply s_assign; (iterate 4 (exact rfl))) | (apply s_pick_f; (iterate 5 (exact rfl))) | (apply s_idx tab_ok; (iterate 7 (exact rfl)); (first | exact valR_get (by assumption) | exact wordsR_get (by assumption) | assumption)) | (apply s_ext; (iterate 5 (exact rfl))) | (apply s_not_t; (iterate 4 (exact rfl))) | (apply s_neq_f; (iterate 5 (exact rfl)); omega) | (apply s_lss_t; (iterate 5 (exact rfl)); omega) | (apply s_add64; (iterate 5 (exact rfl)); omega) | (apply s_allocF tabZ_ok (d := 10); (iterate 6 (exact rfl)); intro locX σ hc; have hX := hc.at'; have oX := hK.out hc; replace hK := hK.fresh hc; clear hc) | (apply s_allocF tabZ_ok (d := 11); (iterate 6 (exact rfl)); intro locA σ hc; have hA := hc.at'; have nXA := hc.ne hX; replace hX := hc.keep hX; have oA := hK.out hc; replace hK := hK.fresh hc; clear hc) | (apply s_allocF tabZ_ok (d := 13); (iterate 6 (exact rfl)); intro locB σ hc; have hB := hc.at'; have nXB := hc.ne hX; replace hX := hc.keep hX; have nAB := hc.ne hA; replace hA := hc.keep hA; have oB := hK.out hc; replace hK := hK.fresh hc; clear hc) | (apply s_storeF tab_ok; (iterate 7 (exact rfl)); exact hX; (iterate 2 (exact rfl)); intro σ hc; replace hX := hc.at'; replace hK := hK.chg oX hc; clear hc) | (apply s_storeF tab_ok; (iterate 7 (exact rfl)); exact hA; (iterate 2 (exact rfl)); intro σ hc; replace hA := hc.at'; replace hX := hc.keep (by first | assumption | (apply Ne.symm; assumption) | omega) hX; replace hK := hK.chg oA hc; clear hc) | (apply s_storeF tab_ok; (iterate 7 (exact rfl)); exact hB; (iterate 2 (exact rfl)); intro σ hc; replace hB := hc.at'; replace hX := hc.keep (by first | assumption | (apply Ne.symm; assumption) | omega) hX; replace hA := hc.keep (by first | assumption | (apply Ne.symm; assumption) | omega) hA; replace hK := hK.chg oB hc; clear hc) | (apply s_ldF tab_ok; (iterate 5 (exact rfl)); exact hX; exact rfl) | (apply s_ldF tab_ok; (iterate 5 (exact rfl)); exact hA; exact rfl) | (apply s_ldF tab_ok; (iterate 5 (exact rfl)); exact hB; exact rfl) | (apply s_callS; (iterate 6 (exact rfl)); exact d22 _ (hK _ _ trivial hH); rintro _ σ2 ⟨rfl, rfl⟩) | (apply s_callS; (iterate 6 (exact rfl)); exact d23 _ (h.keep hK); rintro _ σ2 ⟨rfl, hk2⟩; replace hX := hk2 _ _ trivial hX; replace hA := hk2 _ _ trivial hA; replace hK := hK.trans hk2; clear hk2) | (apply s_call; (iterate 6 (exact rfl)); first | (exact h26; rintro _ rfl)) | refine al_nil ?_ | refine q_then_n ?_ | refine q_blk_n ?_ | refine aw_block ?_ | refine aw_seq ?_ | refine aw_reg ?_ | refine aw_true rfl ?_ | refine aw_false rfl ?_ | refine aw_skip ?_)
    all_goals exact ⟨_, _, rfl, by omega, j + 1, rfl, hK _ _ trivial hH, h.keep hK, hx.keep hK, hK _ _ trivial hY, hK _ _ trivial hYH, hK0.trans hK, by omega, rfl⟩
  · have hlen : hs.length = (rRows hs).length := e2.symm
    repeat' (first | refine s_op rfl ?_ | (apply s_move; (iterate 4 (exact rfl))) | (apply s_fa_p tab_ok; (iterate 5 (exact rfl))) | (apply s_assign; (iterate 4 (exact rfl))) | (apply s_len tab_ok; (iterate 5 (exact rfl))) | (apply s_nilc; (iterate 5 (exact rfl))) | (apply s_lss_f; (iterate 5 (exact rfl)); omega) | (apply s_ldF tab_ok; (iterate 5 (exact rfl)); exact hY; exact rfl) | refine al_nil ?_ | refine q_then_n ?_ | refine q_blk_e ?_ | refine q_then_e ?_ | refine aw_block ?_ | refine aw_exit ?_ | refine aw_seq ?_ | refine aw_reg ?_ | refine aw_false rfl ?_)
    refine w_loop [2, 15, 86, 87, 88] (fun n' vs' σ' => ∃ j : Nat, vs' = [.ptr x.p 0 0, .d (.v (.int .i64 (cntF (hs.take j) : Int))), .own y.h vh 2 0 m, .d (.v (.int .i64 (m : Int))), .d (.v (.int .i64 (j : Int)))] ∧ PW σ' x hs ∧ σ'[y.h]? = some (.arr 173 2 vh (rRows hs)) ∧ KeptP (fun _ => True) σ0 σ' ∧ j ≤ m ∧ n' = m - j) rfl ⟨0, rfl, hx, hYH, hK, by omega, rfl⟩ ?_
    clear hH h hx hY hYH hK hj c22 c23 c39 hcs hlt
    rintro n' vs' σ ⟨j, rfl, hx, hYH, hK, hj, rfl⟩ fr hfr
    cases hfr
    by_cases hlt : j < m
    · obtain ⟨b, hb⟩ := getS (show j < hs.length by omega)
      have hr := rRows_get hb
      have hct := cntF_take hb
      have hcl2 : cntF (hs.take j) ≤ j := by unfold cntF; exact Nat.le_trans (List.length_filter_le _ _) (by simp; omega)
      have hK0 := hK
      replace hK := KeptP.refl (fun _ => True) σ
      cases b with
      | true =>
        replace hr : (rRows hs)[j]? = some [DV.v (.int .i64 (-1)), DV.v (.int .i64 0)] := hr
        replace hct : cntF (hs.take (j + 1)) = cntF (hs.take j) := hct
        rw [← hct] at hcl2 ⊢
        repeat' (first | refine s_op rfl ?_ | (apply s_move; (iterate 4 (exact rfl))) | (apply s_fa_p tab_ok; (iterate 5 (exact rfl))) | (apply s_lss_t; (iterate 5 (exact rfl)); omega) | (apply s_geq_f; (iterate 5 (exact rfl)); omega) | (apply s_add64; (iterate 5 (exact rfl)); omega) | (apply s_idxO (j * 2) tab_ok; (iterate 7 (exact rfl)); exact hYH; exact ⟨by omega, by omega⟩) | (apply s_ldA j 0 tab_ok; (iterate 5 (exact rfl)); exact hYH; exact hr; omega; exact rfl) | (apply s_allocF tabZ_ok (d := 17); (iterate 6 (exact rfl)); intro locX σ hc; have hX := hc.at'; have oX := hK.out hc; replace hK := hK.fresh hc; clear hc) | (apply s_storeF tab_ok; (iterate 7 (exact rfl)); exact hX; (iterate 2 (exact rfl)); intro σ hc; replace hX := hc.at'; replace hK := hK.chg oX hc; clear hc) | (apply s_ldF tab_ok; (iterate 5 (exact rfl)); exact hX; exact rfl) | refine al_nil ?_ | refine q_then_n ?_ | refine q_blk_n ?_ | refine aw_block ?_ | refine aw_seq ?_ | refine aw_reg ?_ | refine aw_true rfl ?_ | refine aw_false rfl ?_ | refine aw_skip ?_)
        all_goals exact ⟨_, _, rfl, by omega, j + 1, rfl, hx.keep hK, hK _ _ trivial hYH, hK0.trans hK, by omega, rfl⟩
      | false =>
        replace hr : (rRows hs)[j]? = some [DV.v (.int .i64 0), DV.v (.int .i64 0)] := hr
        replace hct : cntF (hs.take (j + 1)) = cntF (hs.take j) + 1 := hct
        repeat' (first | refine s_op rfl ?_ | (apply s_move; (iterate 4 (exact rfl))) | (apply s_fa_p tab_ok; (iterate 5 (exact rfl))) | (apply s_assign; (iterate 4 (exact rfl))) | (apply s_lss_t; (iterate 5 (exact rfl)); omega) | (apply s_geq_t; (iterate 5 (exact rfl)); omega) | (apply s_add64; (iterate 5 (exact rfl)); omega) | (apply s_idxO (j * 2) tab_ok; (iterate 7 (exact rfl)); exact hYH; exact ⟨by omega, by omega⟩) | (apply s_ldA j 0 tab_ok; (iterate 5 (exact rfl)); exact hYH; exact hr; omega; exact rfl) | (apply s_allocF tabZ_ok (d := 17); (iterate 6 (exact rfl)); intro locX σ hc; have hX := hc.at'; have oX := hK.out hc; replace hK := hK.fresh hc; clear hc) | (apply s_storeF tab_ok; (iterate 7 (exact rfl)); exact hX; (iterate 2 (exact rfl)); intro σ hc; replace hX := hc.at'; replace hK := hK.chg oX hc; clear hc) | (apply s_ldF tab_ok; (iterate 5 (exact rfl)); exact hX; exact rfl) | refine al_nil ?_ | refine q_then_n ?_ | refine q_blk_n ?_ | refine aw_block ?_ | refine aw_seq ?_ | refine aw_reg ?_ | refine aw_true rfl ?_ | refine aw_skip ?_)
        all_goals exact ⟨_, _, rfl, by omega, j + 1, by (rw [hct]; rfl), hx.keep hK, hK _ _ trivial hYH, hK0.trans hK, by omega, rfl⟩
    · rw [List.take_of_length_le (by omega)]
      repeat' (first | refine s_op rfl ?_ | (apply s_move; (iterate 4 (exact rfl))) | (apply s_assign; (iterate 4 (exact rfl))) | (apply s_len tab_ok; (iterate 5 (exact rfl))) | (apply s_eql_t; (iterate 5 (exact rfl)); omega) | (apply s_lss_f; (iterate 5 (exact rfl)); omega) | (apply s_callS; (iterate 6 (exact rfl)); exact c113 _ hx; rintro _ σ2 ⟨rows, hrl, rfl, hk2⟩; replace hK := hK.trans hk2; clear hk2) | refine al_nil ?_ | refine q_then_n ?_ | refine q_blk_e ?_ | refine q_then_e ?_ | refine aw_exit ?_ | refine aw_seq ?_ | refine aw_reg ?_ | refine aw_false rfl ?_ | refine aw_ret ?_)
      all_goals exact q_retB (resB_1 rfl (resV_t rfl)) ⟨rfl, hK⟩
set_option maxRecDepth 100000 in
set_option maxHeartbeats 8000000 in
theorem alike69 (ok : H.Ok B) (hH : σ0[locH]? = some (ho H)) (h : RHeap σ0 q H) (hx : PW σ0 x hs) (hy : RW σ0 y hs) (hl : hs.length ≤ 1000000) : Runs Try.prog 69 [.ptr locH 0 0, .ptr q.p 0 0, .ptr x.p 0 0, .ptr y.p 0 0] σ0 (fun r σ' => r = .d (.v (.bool true)) ∧ KeptP (fun _ => True) σ0 σ') := by
  have hK := KeptP.refl (fun _ => True) σ0
  have hsl : H.slots.length ≤ 100000 := by have := ok.few; have := ok.room1; omega
  have hwd : ∀ s ∈ H.slots, s.c.ws.length ≤ 64 := ok.words
  have c33 := live_m H
  have c36 := most_m H
  have c38 := cells_m ok
  have c34 := fun (σ : List AObj) (h : RHeap σ q H) => live_q h (by omega)
  have c39 := fun (σ : List AObj) (h : RHeap σ q H) => cells_q h (by omega)
  have c54 := fun (σ : List AObj) (hx : PW σ x hs) => trace54 hx hl
  have c113 := fun (σ : List AObj) (hx : PW σ x hs) => handles113 hx hl
  have c22 := fun (w : AWord) (σ : List AObj) (hH : σ[locH]? = some (ho H)) => get_r hH ok w
  have c23 := fun (w : AWord) (σ : List AObj) (h : RHeap σ q H) => get_q h (by omega) hwd w
  have hcw : ∀ w ∈ H.cells, (H.get w).2 = 0 ∧ (H.get w).1.ws.length ≤ 64 := fun w hw => by
    refine ⟨cells_get ok hw, ?_⟩
    unfold AHeap.get
    split
    · rename_i hz
      obtain ⟨_, _, _, _, h5, _⟩ := AHeap.find_zero hz
      exact ok.words _ (AHeap.slot_mem h5)
    · simp [ACell.zero]
  have hcl : H.cells.length ≤ 1000000 := by
    have := cells_len ok
    have := live_len H
    omega
  have el : ((countLive H.slots : Nat) : Int) = H.live := ok.live_eq.symm
  rw [el] at c34
  have c37 := same37 H.cells hcl
  generalize H.live = lv at *
  generalize H.cells = cs at *
  have e1 := wordsR_len cs
  obtain ⟨vs, vg, gr, hQ, _⟩ := h.at'
  obtain ⟨vh, vt, hY, hYH, hYT⟩ := hy.at'
  obtain ⟨m, hm⟩ : ∃ m, hs.length = m := ⟨_, rfl⟩
  rw [hm] at hY hYT c54 hl
  replace hQ : σ0[q.p]? = some (.row 54 [.d (.v (.int .i64 H.room)), .own q.s vs 5 0 H.slots.length, .own q.g vg 1 0 H.free.length, .d (.v (.int .i64 H.most))]) := hQ
  have e2 := rRows_len hs
  have e3 := oRows_len m
  unfold Look at c33 c36 c38
  clear hy hYT
  refine enterB 103 tab_ok Try.func69 rfl (by kernel_rfl) rfl rfl rfl ?_
  repeat' (first | refine s_op rfl ?_ | (apply s_move; (iterate 4 (exact rfl))) | (apply s_fa_p tab_ok; (iterate 5 (exact rfl))) | (apply s_assign; (iterate 4 (exact rfl))) | (apply s_pick_f; (iterate 5 (exact rfl))) | (apply s_len tab_ok; (iterate 5 (exact rfl))) | (apply s_nilc; (iterate 5 (exact rfl))) | (apply s_not_t; (iterate 4 (exact rfl))) | (apply s_neq_f; (iterate 5 (exact rfl)); omega) | (refine w_keep [0, 1, 2, 3] rfl rfl ?_; exact alike_tail hcw hcl hm (by omega) c39 c113 c22 c23 hH h hx hY hYH hK rfl) | (apply s_callS; (iterate 6 (exact rfl)); exact c33 _ _ hH; rintro _ σ ⟨rfl, rfl⟩) | (apply s_callS; (iterate 6 (exact rfl)); exact c36 _ _ hH; rintro _ σ ⟨rfl, rfl⟩) | (apply s_callS; (iterate 6 (exact rfl)); exact c38 _ _ hH; rintro _ σ ⟨rfl, rfl⟩) | (apply s_callS; (iterate 6 (exact rfl)); exact c34 _ h; rintro _ σ ⟨rfl, rfl⟩) | (apply s_callS; (iterate 6 (exact rfl)); exact c39 _ h; rintro _ σ ⟨rfl, hk2⟩; (replace hH := hk2 _ _ trivial hH; replace h := h.keep hk2; replace hQ := hk2 _ _ trivial hQ; replace hx := hx.keep hk2; replace hY := hk2 _ _ trivial hY; replace hYH := hk2 _ _ trivial hYH; replace hK := hK.trans hk2; clear hk2)) | (apply s_callS; (iterate 6 (exact rfl)); exact c54 _ hx; rintro _ σ ⟨rfl, hk2⟩; (replace hH := hk2 _ _ trivial hH; replace h := h.keep hk2; replace hQ := hk2 _ _ trivial hQ; replace hx := hx.keep hk2; replace hY := hk2 _ _ trivial hY; replace hYH := hk2 _ _ trivial hYH; replace hK := hK.trans hk2; clear hk2)) | (apply s_ldF tab_ok; (iterate 5 (exact rfl)); exact hQ; exact rfl) | (apply s_ldF tab_ok; (iterate 5 (exact rfl)); exact hY; exact rfl) | (apply s_call; (iterate 6 (exact rfl)); first | (exact c37; rintro _ rfl)) | refine al_nil ?_ | refine q_then_n ?_ | refine aw_seq ?_ | refine aw_reg ?_ | refine aw_false rfl ?_ | refine aw_skip ?_ | refine al_fork ?_ ?_ | refine aw_draws (id := 1) (trO [0, 2, 1, 3, 4, 5, 6, 8, 9, 10] (.fork 7 (trO [11, 12, 13, 14, 15, 17, 16, 18, 19, 20, 21, 22, 23, 26, 27, 28] (.fork 24 (trO [25, 29, 30, 31, 32] .nil) 29 (trO [30, 24, 25, 31, 32] .nil))) 11 (trO [7, 12, 13, 14, 15, 17, 16, 18, 19, 20, 21, 22, 23, 26, 27, 28] (.fork 24 (trO [25, 29, 30, 31, 32] .nil) 29 (trO [30, 24, 25, 31, 32] .nil))))) [1, 3, 7, 11, 16, 18, 19, 24, 29] [1, 3, 7, 16, 18, 24] mixed_ok (by kernel_rfl) ?_)
end
end Go.Proofs.Ytciciaikajdenaa
/- T30: CellPlays: plain law: a walk that ends is of what a word holds; what stays right. No program in sight. -/
set_option linter.unusedSimpArgs false
set_option linter.unusedVariables false
namespace Go.Proofs.Ytciciaikajdenaa
open Go.RowKit

theorem word_leaf {w : AWord} (h : w.ok = true) (h5 : w.k ≠ 5) : w.g = 0 ∧ 1 ≤ w.k ∧ w.k < 11 := by
  unfold AWord.ok at h
  repeat' split at h
  all_goals first
    | (simp at h; done)
    | (simp at h; refine ⟨?_, ?_, ?_⟩ <;> omega)
theorem word_five {w : AWord} (h : w.ok = true) (h5 : w.k = 5) : w.s = ⟨#[]⟩ := by
  unfold AWord.ok at h
  simp only [h5] at h
  simp at h
  exact empty_of (by simpa using h.1.2)
theorem find_word {H : AHeap} {w : AWord} (h : (H.find w).1 = 0) : ∃ i : Nat, i < H.slots.length ∧ (H.slot i).lives = true ∧ w = cellWord i (H.slot i).gen ∧ H.get w = ((H.slot i).c, 0) := by
  obtain ⟨z1, z2, z3, z4, z5, z6, z7⟩ := AHeap.find_zero h
  refine ⟨(H.find w).2, z5, z6, ?_, by unfold AHeap.get; rw [if_pos h]⟩
  have hs := word_five z2 z1
  obtain ⟨wk, wn, ws, wg⟩ := w
  simp only at z1 hs
  unfold cellWord
  rw [← z4, z7]
  subst z1 hs
  rfl
theorem walks_holds {H : AHeap} {f : AWord → List Int → Bool → Res Val} (hf : ∀ w come fl v c2 f2, f w come fl = .ok v c2 f2 → ∃ S, Holds H v w S ∧ c2 = come ++ intsN S) : ∀ (ws : List AWord) (come : List Int) (fl : Bool) (vs : List Val) (c2 : List Int) (f2 : Bool), walksF f ws come fl = .ok vs c2 f2 → ∃ S, HoldsL H vs ws S ∧ c2 = come ++ intsN S
  | [], come, fl, vs, c2, f2, h => by
    unfold walksF at h
    injection h with h1 h2 h3
    subst h1 h2
    exact ⟨[], ⟨rfl, rfl⟩, by simp [intsN]⟩
  | w :: ws, come, fl, vs, c2, f2, h => by
    unfold walksF at h
    cases h1 : f w come fl with
    | bad e => rw [h1] at h; cases h
    | ok v c1 f1 =>
      rw [h1] at h
      simp only at h
      cases h2 : walksF f ws c1 f1 with
      | bad e => rw [h2] at h; cases h
      | ok vs' c3 f3 =>
        rw [h2] at h
        simp only at h
        injection h with h3 h4 h5
        subst h3 h4
        obtain ⟨S1, a1, a2⟩ := hf _ _ _ _ _ _ h1
        obtain ⟨S2, b1, b2⟩ := walks_holds hf ws c1 f1 _ _ _ h2
        exact ⟨S1 ++ S2, ⟨w, ws, S1, S2, rfl, rfl, a1, b1⟩, by rw [b2, a2, intsN_append, List.append_assoc]⟩
theorem walk_holds {H : AHeap} (lv : LiveOk H) : ∀ (f : Nat) (w : AWord) (come : List Int) (fl : Bool) (v : Val) (c2 : List Int) (f2 : Bool), walkF H f w come fl = .ok v c2 f2 → ∃ S, Holds H v w S ∧ c2 = come ++ intsN S
  | 0, w, come, fl, v, c2, f2, h => by simp [walkF] at h
  | f + 1, w, come, fl, v, c2, f2, h => by
    unfold walkF at h
    split at h
    · cases h
    · rename_i hok
      split at h
      · rename_i h5
        injection h with h1 h2 h3
        subst h1 h2
        have hok : w.ok = true := by simpa using hok
        obtain ⟨g0, k1, k2⟩ := word_leaf hok h5
        obtain ⟨wk, wn, ws, wg⟩ := w
        simp only at g0
        subst g0
        exact ⟨[], .inl ⟨k2, h5, rfl, hok, rfl, rfl⟩, by simp [intsN]⟩
      · split at h
        · cases h
        · rename_i hz
          simp only [ne_eq, Decidable.not_not] at hz
          split at h
          · cases h
          · obtain ⟨i, a1, a2, a3, a4⟩ := find_word hz
            cases h2 : walksF (walkF H f) (H.get w).1.ws (come ++ [w.n]) fl with
            | bad e => rw [h2] at h; cases h
            | ok vs c3 f3 =>
              rw [h2] at h
              simp only at h
              injection h with h3 h4 h5
              subst h3 h4
              obtain ⟨SS, b1, b2⟩ := walks_holds (fun w come fl v c2 f2 h => walk_holds lv f w come fl v c2 f2 h) _ _ _ _ _ _ h2
              rw [a4] at b1 ⊢
              have hk := ok_kind (lv.slot a1 a2)
              refine ⟨i :: SS, .inr ⟨by (show ¬ (H.slot i).c.k + 10 < 11); omega, i, SS, a3, a1, a2, by (show (H.slot i).c.k = (H.slot i).c.k + 10 - 10); omega, rfl, rfl, rfl, b1⟩, ?_⟩
              rw [b2, a3]
              simp [intsN, cellWord]
mutual
theorem Holds.mass {H : AHeap} {B : Int} (ok : H.Ok B) : ∀ {v : Val} {w : AWord} {S : List Nat}, Holds H v w S → massV v ≤ 1 + 64 * S.length
  | .mk k n s l, w, S, h => by
    rcases h with ⟨_, _, _, _, rfl, rfl⟩ | ⟨h0, i, SS, h1, h2, h3, h4, h5, h6, rfl, h8⟩
    · simp [massV, massVL]
    · have h9 := HoldsL.mass ok h8
      have h10 := h8.len
      have h11 := ok.words _ (AHeap.slot_mem h2)
      simp only [massV, List.length_cons]
      omega
theorem HoldsL.mass {H : AHeap} {B : Int} (ok : H.Ok B) : ∀ {l : List Val} {ws : List AWord} {S : List Nat}, HoldsL H l ws S → massVL l ≤ l.length + 64 * S.length
  | [], ws, S, h => by simp [massVL]
  | v :: l, ws, S, ⟨w, ws', S1, S2, e1, e2, h1, h2⟩ => by
    have h3 := Holds.mass ok h1
    have h4 := HoldsL.mass ok h2
    subst e2
    simp only [massVL, List.length_cons, List.length_append]
    omega
end
mutual
theorem Holds.kok {H : AHeap} (lv : LiveOk H) : ∀ {v : Val} {w : AWord} {S : List Nat}, Holds H v w S → v.kok
  | .mk k n s l, w, S, h => by
    rcases h with ⟨h1, h2, h3, h4, rfl, rfl⟩ | ⟨h0, i, SS, h1, h2, h3, h4, h5, h6, rfl, h8⟩
    · have := word_leaf h4 (by rw [h3]; exact h2)
      rw [h3] at this
      exact ⟨by have := this.2.1; simp only at this; omega, by omega, trivial⟩
    · have hk := ok_kind (lv.slot h2 h3)
      exact ⟨by omega, by omega, HoldsL.kok lv h8⟩
theorem HoldsL.kok {H : AHeap} (lv : LiveOk H) : ∀ {l : List Val} {ws : List AWord} {S : List Nat}, HoldsL H l ws S → Val.kokL l
  | [], ws, S, h => trivial
  | v :: l, ws, S, ⟨w, ws', S1, S2, e1, e2, h1, h2⟩ => ⟨Holds.kok lv h1, HoldsL.kok lv h2⟩
end
section
variable {H : AHeap} {B : Int}
theorem ok_slots (ok : H.Ok B) : H.slots.length ≤ 100000 := by have := ok.few; have := ok.room1; omega
theorem walked (ok : H.Ok B) (lv : LiveOk H) {f : Nat} (hf : H.slots.length + 1 ≤ f) {w : AWord} {v : Val} {c2 : List Int} {f2 : Bool} (h : walkF H f w [] false = .ok v c2 f2) : ∃ S, Holds H v w S ∧ S.Nodup ∧ S.length ≤ 100000 ∧ massV v ≤ 6400001 ∧ v.kok := by
  obtain ⟨S, h1, h2⟩ := walk_holds lv f w [] false v c2 f2 h
  have hs := ((walk_end H f w [] false ⟨List.nodup_nil, fun x hx => by cases hx⟩ (by simpa using hf)).2 _ _ _ h).1
  have hl := hs.len
  have hsl := ok_slots ok
  rw [h2] at hs hl
  simp only [List.nil_append] at hs hl
  have hn : S.Nodup := List.Pairwise.of_map _ (fun a b hab e => hab (by rw [e])) hs.1
  have hl2 : S.length ≤ 100000 := by
    have : (intsN S).length = S.length := by simp [intsN]
    omega
  exact ⟨S, h1, hn, hl2, by have := h1.mass ok; omega, h1.kok lv⟩
theorem walked_km (ok : H.Ok B) (lv : LiveOk H) {f : Nat} (hf : H.slots.length + 1 ≤ f) {w : AWord} : ∀ v come fl, walkF H f w [] false = .ok v come fl → v.kok ∧ massV v ≤ 1000000000 := fun v c2 f2 h => by
  obtain ⟨S, _, _, _, h1, h2⟩ := walked ok lv hf h
  exact ⟨h2, by omega⟩
theorem walked_drop (ok : H.Ok B) (lv : LiveOk H) {f : Nat} (hf : 10000000 ≤ f) {w : AWord} (h : (reachM H f [w]).2 = 0) : dropN f H w ≤ 100000 ∧ fuelOk f H w := by
  have hsl := ok_slots ok
  cases hw : walkF H f w [] false with
  | bad e =>
    rw [reach_bad hw] at h
    subst h
    exact absurd hw (walk_bad_ne H f w [] false)
  | ok v c2 f2 =>
    obtain ⟨S, h1, h2, h3, h4, _⟩ := walked ok lv (by omega) hw
    obtain ⟨_, d1, d2⟩ := h1.drop ok h2 f (by omega)
    exact ⟨by omega, d2⟩
theorem alloc_Ok (ok : H.Ok B) (hB : 0 ≤ B) (c : ACell) : (H.alloc c).2.Ok B := by
  unfold AHeap.alloc
  split
  · exact ok
  · rename_i hc
    split
    · exact ok
    · exact ok.give hB (ok_kind (by simpa using hc)).2.2 (by omega)
theorem buildM_Ok (ok : H.Ok B) (hB : 0 ≤ B) (v : Val) : (buildM H v).2.Ok B := by
  unfold buildM
  split
  · rename_i e
    have hmay : mayV v = true := by
      unfold makeE at e
      split at e
      · cases e
      · rename_i h; simpa using h
    have hr : (cellsV v : Int) ≤ H.room - H.live := by
      unfold makeE at e
      rw [if_neg (by rw [hmay]; simp)] at e
      split at e
      · cases e
      · omega
    exact (build_ok hB v H hmay ok hr).1.ok
  · exact ok
theorem copyM_Ok (ok : H.Ok B) (hB : 0 ≤ B) (f : Nat) (w : AWord) : (copyM H f w).2.Ok B := by
  unfold copyM
  split
  · exact ok
  · split
    · exact ok
    · exact buildM_Ok ok hB _
theorem dropM_Ok (ok : H.Ok B) (lv : LiveOk H) {f : Nat} (hf : 10000000 ≤ f) (w : AWord) : (dropM H f w).2.Ok (B + 100000) := by
  unfold dropM
  split
  · exact ok.mono (by omega)
  · rename_i h
    have h := Decidable.not_not.1 h
    exact (dropF_ok f H w B ok).mono (by have := (walked_drop ok lv hf h).1; omega)
end
end Go.Proofs.Ytciciaikajdenaa
/- T31: CellPlays: what lies in memory at a round; a value is the same as itself. -/
set_option linter.unusedSimpArgs false
set_option linter.unusedVariables false
namespace Go.Proofs.Ytciciaikajdenaa
open Go.RowKit

set_option maxRecDepth 100000 in
set_option maxHeartbeats 8000000 in
theorem same51_m : ∀ p : Val, massV p ≤ 1000000000 → RunsP Try.prog 51 [.agg (valD p), .agg (valD p)] (fun v => v = .v (.bool true)) := by
  refine rec_val fun vk vn vs l ih hp => ?_
  have e1 := valR_len l
  have hl : l.length ≤ 1000000000 := by have := massVL_len l; simp only [massV] at hp; omega
  refine enterP 53 Try.func51 rfl (by kernel_rfl) rfl rfl rfl ?_
  repeat' (first | refine s_op rfl ?_ | (apply s_move; (iterate 4 (exact rfl))) | (apply s_fa_f tab_ok; (iterate 6 (exact rfl))) | (apply s_ld_f tab_ok; (iterate 6 (exact rfl))) | (apply s_assign; (iterate 4 (exact rfl))) | (apply s_pick_f; (iterate 5 (exact rfl))) | (apply s_len tab_ok; (iterate 5 (exact rfl))) | (apply s_boxZ; (iterate 5 (exact rfl)); first | exact rfl | exact allD_mapd _) | (apply s_neq_f; (iterate 5 (exact rfl)); omega) | (apply s_strne_f; (iterate 5 (exact rfl)); exact rfl) | refine al_nil ?_ | refine q_then_n ?_ | refine aw_block ?_ | refine aw_seq ?_ | refine aw_reg ?_ | refine aw_false rfl ?_ | refine aw_skip ?_)
  refine w_loop [2, 3, 5] (fun n' vs' σ => ∃ k : Nat, vs' = [.d (.fptr (valD (.mk vk vn vs l))), .d (.fptr (valD (.mk vk vn vs l))), .d (.v (.int .i64 (k : Int)))] ∧ σ = [] ∧ k ≤ l.length ∧ n' = l.length - k) rfl ⟨0, rfl, rfl, by omega, rfl⟩ ?_
  rintro n' vs' σ ⟨k, rfl, rfl, hk2, rfl⟩ fr hfr
  cases hfr
  by_cases hlt : k < l.length
  · obtain ⟨q, hq⟩ := getS hlt
    have hi := ih q (List.mem_of_getElem? hq) (by have := massVL_mem (List.mem_of_getElem? hq); simp only [massV] at hp; omega)
    repeat' (first | refine s_op rfl ?_ | (apply s_move; (iterate 4 (exact rfl))) | (apply s_fa_f tab_ok; (iterate 6 (exact rfl))) | (apply s_ld_f tab_ok; (iterate 6 (exact rfl))) | (apply s_ld_w tab_ok; (iterate 5 (exact rfl)); (first | exact valD_len _ | exact wordD_len _)) | (apply s_assign; (iterate 4 (exact rfl))) | (apply s_len tab_ok; (iterate 5 (exact rfl))) | (apply s_idx tab_ok; (iterate 7 (exact rfl)); (first | exact valR_get (by assumption) | exact wordsR_get (by assumption) | assumption)) | (apply s_not_t; (iterate 4 (exact rfl))) | (apply s_lss_t; (iterate 5 (exact rfl)); omega) | (apply s_add64; (iterate 5 (exact rfl)); omega) | (apply s_call; (iterate 6 (exact rfl)); first | (exact hi; rintro _ rfl)) | refine al_nil ?_ | refine q_then_n ?_ | refine q_blk_n ?_ | refine aw_block ?_ | refine aw_seq ?_ | refine aw_reg ?_ | refine aw_true rfl ?_ | refine aw_false rfl ?_ | refine aw_skip ?_ | refine aw_draws (id := 6) (trO [0, 1, 2, 3, 4, 5, 6, 7, 8, 9, 10, 11] .nil) [10] [] mixed_ok (by kernel_rfl) ?_)
    all_goals exact ⟨_, _, rfl, by omega, k + 1, rfl, rfl, by omega, rfl⟩
  · repeat' (first | refine s_op rfl ?_ | (apply s_move; (iterate 4 (exact rfl))) | (apply s_fa_f tab_ok; (iterate 6 (exact rfl))) | (apply s_ld_f tab_ok; (iterate 6 (exact rfl))) | (apply s_assign; (iterate 4 (exact rfl))) | (apply s_len tab_ok; (iterate 5 (exact rfl))) | (apply s_lss_f; (iterate 5 (exact rfl)); omega) | refine al_nil ?_ | refine q_then_n ?_ | refine q_blk_e ?_ | refine q_then_e ?_ | refine aw_exit ?_ | refine aw_seq ?_ | refine aw_reg ?_ | refine aw_false rfl ?_ | refine aw_ret ?_)
    exact q_ret rfl ⟨_, rfl, rfl⟩
noncomputable def body12 : Option Code := match Try.f12.body with
  | some c => match findBlock 0 c with
    | some (.block _ (.loop x)) => some x
    | _ => none
  | none => none
/-- All that lies apart. -/
structure Lay (locH : Nat) (q : RQ) (x y : WQ) (locL : Nat) : Prop where
  hq : NotQ q locH
  hx : NotW x locH
  hy : NotW y locH
  hl : locH ≠ locL
  qx : Apart q x
  qy : Apart q y
  ql : NotQ q locL
  xy : NotW y x.p ∧ NotW y x.h ∧ NotW y x.t
  xl : NotW x locL
  yl : NotW y locL
def NotM (locH : Nat) (q : RQ) (x y : WQ) (locL : Nat) (k : Nat) : Prop := k ≠ locH ∧ NotQ q k ∧ NotW x k ∧ NotW y k ∧ k ≠ locL
structure Mem (locH : Nat) (q : RQ) (x y : WQ) (locL vL : Nat) (σ : List AObj) (H1 H2 : AHeap) (s1 s2 : List Bool) (l : List AWord) : Prop where
  h : σ[locH]? = some (ho H1)
  r : RHeap σ q H2
  p : PW σ x s1
  d : RW σ y s2
  l : σ[locL]? = some (.arr 36 4 vL (wordsR l))
section
variable {locH locL vL : Nat} {q : RQ} {x y : WQ} {σ σ' : List AObj} {H1 H2 K : AHeap} {s1 s2 s : List Bool} {l : List AWord} {loc : Nat} {o : AObj}
theorem NotW.sym {x y : WQ} (h : NotW y x.p ∧ NotW y x.h ∧ NotW y x.t) : NotW x y.p ∧ NotW x y.h ∧ NotW x y.t :=
  ⟨⟨fun e => h.1.1 e.symm, fun e => h.2.1.1 e.symm, fun e => h.2.2.1 e.symm⟩, ⟨fun e => h.1.2.1 e.symm, fun e => h.2.1.2.1 e.symm, fun e => h.2.2.2.1 e.symm⟩, ⟨fun e => h.1.2.2 e.symm, fun e => h.2.1.2.2 e.symm, fun e => h.2.2.2.2 e.symm⟩⟩
theorem Mem.see (m : Mem locH q x y locL vL σ H1 H2 s1 s2 l) (k : KeptP (fun _ => True) σ σ') : Mem locH q x y locL vL σ' H1 H2 s1 s2 l :=
  ⟨k _ _ trivial m.h, m.r.keep k, m.p.keep k, m.d.keep k, k _ _ trivial m.l⟩
theorem Mem.fresh (m : Mem locH q x y locL vL σ H1 H2 s1 s2 l) (hc : Fresh σ loc o σ') : Mem locH q x y locL vL σ' H1 H2 s1 s2 l := m.see (KeptP.fresh (KeptP.refl _ _) hc)
theorem Mem.fr (m : Mem locH q x y locL vL σ H1 H2 s1 s2 l) (hc : Fresh σ loc o σ') : NotM locH q x y locL loc :=
  ⟨(hc.ne m.h).symm, m.r.fr hc, m.p.fr hc, m.d.fr hc, (hc.ne m.l).symm⟩
theorem Mem.chg (m : Mem locH q x y locL vL σ H1 H2 s1 s2 l) (n : NotM locH q x y locL loc) (hc : Chg σ loc o σ') : Mem locH q x y locL vL σ' H1 H2 s1 s2 l :=
  ⟨hc.keep n.1.symm m.h, m.r.chg n.2.1 hc, m.p.chg n.2.2.1 hc, m.d.chg n.2.2.2.1 hc, hc.keep n.2.2.2.2.symm m.l⟩
theorem Mem.mh (la : Lay locH q x y locL) (m : Mem locH q x y locL vL σ H1 H2 s1 s2 l) (k : KeptP (· ≠ locH) σ σ') (h : σ'[locH]? = some (ho K)) : Mem locH q x y locL vL σ' K H2 s1 s2 l :=
  ⟨h, m.r.keepP k la.hq.1.symm la.hq.2.1.symm la.hq.2.2.symm, m.p.keepP k la.hx.1.symm la.hx.2.1.symm la.hx.2.2.symm, m.d.keepP k la.hy.1.symm la.hy.2.1.symm la.hy.2.2.symm, k _ _ la.hl.symm m.l⟩
theorem Mem.mq (la : Lay locH q x y locL) (m : Mem locH q x y locL vL σ H1 H2 s1 s2 l) (k : KeptP (NotQ q) σ σ') (h : RHeap σ' q K) : Mem locH q x y locL vL σ' H1 K s1 s2 l :=
  ⟨k _ _ la.hq m.h, h, m.p.keepP k la.qx.zp la.qx.zh la.qx.zt, m.d.keepP k la.qy.zp la.qy.zh la.qy.zt, k _ _ la.ql m.l⟩
theorem Mem.ox (la : Lay locH q x y locL) (m : Mem locH q x y locL vL σ H1 H2 s1 s2 l) (k : KeptP (NotW x) σ σ') (p : PW σ' x s) : Mem locH q x y locL vL σ' H1 H2 s s2 l :=
  ⟨k _ _ la.hx m.h, m.r.keepP k la.qx.p la.qx.s la.qx.g, p, m.d.keepP k (NotW.sym la.xy).1 (NotW.sym la.xy).2.1 (NotW.sym la.xy).2.2, k _ _ la.xl m.l⟩
theorem Mem.oy (la : Lay locH q x y locL) (m : Mem locH q x y locL vL σ H1 H2 s1 s2 l) (k : KeptP (NotW y) σ σ') (p : RW σ' y s) : Mem locH q x y locL vL σ' H1 H2 s1 s l :=
  ⟨k _ _ la.hy m.h, m.r.keepP k la.qy.p la.qy.s la.qy.g, m.p.keepP k la.xy.1 la.xy.2.1 la.xy.2.2, p, k _ _ la.yl m.l⟩
theorem Mem.dh (la : Lay locH q x y locL) (m : Mem locH q x y locL vL σ H1 H2 s1 s2 l) (k : KeptP (NotP locH x) σ σ') (h : σ'[locH]? = some (ho K)) (p : PW σ' x s) : Mem locH q x y locL vL σ' K H2 s s2 l :=
  ⟨h, m.r.keepP k ⟨la.hq.1.symm, la.qx.p⟩ ⟨la.hq.2.1.symm, la.qx.s⟩ ⟨la.hq.2.2.symm, la.qx.g⟩, p, m.d.keepP k ⟨la.hy.1.symm, (NotW.sym la.xy).1⟩ ⟨la.hy.2.1.symm, (NotW.sym la.xy).2.1⟩ ⟨la.hy.2.2.symm, (NotW.sym la.xy).2.2⟩, k _ _ ⟨la.hl.symm, la.xl⟩ m.l⟩
theorem Mem.dq (la : Lay locH q x y locL) (m : Mem locH q x y locL vL σ H1 H2 s1 s2 l) (k : KeptP (NotB q y) σ σ') (h : RHeap σ' q K) (p : RW σ' y s) : Mem locH q x y locL vL σ' H1 K s1 s l :=
  ⟨k _ _ ⟨la.hq, la.hy⟩ m.h, h, m.p.keepP k ⟨la.qx.zp, la.xy.1⟩ ⟨la.qx.zh, la.xy.2.1⟩ ⟨la.qx.zt, la.xy.2.2⟩, p, k _ _ ⟨la.ql, la.yl⟩ m.l⟩
theorem Mem.al (la : Lay locH q x y locL) {v' : Nat} {l' : List AWord} (m : Mem locH q x y locL vL σ H1 H2 s1 s2 l) (hc : Chg σ locL (.arr 36 4 v' (wordsR l')) σ') : Mem locH q x y locL v' σ' H1 H2 s1 s2 l' :=
  ⟨hc.keep la.hl m.h, m.r.chg la.ql hc, m.p.chg la.xl hc, m.d.chg la.yl hc, hc.at'⟩
end
def FR12 (dos : List ADo) (locH : Nat) (q : RQ) (x y : WQ) (locL vL n j : Nat) : List AV := [.ptr locH 0 0, .ptr q.p 0 0, .ptr x.p 0 0, .ptr y.p 0 0, .own locL vL 4 0 n, .d (.lst 14 (dosR dos)), .d (.v (.int .i64 ((dosR dos).length : Int))), .d (.v (.int .i64 (j : Int)))]
/-- What a round leaves. -/
def PQ (dos : List ADo) (locH : Nat) (q : RQ) (x y : WQ) (locL n j : Nat) (K : AHeap) (s : List Bool) (l : List AWord) (e : Exit) (fr : Fr) (σ : List AObj) : Prop :=
  e = .normal ∧ ∃ vL, getO [5, 7, 9, 11, 13, 78, 79, 80] fr = some (FR12 dos locH q x y locL vL n j) ∧ Mem locH q x y locL vL σ K K s s l
end Go.Proofs.Ytciciaikajdenaa
