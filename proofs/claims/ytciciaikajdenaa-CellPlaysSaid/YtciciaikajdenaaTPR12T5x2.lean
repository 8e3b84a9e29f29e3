/- T5: the document's heap: Live of what lies there, Free. -/
import Derived.Test.YtciciaikajdenaaTPR12T2x3
set_option linter.unusedSimpArgs false
set_option linter.unusedVariables false
namespace Go.Proofs.Ytciciaikajdenaa
open Go.RowKit

set_option maxRecDepth 100000 in
set_option maxHeartbeats 8000000 in
theorem live_w {σ : List AObj} {p s vs n : Nat} {x0 x2 x3 : AV} {L : List ASlot} (hP : σ[p]? = some (.row 54 [x0, .own s vs 5 0 n, x2, x3])) (hS : σ[s]? = some (.arr 114 5 vs (slotsR L))) (hn : n = L.length) (hl : L.length ≤ 1000000) : Runs Try.prog 34 [.ptr p 0 0] σ (fun r σ' => r = .d (.v (.int .i64 (countLive L))) ∧ σ' = σ) := by
  have e1 := slotsR_len L
  refine enterB 25 tab_ok Try.func34 rfl (by kernel_rfl) rfl rfl rfl ?_
  repeat' (first | refine s_op rfl ?_ | (apply s_assign; (iterate 4 (exact rfl))) | refine al_nil ?_ | refine q_then_n ?_ | refine aw_block ?_ | refine aw_seq ?_ | refine aw_reg ?_)
  refine w_loop [0, 3, 4] (fun n' vs' σ' => ∃ j : Nat, vs' = [.ptr p 0 0, .d (.v (.int .i64 (countLive (L.take j) : Int))), .d (.v (.int .i64 (j : Int)))] ∧ σ' = σ ∧ j ≤ L.length ∧ n' = L.length - j) rfl ⟨0, rfl, rfl, by omega, rfl⟩ ?_
  rintro n' vs' σ' ⟨j, rfl, rfl, hj, rfl⟩ fr hfr
  cases hfr
  by_cases hlt : j < L.length
  · obtain ⟨s, hs⟩ := getS hlt
    have hr := slotsR_get hs
    have ht := countLive_take hs
    have hle := countLive_le (L.take j)
    have hle2 : (L.take j).length ≤ j := by rw [List.length_take]; omega
    obtain ⟨⟨ck, cn, cw⟩, sg, sl⟩ := s
    replace hr : (slotsR L)[j]? = some [DV.v (.int .u8 ck), DV.v (.int .i64 cn), DV.lst 4 (wordsR cw), DV.v (.int .i64 sg), DV.v (.bool sl)] := hr
    cases sl with
    | false =>
      repeat' (first | refine s_op rfl ?_ | (apply s_move; (iterate 4 (exact rfl))) | (apply s_fa_p tab_ok; (iterate 5 (exact rfl))) | (apply s_assign; (iterate 4 (exact rfl))) | (apply s_len tab_ok; (iterate 5 (exact rfl))) | (apply s_nilc; (iterate 5 (exact rfl))) | (apply s_lss_t; (iterate 5 (exact rfl)); omega) | (apply s_add64; (iterate 5 (exact rfl)); omega) | (apply s_ldF tab_ok; (iterate 5 (exact rfl)); exact hP; exact rfl) | (apply s_idxO (j * 5) tab_ok; (iterate 7 (exact rfl)); exact hS; exact ⟨by omega, by omega⟩) | (apply s_ldA j 4 tab_ok; (iterate 5 (exact rfl)); exact hS; exact hr; omega; exact rfl) | refine al_nil ?_ | refine q_then_n ?_ | refine q_blk_n ?_ | refine aw_block ?_ | refine aw_seq ?_ | refine aw_reg ?_ | refine aw_true rfl ?_ | refine aw_false rfl ?_ | refine aw_skip ?_)
      all_goals exact ⟨_, _, rfl, by omega, j + 1, by (rw [ht]; rfl), rfl, by omega, rfl⟩
    | true =>
      repeat' (first | refine s_op rfl ?_ | (apply s_move; (iterate 4 (exact rfl))) | (apply s_fa_p tab_ok; (iterate 5 (exact rfl))) | (apply s_assign; (iterate 4 (exact rfl))) | (apply s_len tab_ok; (iterate 5 (exact rfl))) | (apply s_nilc; (iterate 5 (exact rfl))) | (apply s_lss_t; (iterate 5 (exact rfl)); omega) | (apply s_add64; (iterate 5 (exact rfl)); omega) | (apply s_ldF tab_ok; (iterate 5 (exact rfl)); exact hP; exact rfl) | (apply s_idxO (j * 5) tab_ok; (iterate 7 (exact rfl)); exact hS; exact ⟨by omega, by omega⟩) | (apply s_ldA j 4 tab_ok; (iterate 5 (exact rfl)); exact hS; exact hr; omega; exact rfl) | refine al_nil ?_ | refine q_then_n ?_ | refine q_blk_n ?_ | refine aw_block ?_ | refine aw_seq ?_ | refine aw_reg ?_ | refine aw_true rfl ?_ | refine aw_skip ?_)
      all_goals exact ⟨_, _, rfl, by omega, j + 1, by (rw [ht]; rfl), rfl, by omega, rfl⟩
  · rw [show List.take j L = L from List.take_of_length_le (by omega)]
    repeat' (first | refine s_op rfl ?_ | (apply s_move; (iterate 4 (exact rfl))) | (apply s_fa_p tab_ok; (iterate 5 (exact rfl))) | (apply s_assign; (iterate 4 (exact rfl))) | (apply s_len tab_ok; (iterate 5 (exact rfl))) | (apply s_nilc; (iterate 5 (exact rfl))) | (apply s_lss_f; (iterate 5 (exact rfl)); omega) | (apply s_ldF tab_ok; (iterate 5 (exact rfl)); exact hP; exact rfl) | refine al_nil ?_ | refine q_then_n ?_ | refine q_blk_e ?_ | refine q_then_e ?_ | refine aw_exit ?_ | refine aw_seq ?_ | refine aw_reg ?_ | refine aw_false rfl ?_ | refine aw_ret ?_)
    all_goals exact q_retB (resB_1 rfl (resV_t rfl)) ⟨rfl, rfl⟩
theorem slotsR_set (l : List ASlot) (j : Nat) (x : ASlot) : (slotsR l).set j (slotD x) = slotsR (l.set j x) := by simp [slotsR, List.map_set]
section
variable {σ : List AObj} {q : RQ} {H : AHeap} {B : Int}
set_option maxRecDepth 100000 in
set_option maxHeartbeats 8000000 in
theorem free_q (h : RHeap σ q H) (ok : H.Ok B) (hB : B ≤ 2000000000) (w : AWord) : Runs Try.prog 25 [.ptr q.p 0 0, .d (.agg (wordD w))] σ (fun r σ' => r = .d (.tup [.agg (cellD (H.drop w).1.1), .v (.int .i64 (H.drop w).1.2)]) ∧ RHeap σ' q (H.drop w).2 ∧ KeptP (NotQ q) σ σ') := by
  have hl : H.slots.length ≤ 1000000 := by have := ok.few; have := ok.room1; omega
  have hwr := fun (σ : List AObj) (h : RHeap σ q H) => wrong_q h hl w
  have hK := KeptP.refl (NotQ q) σ
  have hq := h.ok
  obtain ⟨vs, vg, gr, hP, hS, hG, hgr, hgl⟩ := h.at'
  have nPS := hq.ps
  have nPG := hq.pg
  have nSG := hq.sg
  have e1 := slotsR_len H.slots
  have oP : OutP (NotQ q) σ q.p := fun _ h => absurd rfl h.1
  have oS : OutP (NotQ q) σ q.s := fun _ h => absurd rfl h.2.1
  have oG : OutP (NotQ q) σ q.g := fun _ h => absurd rfl h.2.2
  unfold rRow at hP
  by_cases hf : (H.find w).1 = 0
  · obtain ⟨z1, z2, z3, z4, z5, z6, z7⟩ := AHeap.find_zero hf
    have hd : H.drop w = (((H.slot (H.find w).2).c, 0), H.freed (H.find w).2) := by unfold AHeap.drop; rw [if_neg (by rw [hf]; simp)]
    rw [hd]
    rw [hf] at hwr
    have hfn : H.free.length ≤ 1000000 := by have := ok.count; omega
    have hs := AHeap.slot_get z5
    have hgen := (ok.gens _ (AHeap.slot_mem z5))
    have hr := slotsR_get hs
    have hfr : H.freed (H.find w).2 = { H with slots := H.slots.set (H.find w).2 ⟨.zero, (H.slot (H.find w).2).gen + 1, false⟩, free := H.free ++ [(H.find w).2] } := rfl
    generalize (H.find w).2 = j at *
    generalize H.slot j = s at *
    obtain ⟨⟨ck, cn, cw⟩, sg, sl⟩ := s
    obtain ⟨wk, wn, ws, wg⟩ := w
    replace z4 : wn = (j : Int) := z4
    replace z7 : sg = wg := z7
    replace hgen : 0 ≤ sg ∧ sg ≤ B := hgen
    subst z4 z7
    clear hf z1 z2 z3 z6 hd hs ok
    replace hr : (slotsR H.slots)[j]? = some [DV.v (.int .u8 ck), DV.v (.int .i64 cn), DV.lst 4 (wordsR cw), DV.v (.int .i64 sg), DV.v (.bool sl)] := hr
    have hset : (slotsR H.slots).set j (spliceL [DV.v (.int .u8 ck), DV.v (.int .i64 cn), DV.lst 4 (wordsR cw), DV.v (.int .i64 sg), DV.v (.bool sl)] 0 [DV.v (.int .u8 0), DV.v (.int .i64 0), DV.lst 4 [], DV.v (.int .i64 (sg + 1)), DV.v (.bool false)]) = slotsR (H.slots.set j ⟨.zero, sg + 1, false⟩) := slotsR_set H.slots j ⟨.zero, sg + 1, false⟩
    have happ : gr.take H.free.length ++ [[DV.v (.int .i64 (j : Int))]] = goneR (H.free ++ [j]) := by rw [hgr]; simp [goneR]
    have hlen : (H.slots.set j ⟨.zero, sg + 1, false⟩).length = H.slots.length := List.length_set
    have hfl := goneR_len (H.free ++ [j])
    have hflen : (H.free ++ [j]).length = H.free.length + 1 := by simp
    show Runs Try.prog 25 [.ptr q.p 0 0, .d (.agg [DV.v (.int .u8 wk), DV.v (.int .i64 (j : Int)), DV.v (.string ws), DV.v (.int .i64 sg)])] σ _
    refine enterB 47 tab_ok Try.func25 rfl (by kernel_rfl) rfl rfl rfl ?_
    repeat' (first | refine s_op rfl ?_ | (apply s_move; (iterate 4 (exact rfl))) | (apply s_fa_p tab_ok; (iterate 5 (exact rfl))) | (apply s_fa_f tab_ok; (iterate 6 (exact rfl))) | (apply s_ld_f tab_ok; (iterate 6 (exact rfl))) | (apply s_assign; (iterate 4 (exact rfl))) | (apply s_nilc; (iterate 5 (exact rfl))) | (apply s_build tabZ_ok; (iterate 5 (exact rfl))) | (apply s_boxZ; (iterate 5 (exact rfl)); first | exact rfl | exact allD_mapd _) | (apply s_lit tab_ok tabZ_ok; (iterate 10 (exact rfl))) | (apply s_neq_f; (iterate 5 (exact rfl)); omega) | (apply s_add64; (iterate 5 (exact rfl)); omega) | (apply s_allocF tabZ_ok (d := 4); (iterate 6 (exact rfl)); intro locX σ hc; have hX := hc.at'; have nPX := hc.ne hP; have nSX := hc.ne hS; have nGX := hc.ne hG; replace hP := hc.keep hP; replace hS := hc.keep hS; replace hG := hc.keep hG; replace h := h.keep (KeptP.fresh (KeptP.refl _ _) hc); have oX := hK.out hc; replace hK := hK.fresh hc; clear hc) | (apply s_allocF tabZ_ok (d := 7); (iterate 6 (exact rfl)); intro locY σ hc; have hY := hc.at'; have nPY := hc.ne hP; have nSY := hc.ne hS; have nGY := hc.ne hG; have nXY := hc.ne hX; replace hP := hc.keep hP; replace hS := hc.keep hS; replace hG := hc.keep hG; replace hX := hc.keep hX; have oY := hK.out hc; replace hK := hK.fresh hc; clear hc) | (apply s_callS; (iterate 6 (exact rfl)); exact hwr _ h; rintro _ σ2 ⟨rfl, rfl⟩; clear h) | (apply s_ldF tab_ok; (iterate 5 (exact rfl)); exact hP; exact rfl) | (apply s_idxO (j * 5) tab_ok; (iterate 7 (exact rfl)); exact hS; exact ⟨by omega, by omega⟩) | (apply s_ldA j 0 tab_ok; (iterate 5 (exact rfl)); exact hS; exact hr; omega; exact rfl) | (apply s_ldF tab_ok; (iterate 5 (exact rfl)); exact hY; exact rfl) | (refine o_wk 33 (.agg [DV.v (.int .u8 0), DV.v (.int .i64 0), DV.lst 4 [], DV.v (.int .i64 (sg + 1)), DV.v (.bool false)]) rfl (Wk.agg ⟨Wk.refl _, Wk.refl _, Wk.nil 4, Wk.refl _, Wk.refl _, trivial⟩) ?_) | (apply s_stA j 0 tab_ok; (iterate 8 (exact rfl)); exact hS; exact hr; omega; omega; exact hset; intro σ hc; replace hS := hc.at'; replace hP := hc.keep nPS hP; replace hG := hc.keep nSG.symm hG; replace hX := hc.keep nSX.symm hX; replace hY := hc.keep nSY.symm hY; replace hK := hK.chg oS hc; clear hc) | (apply s_appT tab_ok tabZ_ok (d := 43) (rows2 := [[DV.v (.int .i64 (j : Int))]]) (rows3 := goneR (H.free ++ [j])) (n := H.free.length) (m := (H.free ++ [j]).length); (iterate 10 (exact rfl)); exact hG; exact src_of (Tab.slIs tab_ok (t := 52) rfl) (rows_d rfl); exact happ; (refine ⟨hgl, ?_, ?_⟩ <;> (simp only [List.length_cons, List.length_nil] <;> omega)); intro σ hc; replace hG := hc.at'; replace hP := hc.keep nPG hP; replace hS := hc.keep nSG hS; replace hX := hc.keep nGX.symm hX; replace hY := hc.keep nGY.symm hY; replace hK := hK.chg oG hc; clear hc) | (apply s_storeF tab_ok; (iterate 7 (exact rfl)); exact hP; (iterate 2 (exact rfl)); intro σ hc; replace hP := hc.at'; replace hS := hc.keep nPS.symm hS; replace hG := hc.keep nPG.symm hG; replace hX := hc.keep nPX.symm hX; replace hY := hc.keep nPY.symm hY; replace hK := hK.chg oP hc; clear hc) | (apply s_storeF tab_ok; (iterate 7 (exact rfl)); exact hY; (iterate 2 (exact rfl)); intro σ hc; replace hY := hc.at'; replace hP := hc.keep nPY hP; replace hS := hc.keep nSY hS; replace hG := hc.keep nGY hG; replace hX := hc.keep nXY hX; replace hK := hK.chg oY hc; clear hc) | (apply s_storeF tab_ok; (iterate 7 (exact rfl)); exact hX; (iterate 2 (exact rfl)); intro σ hc; replace hX := hc.at'; replace hP := hc.keep nPX hP; replace hS := hc.keep nSX hS; replace hG := hc.keep nGX hG; (try (replace hY := hc.keep nXY.symm hY)); replace hK := hK.chg oX hc; clear hc) | refine al_nil ?_ | refine q_then_n ?_ | refine aw_seq ?_ | refine aw_reg ?_ | refine aw_false rfl ?_ | refine aw_skip ?_ | refine aw_ret ?_ | refine aw_draws (id := 4) (trO [0, 1, 2, 3, 4, 5, 6, 7, 8, 9, 10] .nil) [9, 10] [10] mixed_ok (by kernel_rfl) ?_ | refine aw_draws (id := 5) (trO [0, 1, 2, 3, 4, 5, 6, 7, 8, 9, 10, 11] .nil) [11] [11] mixed_ok (by kernel_rfl) ?_ | refine aw_draws (id := 6) (trO [0, 1, 2, 3, 4, 5, 6, 7, 8, 9, 10, 11] .nil) [7, 8, 11] [8, 11] mixed_ok (by kernel_rfl) ?_)
    all_goals exact q_retB (resB_2 rfl (resV_c (t := 34) rfl rfl hX rfl) (resV_t rfl) rfl) ⟨rfl, by (rw [hfr]; exact ⟨hq, vs, _, _, by (unfold rRow; simp only [hlen]; exact hP), hS, hG, List.take_of_length_le (by rw [hfl]; exact Nat.le_refl _), by (rw [hfl]; exact Nat.le_refl _)⟩), hK⟩
  · have hd : H.drop w = ((.zero, (H.find w).1), H) := by unfold AHeap.drop; rw [if_pos hf]
    rw [hd]
    generalize (H.find w).1 = e at *
    clear hd
    refine Runs.weakR ?_
    obtain ⟨wk, wn, ws, wg⟩ := w
    show Runs Try.prog 25 [.ptr q.p 0 0, .d (.agg [DV.v (.int .u8 wk), DV.v (.int .i64 wn), DV.v (.string ws), DV.v (.int .i64 wg)])] σ _
    refine enterB 47 tab_ok Try.func25 rfl (by kernel_rfl) rfl rfl rfl ?_
    repeat' (first | refine s_op rfl ?_ | (apply s_move; (iterate 4 (exact rfl))) | (apply s_ld_f tab_ok; (iterate 6 (exact rfl))) | (apply s_assign; (iterate 4 (exact rfl))) | (apply s_build tabZ_ok; (iterate 5 (exact rfl))) | (apply s_boxZ; (iterate 5 (exact rfl)); first | exact rfl | exact allD_mapd _) | (apply s_neq_t; (iterate 5 (exact rfl)); omega) | (apply s_allocF tabZ_ok (d := 4); (iterate 6 (exact rfl)); intro locX σ hc; have hX := hc.at'; have nPX := hc.ne hP; have nSX := hc.ne hS; have nGX := hc.ne hG; replace h := h.keep (KeptP.fresh (KeptP.refl _ _) hc); have oX := hK.out hc; replace hK := hK.fresh hc; clear hc) | (apply s_callS; (iterate 6 (exact rfl)); exact hwr _ h; rintro _ σ2 ⟨rfl, rfl⟩) | (apply s_storeF tab_ok; (iterate 7 (exact rfl)); exact hX; (iterate 2 (exact rfl)); intro σ hc; replace hX := hc.at'; replace hK := hK.chg oX hc; replace h := h.keepP (p := (· ≠ locX)) (fun k o hk e => hc.keep hk e) nPX nSX nGX; clear hc) | refine al_nil ?_ | refine q_then_n ?_ | refine q_then_r ?_ | refine aw_seq ?_ | refine aw_reg ?_ | refine aw_true rfl ?_ | refine aw_ret ?_)
    all_goals exact q_retB (resB_2 rfl (resV_c (t := 34) rfl rfl hX rfl) (resV_t rfl) rfl) ⟨_, rfl, Wk.tup ⟨Wk.agg ⟨Wk.refl _, Wk.refl _, Wk.nil 4, trivial⟩, Wk.refl _, trivial⟩, h, hK⟩
end
end Go.Proofs.Ytciciaikajdenaa
/- T6: the document's heap: Alloc. -/
set_option linter.unusedSimpArgs false
set_option linter.unusedVariables false
namespace Go.Proofs.Ytciciaikajdenaa
open Go.RowKit

noncomputable def all11 : Option Code := match Try.f21.body with
  | some c => findW 11 c
  | none => none
set_option maxRecDepth 100000 in
set_option maxHeartbeats 8000000 in
theorem alloc_tail {σ0 σ : List AObj} {q : RQ} {vs j n locX : Nat} {x0 x2 : AV} {most : Int} {L : List ASlot} {G : AObj} {c0 : ACell} {g : Int} {lv : Bool} {ck cn : Int} {cw : List AWord} {post : AV → List AObj → Prop} (nPS : q.p ≠ q.s) (nPG : q.p ≠ q.g) (nSG : q.s ≠ q.g) (nPX : q.p ≠ locX) (nSX : q.s ≠ locX) (nGX : q.g ≠ locX) (oP : OutP (NotQ q) σ0 q.p) (oS : OutP (NotQ q) σ0 q.s) (oG : OutP (NotQ q) σ0 q.g) (oX : OutP (NotQ q) σ0 locX)
    (hcp : RunsP Try.prog 75 [.agg [DV.v (.int .u8 ck), DV.v (.int .i64 cn), DV.lst 4 (wordsR cw)]] (fun v => v = .agg [DV.v (.int .u8 ck), DV.v (.int .i64 cn), DV.lst 4 (wordsR cw)]))
    (hn : n = L.length) (hl : L.length ≤ 1000000) (hj : L[j]? = some ⟨c0, g, lv⟩) (hm0 : 0 ≤ most)
    (hP : σ[q.p]? = some (.row 54 [x0, .own q.s vs 5 0 n, x2, .d (.v (.int .i64 most))])) (hS : σ[q.s]? = some (.arr 114 5 vs (slotsR L))) (hG : σ[q.g]? = some G) (hX : σ[locX]? = some (.row 36 [.d (.v (.int .u8 0)), .d (.v (.int .i64 0)), .d (.v (.string ⟨#[]⟩)), .d (.v (.int .i64 0))])) (hK : KeptP (NotQ q) σ0 σ)
    (hfin : ∀ σ', σ'[q.p]? = some (.row 54 [x0, .own q.s vs 5 0 n, x2, .d (.v (.int .i64 (max most (countLive (L.set j ⟨⟨ck, cn, cw⟩, g, true⟩) : Int))))]) → σ'[q.s]? = some (.arr 114 5 vs (slotsR (L.set j ⟨⟨ck, cn, cw⟩, g, true⟩))) → σ'[q.g]? = some G → KeptP (NotQ q) σ0 σ' → post (.d (.tup [.agg [DV.v (.int .u8 5), DV.v (.int .i64 (j : Int)), DV.v (.string ⟨#[]⟩), DV.v (.int .i64 g)], .v (.int .i64 0)])) σ') {X : Code} (hX2 : all11 = some X) :
    AWk Try.prog 98 X (retQB tab Try.f21 post) [(0, .ptr q.p 0 0), (3, .d (.fptr [DV.v (.int .u8 ck), DV.v (.int .i64 cn), DV.lst 4 (wordsR cw)])), (4, .ptr locX 0 0), (6, .d (.v (.int .i64 (j : Int))))] σ := by
  have e1 := slotsR_len L
  have hjl := (List.getElem?_eq_some_iff.1 hj).1
  have hr := slotsR_get hj
  obtain ⟨k0, n0, w0⟩ := c0
  replace hr : (slotsR L)[j]? = some [DV.v (.int .u8 k0), DV.v (.int .i64 n0), DV.lst 4 (wordsR w0), DV.v (.int .i64 g), DV.v (.bool lv)] := hr
  have hset1 : (slotsR L).set j (spliceL [DV.v (.int .u8 k0), DV.v (.int .i64 n0), DV.lst 4 (wordsR w0), DV.v (.int .i64 g), DV.v (.bool lv)] 0 [DV.v (.int .u8 ck), DV.v (.int .i64 cn), DV.lst 4 (wordsR cw)]) = slotsR (L.set j ⟨⟨ck, cn, cw⟩, g, lv⟩) := slotsR_set L j ⟨⟨ck, cn, cw⟩, g, lv⟩
  have hr1 : (slotsR (L.set j ⟨⟨ck, cn, cw⟩, g, lv⟩))[j]? = some [DV.v (.int .u8 ck), DV.v (.int .i64 cn), DV.lst 4 (wordsR cw), DV.v (.int .i64 g), DV.v (.bool lv)] := slotsR_get (p := ⟨⟨ck, cn, cw⟩, g, lv⟩) (by simp [hjl])
  have hset2 : (slotsR (L.set j ⟨⟨ck, cn, cw⟩, g, lv⟩)).set j (spliceL [DV.v (.int .u8 ck), DV.v (.int .i64 cn), DV.lst 4 (wordsR cw), DV.v (.int .i64 g), DV.v (.bool lv)] 4 [DV.v (.bool true)]) = slotsR (L.set j ⟨⟨ck, cn, cw⟩, g, true⟩) := by
    have := slotsR_set (L.set j ⟨⟨ck, cn, cw⟩, g, lv⟩) j ⟨⟨ck, cn, cw⟩, g, true⟩
    rw [List.set_set] at this
    exact this
  have hr2 : (slotsR (L.set j ⟨⟨ck, cn, cw⟩, g, true⟩))[j]? = some [DV.v (.int .u8 ck), DV.v (.int .i64 cn), DV.lst 4 (wordsR cw), DV.v (.int .i64 g), DV.v (.bool true)] := slotsR_get (p := ⟨⟨ck, cn, cw⟩, g, true⟩) (by simp [hjl])
  have hlen2 : n = (L.set j ⟨⟨ck, cn, cw⟩, g, true⟩).length := by rw [List.length_set]; exact hn
  have hle2 : (L.set j ⟨⟨ck, cn, cw⟩, g, true⟩).length ≤ 1000000 := by rw [List.length_set]; exact hl
  have hlv := fun σ hP hS => live_w (σ := σ) (p := q.p) (s := q.s) (vs := vs) (n := n) (x0 := x0) (x2 := x2) (x3 := .d (.v (.int .i64 most))) (L := L.set j ⟨⟨ck, cn, cw⟩, g, true⟩) hP hS hlen2 hle2
  have hcl := countLive_le (L.set j ⟨⟨ck, cn, cw⟩, g, true⟩)
  generalize L.set j ⟨⟨ck, cn, cw⟩, g, true⟩ = L2 at *
  generalize L.set j ⟨⟨ck, cn, cw⟩, g, lv⟩ = L1 at *
  generalize countLive L2 = cl at *
  clear hj
  cases hX2
  by_cases hm : most < (cl : Int)
  · rw [show max most (cl : Int) = (cl : Int) by omega] at hfin
    repeat' (first | refine s_op rfl ?_ | (apply s_move; (iterate 4 (exact rfl))) | (apply s_fa_p tab_ok; (iterate 5 (exact rfl))) | (apply s_ld_f tab_ok; (iterate 6 (exact rfl))) | (apply s_assign; (iterate 4 (exact rfl))) | (apply s_nilc; (iterate 5 (exact rfl))) | (apply s_build tabZ_ok; (iterate 5 (exact rfl))) | (apply s_gtr_t; (iterate 5 (exact rfl)); omega) | (apply s_ldF tab_ok; (iterate 5 (exact rfl)); exact hP; exact rfl) | (apply s_idxO (j * 5) tab_ok; (iterate 7 (exact rfl)); exact hS; exact ⟨by omega, by omega⟩) | (apply s_stA j 0 tab_ok; (iterate 8 (exact rfl)); exact hS; exact hr; omega; omega; exact hset1; intro σ hc; replace hS := hc.at'; replace hP := hc.keep nPS hP; replace hG := hc.keep nSG.symm hG; replace hX := hc.keep nSX.symm hX; replace hK := hK.chg oS hc; clear hc) | (apply s_stA j 4 tab_ok; (iterate 8 (exact rfl)); exact hS; exact hr1; omega; omega; exact hset2; intro σ hc; replace hS := hc.at'; replace hP := hc.keep nPS hP; replace hG := hc.keep nSG.symm hG; replace hX := hc.keep nSX.symm hX; replace hK := hK.chg oS hc; clear hc) | (apply s_callS; (iterate 6 (exact rfl)); exact hlv _ hP hS; rintro _ σ2 ⟨rfl, rfl⟩) | (apply s_ldA j 3 tab_ok; (iterate 5 (exact rfl)); exact hS; exact hr2; omega; exact rfl) | (apply s_storeF tab_ok; (iterate 7 (exact rfl)); exact hX; (iterate 2 (exact rfl)); intro σ hc; replace hX := hc.at'; replace hP := hc.keep nPX hP; replace hS := hc.keep nSX hS; replace hG := hc.keep nGX hG; replace hK := hK.chg oX hc; clear hc) | (apply s_storeF tab_ok; (iterate 7 (exact rfl)); exact hP; (iterate 2 (exact rfl)); intro σ hc; replace hP := hc.at'; replace hS := hc.keep nPS.symm hS; replace hG := hc.keep nPG.symm hG; replace hX := hc.keep nPX.symm hX; replace hK := hK.chg oP hc; clear hc) | (apply s_call; (iterate 6 (exact rfl)); first | (exact hcp; rintro _ rfl)) | refine al_nil ?_ | refine q_then_n ?_ | refine aw_seq ?_ | refine aw_reg ?_ | refine aw_true rfl ?_ | refine aw_ret ?_ | refine al_fork ?_ ?_ | refine aw_draws (id := 11) (trO [0, 1, 2, 3, 4, 5, 6, 7, 8, 9] .nil) [6, 9] [9] mixed_ok (by kernel_rfl) ?_ | refine aw_draws (id := 13) (trO [0, 2, 3, 4] (.fork 1 (trO [5, 6] .nil) 5 (trO [1, 6] .nil))) [1, 5] [1] mixed_ok (by kernel_rfl) ?_)
    all_goals exact q_retB (resB_2 rfl (resV_c (t := 36) rfl rfl hX rfl) (resV_t rfl) rfl) (hfin _ hP hS hG hK)
  · rw [show max most (cl : Int) = most by omega] at hfin
    repeat' (first | refine s_op rfl ?_ | (apply s_move; (iterate 4 (exact rfl))) | (apply s_fa_p tab_ok; (iterate 5 (exact rfl))) | (apply s_ld_f tab_ok; (iterate 6 (exact rfl))) | (apply s_assign; (iterate 4 (exact rfl))) | (apply s_nilc; (iterate 5 (exact rfl))) | (apply s_build tabZ_ok; (iterate 5 (exact rfl))) | (apply s_gtr_f; (iterate 5 (exact rfl)); omega) | (apply s_ldF tab_ok; (iterate 5 (exact rfl)); exact hP; exact rfl) | (apply s_idxO (j * 5) tab_ok; (iterate 7 (exact rfl)); exact hS; exact ⟨by omega, by omega⟩) | (apply s_stA j 0 tab_ok; (iterate 8 (exact rfl)); exact hS; exact hr; omega; omega; exact hset1; intro σ hc; replace hS := hc.at'; replace hP := hc.keep nPS hP; replace hG := hc.keep nSG.symm hG; replace hX := hc.keep nSX.symm hX; replace hK := hK.chg oS hc; clear hc) | (apply s_stA j 4 tab_ok; (iterate 8 (exact rfl)); exact hS; exact hr1; omega; omega; exact hset2; intro σ hc; replace hS := hc.at'; replace hP := hc.keep nPS hP; replace hG := hc.keep nSG.symm hG; replace hX := hc.keep nSX.symm hX; replace hK := hK.chg oS hc; clear hc) | (apply s_callS; (iterate 6 (exact rfl)); exact hlv _ hP hS; rintro _ σ2 ⟨rfl, rfl⟩) | (apply s_ldA j 3 tab_ok; (iterate 5 (exact rfl)); exact hS; exact hr2; omega; exact rfl) | (apply s_storeF tab_ok; (iterate 7 (exact rfl)); exact hX; (iterate 2 (exact rfl)); intro σ hc; replace hX := hc.at'; replace hP := hc.keep nPX hP; replace hS := hc.keep nSX hS; replace hG := hc.keep nGX hG; replace hK := hK.chg oX hc; clear hc) | (apply s_call; (iterate 6 (exact rfl)); first | (exact hcp; rintro _ rfl)) | refine al_nil ?_ | refine q_then_n ?_ | refine aw_seq ?_ | refine aw_reg ?_ | refine aw_false rfl ?_ | refine aw_skip ?_ | refine aw_ret ?_ | refine al_fork ?_ ?_ | refine aw_draws (id := 11) (trO [0, 1, 2, 3, 4, 5, 6, 7, 8, 9] .nil) [6, 9] [9] mixed_ok (by kernel_rfl) ?_ | refine aw_draws (id := 13) (trO [0, 2, 3, 4] (.fork 1 (trO [5, 6] .nil) 5 (trO [1, 6] .nil))) [1, 5] [1] mixed_ok (by kernel_rfl) ?_)
    all_goals exact q_retB (resB_2 rfl (resV_c (t := 36) rfl rfl hX rfl) (resV_t rfl) rfl) (hfin _ hP hS hG hK)
end Go.Proofs.Ytciciaikajdenaa
