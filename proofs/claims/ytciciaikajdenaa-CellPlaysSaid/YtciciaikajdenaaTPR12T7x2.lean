/- T7: the document's heap: Alloc, whole. -/
import Derived.Test.YtciciaikajdenaaTPR12T5x2
set_option linter.unusedSimpArgs false
set_option linter.unusedVariables false
namespace Go.Proofs.Ytciciaikajdenaa
open Go.RowKit

section
variable {σ : List AObj} {q : RQ} {H : AHeap} {B : Int}
set_option maxRecDepth 100000 in
set_option maxHeartbeats 8000000 in
theorem alloc_q (h : RHeap σ q H) (ok : H.Ok B) (c : ACell) (hc : c.ws.length ≤ 1000000) : Runs Try.prog 21 [.ptr q.p 0 0, .d (.agg (cellD c))] σ (fun r σ' => r = .d (.tup [.agg (wordD (H.alloc c).1.1), .v (.int .i64 (H.alloc c).1.2)]) ∧ RHeap σ' q (H.alloc c).2 ∧ KeptP (NotQ q) σ σ') := by
  have hl : H.slots.length ≤ 100000 := by have := ok.few; have := ok.room1; omega
  have hK := KeptP.refl (NotQ q) σ
  have hq := h.ok
  have h0 := h
  obtain ⟨vs, vg, gr, hP, hS, hG, hgr, hgl⟩ := h.at'
  have nPS := hq.ps
  have nPG := hq.pg
  have nSG := hq.sg
  have e1 := slotsR_len H.slots
  have oP : OutP (NotQ q) σ q.p := fun _ h => absurd rfl h.1
  have oS : OutP (NotQ q) σ q.s := fun _ h => absurd rfl h.2.1
  have oG : OutP (NotQ q) σ q.g := fun _ h => absurd rfl h.2.2
  have hmay := may19 c (by unfold maxLen; omega)
  have hcp := copied_q c hc
  have hlive := ok.live_eq
  have hm0 := ok.most0
  have hlv := fun σ hP hS => live_w (σ := σ) (p := q.p) (s := q.s) (vs := vs) (n := H.slots.length) (x0 := .d (.v (.int .i64 H.room))) (x2 := .own q.g vg 1 0 H.free.length) (x3 := .d (.v (.int .i64 H.most))) (L := H.slots) hP hS rfl (by omega)
  rw [← hlive] at hlv
  unfold rRow at hP
  cases hok : c.ok with
  | false =>
    have ha : H.alloc c = ((.zero, 2), H) := by unfold AHeap.alloc; rw [if_pos hok]
    rw [ha]
    rw [hok] at hmay
    obtain ⟨ck, cn, cw⟩ := c
    show Runs Try.prog 21 [.ptr q.p 0 0, .d (.agg [DV.v (.int .u8 ck), DV.v (.int .i64 cn), DV.lst 4 (wordsR cw)])] σ _
    refine enterB 98 tab_ok Try.func21 rfl (by kernel_rfl) rfl rfl rfl ?_
    repeat' (first | refine s_op rfl ?_ | (apply s_ld_f tab_ok; (iterate 6 (exact rfl))) | (apply s_assign; (iterate 4 (exact rfl))) | (apply s_build tabZ_ok; (iterate 5 (exact rfl))) | (apply s_boxZ; (iterate 5 (exact rfl)); first | exact rfl | exact allD_mapd _) | (apply s_not_f; (iterate 4 (exact rfl))) | (apply s_allocF tabZ_ok (d := 4); (iterate 6 (exact rfl)); intro locX σ hc; have hX := hc.at'; have nPX := hc.ne hP; have nSX := hc.ne hS; have nGX := hc.ne hG; replace hP := hc.keep hP; replace hS := hc.keep hS; replace hG := hc.keep hG; have oX := hK.out hc; replace hK := hK.fresh hc; clear hc) | (apply s_storeF tab_ok; (iterate 7 (exact rfl)); exact hX; (iterate 2 (exact rfl)); intro σ hc; replace hX := hc.at'; replace hP := hc.keep nPX hP; replace hS := hc.keep nSX hS; replace hG := hc.keep nGX hG; replace hK := hK.chg oX hc; clear hc) | (apply s_call; (iterate 6 (exact rfl)); first | (exact hmay; rintro _ rfl)) | refine al_nil ?_ | refine q_then_n ?_ | refine q_then_r ?_ | refine aw_seq ?_ | refine aw_reg ?_ | refine aw_true rfl ?_ | refine aw_ret ?_)
    all_goals exact q_retB (resB_2 rfl (resV_c (t := 36) rfl rfl hX rfl) (resV_t rfl) rfl) ⟨rfl, ⟨hq, vs, vg, gr, hP, hS, hG, hgr, hgl⟩, hK⟩
  | true =>
    rw [hok] at hmay
    by_cases hr : H.room ≤ H.live
    · have ha : H.alloc c = ((.zero, 7), H) := by unfold AHeap.alloc; rw [if_neg (by rw [hok]; simp), if_pos hr]
      rw [ha]
      obtain ⟨ck, cn, cw⟩ := c
      show Runs Try.prog 21 [.ptr q.p 0 0, .d (.agg [DV.v (.int .u8 ck), DV.v (.int .i64 cn), DV.lst 4 (wordsR cw)])] σ _
      refine enterB 98 tab_ok Try.func21 rfl (by kernel_rfl) rfl rfl rfl ?_
      repeat' (first | refine s_op rfl ?_ | (apply s_move; (iterate 4 (exact rfl))) | (apply s_fa_p tab_ok; (iterate 5 (exact rfl))) | (apply s_ld_f tab_ok; (iterate 6 (exact rfl))) | (apply s_assign; (iterate 4 (exact rfl))) | (apply s_nilc; (iterate 5 (exact rfl))) | (apply s_build tabZ_ok; (iterate 5 (exact rfl))) | (apply s_boxZ; (iterate 5 (exact rfl)); first | exact rfl | exact allD_mapd _) | (apply s_not_t; (iterate 4 (exact rfl))) | (apply s_geq_t; (iterate 5 (exact rfl)); omega) | (apply s_allocF tabZ_ok (d := 4); (iterate 6 (exact rfl)); intro locX σ hc; have hX := hc.at'; have nPX := hc.ne hP; have nSX := hc.ne hS; have nGX := hc.ne hG; replace hP := hc.keep hP; replace hS := hc.keep hS; replace hG := hc.keep hG; have oX := hK.out hc; replace hK := hK.fresh hc; clear hc) | (apply s_storeF tab_ok; (iterate 7 (exact rfl)); exact hX; (iterate 2 (exact rfl)); intro σ hc; replace hX := hc.at'; replace hP := hc.keep nPX hP; replace hS := hc.keep nSX hS; replace hG := hc.keep nGX hG; replace hK := hK.chg oX hc; clear hc) | (apply s_ldF tab_ok; (iterate 5 (exact rfl)); exact hP; exact rfl) | (apply s_callS; (iterate 6 (exact rfl)); exact hlv _ hP hS; rintro _ σ2 ⟨rfl, rfl⟩) | (apply s_call; (iterate 6 (exact rfl)); first | (exact hmay; rintro _ rfl)) | refine al_nil ?_ | refine q_then_n ?_ | refine q_then_r ?_ | refine aw_seq ?_ | refine aw_reg ?_ | refine aw_true rfl ?_ | refine aw_false rfl ?_ | refine aw_skip ?_ | refine aw_ret ?_ | refine al_fork ?_ ?_ | refine aw_draws (id := 3) (trO [0, 2, 3, 4] (.fork 1 (trO [5, 6] .nil) 5 (trO [1, 6] .nil))) [1, 5] [1] mixed_ok (by kernel_rfl) ?_)
      all_goals exact q_retB (resB_2 rfl (resV_c (t := 36) rfl rfl hX rfl) (resV_t rfl) rfl) ⟨rfl, ⟨hq, vs, vg, gr, hP, hS, hG, hgr, hgl⟩, hK⟩
    · rw [AHeap.alloc_give hok (by omega)]
      cases hfl : H.free.getLast? with
      | none =>
        have hf : H.free = [] := by simpa using hfl
        have hgive : H.give c = (cellWord H.slots.length 0, { H with slots := H.slots ++ [⟨c, 0, true⟩], most := max H.most (H.live + 1) }) := by unfold AHeap.give; rw [hfl]
        rw [hgive]
        have hrow : (slotsR H.slots) ++ [[DV.v (.int .u8 0), DV.v (.int .i64 0), DV.lst 4 [], DV.v (.int .i64 0), DV.v (.bool false)]] = slotsR (H.slots ++ [⟨.zero, 0, false⟩]) := by simp [slotsR, slotD, ACell.zero, wordsR]
        have hset : (H.slots ++ [(⟨.zero, 0, false⟩ : ASlot)]).set H.slots.length ⟨c, 0, true⟩ = H.slots ++ [⟨c, 0, true⟩] := by simp
        have hj : (H.slots ++ [(⟨.zero, 0, false⟩ : ASlot)])[H.slots.length]? = some ⟨.zero, 0, false⟩ := by simp
        have hcnt : countLive ((H.slots ++ [(⟨.zero, 0, false⟩ : ASlot)]).set H.slots.length ⟨c, 0, true⟩) = countLive H.slots + 1 := by rw [hset]; simp [countLive]
        have hlen : (H.slots ++ [(⟨c, 0, true⟩ : ASlot)]).length = H.slots.length + 1 := by simp
        obtain ⟨ck, cn, cw⟩ := c
        rw [hf] at hP hlv
        replace hP : σ[q.p]? = some (.row 54 [.d (.v (.int .i64 H.room)), .own q.s vs 5 0 H.slots.length, .own q.g vg 1 0 0, .d (.v (.int .i64 H.most))]) := hP
        show Runs Try.prog 21 [.ptr q.p 0 0, .d (.agg [DV.v (.int .u8 ck), DV.v (.int .i64 cn), DV.lst 4 (wordsR cw)])] σ _
        refine enterB 98 tab_ok Try.func21 rfl (by kernel_rfl) rfl rfl rfl ?_
        repeat' (first | refine s_op rfl ?_ | (apply s_move; (iterate 4 (exact rfl))) | (apply s_fa_p tab_ok; (iterate 5 (exact rfl))) | (apply s_ld_f tab_ok; (iterate 6 (exact rfl))) | (apply s_assign; (iterate 4 (exact rfl))) | (apply s_len tab_ok; (iterate 5 (exact rfl))) | (apply s_nilc; (iterate 5 (exact rfl))) | (apply s_build tabZ_ok; (iterate 5 (exact rfl))) | (apply s_boxZ; (iterate 5 (exact rfl)); first | exact rfl | exact allD_mapd _) | (apply s_not_t; (iterate 4 (exact rfl))) | (apply s_gtr_f; (iterate 5 (exact rfl)); omega) | (apply s_geq_f; (iterate 5 (exact rfl)); omega) | (refine w_keep [0, 3, 4, 6] rfl rfl ?_; exact alloc_tail (j := H.slots.length) (c0 := .zero) (g := 0) (lv := false) (L := H.slots ++ [⟨.zero, 0, false⟩]) nPS nPG nSG nPX nSX nGX oP oS oG oX hcp (by simp) (by simp; omega) hj hm0 hP hS hG hX hK (fun σ' hP hS hG hK => ⟨rfl, ⟨hq, _, vg, gr, by (rw [hcnt] at hP; rw [hset] at hS; unfold rRow; simp only [hlen, hf, List.length_nil]; rw [show (H.live + 1 : Int) = ((countLive H.slots + 1 : Nat) : Int) by omega]; exact hP), by (rw [hset] at hS; exact hS), hG, hgr, hgl⟩, hK⟩) rfl) | (apply s_allocF tabZ_ok (d := 4); (iterate 6 (exact rfl)); intro locX σ hc; have hX := hc.at'; have nPX := hc.ne hP; have nSX := hc.ne hS; have nGX := hc.ne hG; replace hP := hc.keep hP; replace hS := hc.keep hS; replace hG := hc.keep hG; have oX := hK.out hc; replace hK := hK.fresh hc; clear hc) | (apply s_ldF tab_ok; (iterate 5 (exact rfl)); exact hP; exact rfl) | (apply s_callS; (iterate 6 (exact rfl)); exact hlv _ hP hS; rintro _ σ2 ⟨rfl, rfl⟩) | (refine o_wk 55 (.agg [DV.v (.int .u8 0), DV.v (.int .i64 0), DV.lst 4 [], DV.v (.int .i64 0), DV.v (.bool false)]) rfl (Wk.agg ⟨Wk.refl _, Wk.refl _, Wk.nil 4, Wk.refl _, Wk.refl _, trivial⟩) ?_) | (apply s_lit tab_ok tabZ_ok; (iterate 10 (exact rfl))) | (apply s_appF tab_ok tabZ_ok (d := 57) (rows2 := [[DV.v (.int .u8 0), DV.v (.int .i64 0), DV.lst 4 [], DV.v (.int .i64 0), DV.v (.bool false)]]) (rows3 := slotsR (H.slots ++ [⟨.zero, 0, false⟩])) (m := H.slots.length + 1); (iterate 10 (exact rfl)); exact hS; exact src_of (Tab.slIs tab_ok (t := 51) rfl) (rows_d rfl); exact hrow; (refine ⟨?_, ?_, ?_⟩ <;> first | omega | (simp only [List.length_cons, List.length_nil] <;> omega)); intro σ hc; replace hS := hc.at'; replace hP := hc.keep nPS hP; replace hG := hc.keep nSG.symm hG; replace hX := hc.keep nSX.symm hX; replace hK := hK.chg oS hc; clear hc) | (apply s_storeF tab_ok; (iterate 7 (exact rfl)); exact hP; (iterate 2 (exact rfl)); intro σ hc; replace hP := hc.at'; replace hS := hc.keep nPS.symm hS; replace hG := hc.keep nPG.symm hG; replace hX := hc.keep nPX.symm hX; replace hK := hK.chg oP hc; clear hc) | (apply s_call; (iterate 6 (exact rfl)); first | (exact hmay; rintro _ rfl)) | refine al_nil ?_ | refine q_then_n ?_ | refine aw_seq ?_ | refine aw_reg ?_ | refine aw_false rfl ?_ | refine aw_skip ?_ | refine al_fork ?_ ?_ | refine aw_draws (id := 3) (trO [0, 2, 3, 4] (.fork 1 (trO [5, 6] .nil) 5 (trO [1, 6] .nil))) [1, 5] [1] mixed_ok (by kernel_rfl) ?_)
      | some i =>
        have hne : H.free ≠ [] := by intro e; rw [e] at hfl; cases hfl
        have hfk : 1 ≤ H.free.length := by
          cases hf : H.free with
          | nil => exact absurd hf hne
          | cons a l => simp
        have hfn : H.free.length ≤ 1000000 := by have := ok.count; omega
        have hgive : H.give c = (cellWord i (H.slot i).gen, { H with slots := H.slots.set i ⟨c, (H.slot i).gen, true⟩, free := H.free.dropLast, most := max H.most (H.live + 1) }) := by unfold AHeap.give; rw [hfl]
        rw [hgive]
        obtain ⟨hil, hdead⟩ := ok.dead i (List.mem_of_getLast? hfl)
        have hj := AHeap.slot_get hil
        have hcnt := countLive_set H.slots i ⟨c, (H.slot i).gen, true⟩ hil
        rw [show H.slots.getD i ⟨c, (H.slot i).gen, true⟩ = H.slot i from by simp [AHeap.slot, List.getD, List.getElem?_eq_getElem hil], hdead] at hcnt
        simp only [Bool.false_eq_true, if_false, if_true, Nat.add_zero] at hcnt
        generalize H.slot i = s at *
        obtain ⟨c0, g, lv⟩ := s
        replace hj : H.slots[i]? = some ⟨c0, g, lv⟩ := hj
        have hdl : H.free.dropLast = H.free.take (H.free.length - 1) := List.dropLast_eq_take
        have hlast : H.free[H.free.length - 1]? = some i := by rw [← List.getLast?_eq_getElem?]; exact hfl
        have hgr1 : gr[H.free.length - 1]? = some [DV.v (.int .i64 (i : Int))] := by
          have h1 : (gr.take H.free.length)[H.free.length - 1]? = gr[H.free.length - 1]? := by rw [List.getElem?_take]; rw [if_pos (by omega)]
          rw [← h1, hgr]
          unfold goneR
          rw [List.getElem?_map, hlast]
          rfl
        have hgr2 : gr.take (H.free.dropLast.length) = goneR H.free.dropLast := by
          rw [hdl, List.length_take, Nat.min_eq_left (by omega)]
          have h1 : gr.take (H.free.length - 1) = (gr.take H.free.length).take (H.free.length - 1) := by rw [List.take_take, Nat.min_eq_left (by omega)]
          rw [h1, hgr]
          simp [goneR, List.map_take]
        have hgl2 : H.free.dropLast.length ≤ gr.length := by rw [List.length_dropLast]; omega
        have hlen : (H.slots.set i ⟨c, g, true⟩).length = H.slots.length := List.length_set
        have hdlen : H.free.dropLast.length = H.free.length - 1 := List.length_dropLast
        obtain ⟨ck, cn, cw⟩ := c
        generalize hk : H.free.length - 1 = k at *
        have hfk2 : H.free.length = k + 1 := by omega
        rw [hfk2] at hP hlv
        show Runs Try.prog 21 [.ptr q.p 0 0, .d (.agg [DV.v (.int .u8 ck), DV.v (.int .i64 cn), DV.lst 4 (wordsR cw)])] σ _
        refine enterB 98 tab_ok Try.func21 rfl (by kernel_rfl) rfl rfl rfl ?_
        repeat' (first | refine s_op rfl ?_ | (apply s_move; (iterate 4 (exact rfl))) | (apply s_fa_p tab_ok; (iterate 5 (exact rfl))) | (apply s_ld_f tab_ok; (iterate 6 (exact rfl))) | (apply s_assign; (iterate 4 (exact rfl))) | (apply s_len tab_ok; (iterate 5 (exact rfl))) | (apply s_nilc; (iterate 5 (exact rfl))) | (apply s_boxZ; (iterate 5 (exact rfl)); first | exact rfl | exact allD_mapd _) | (apply s_not_t; (iterate 4 (exact rfl))) | (apply s_gtr_t; (iterate 5 (exact rfl)); omega) | (apply s_geq_f; (iterate 5 (exact rfl)); omega) | (refine w_keep [0, 3, 4, 6] rfl rfl ?_; exact alloc_tail (j := i) (c0 := c0) (g := g) (lv := lv) (L := H.slots) nPS nPG nSG nPX nSX nGX oP oS oG oX hcp rfl (by omega) hj hm0 hP hS hG hX hK (fun σ' hP hS hG hK => ⟨rfl, ⟨hq, _, vg, gr, by (unfold rRow; simp only [hlen, hdlen]; rw [hcnt] at hP; rw [show (H.live + 1 : Int) = ((countLive H.slots + 1 : Nat) : Int) by omega]; exact hP), hS, hG, hgr2, hgl2⟩, hK⟩) rfl) | (apply s_allocF tabZ_ok (d := 4); (iterate 6 (exact rfl)); intro locX σ hc; have hX := hc.at'; have nPX := hc.ne hP; have nSX := hc.ne hS; have nGX := hc.ne hG; replace hP := hc.keep hP; replace hS := hc.keep hS; replace hG := hc.keep hG; have oX := hK.out hc; replace hK := hK.fresh hc; clear hc) | (apply s_ldF tab_ok; (iterate 5 (exact rfl)); exact hP; exact rfl) | (apply s_callS; (iterate 6 (exact rfl)); exact hlv _ hP hS; rintro _ σ2 ⟨rfl, rfl⟩) | (apply s_subV (k : Int); (iterate 5 (exact rfl)); exact ⟨by omega, by omega, by omega⟩) | (apply s_idxO (k * 1) tab_ok; (iterate 7 (exact rfl)); exact hG; exact ⟨by omega, by omega⟩) | (apply s_ldA k 0 tab_ok; (iterate 5 (exact rfl)); exact hG; exact hgr1; omega; exact rfl) | (apply s_sliceOV 0 k tab_ok; (iterate 8 (exact rfl)); exact hG; (simp only [Option.getD_some, Option.getD_none]; omega); (simp only [Option.getD_some, Option.getD_none]; omega)) | (apply s_storeF tab_ok; (iterate 7 (exact rfl)); exact hP; (iterate 2 (exact rfl)); intro σ hc; replace hP := hc.at'; replace hS := hc.keep nPS.symm hS; replace hG := hc.keep nPG.symm hG; replace hX := hc.keep nPX.symm hX; replace hK := hK.chg oP hc; clear hc) | (apply s_call; (iterate 6 (exact rfl)); first | (exact hmay; rintro _ rfl)) | refine al_nil ?_ | refine q_then_n ?_ | refine aw_seq ?_ | refine aw_reg ?_ | refine aw_true rfl ?_ | refine aw_false rfl ?_ | refine aw_skip ?_ | refine al_fork ?_ ?_ | refine aw_draws (id := 3) (trO [0, 2, 3, 4] (.fork 1 (trO [5, 6] .nil) 5 (trO [1, 6] .nil))) [1, 5] [1] mixed_ok (by kernel_rfl) ?_)
end
end Go.Proofs.Ytciciaikajdenaa
/- T8: the document's Walk. -/
set_option linter.unusedSimpArgs false
set_option linter.unusedVariables false
namespace Go.Proofs.Ytciciaikajdenaa
open Go.RowKit

def comeR (l : List Int) : List (List DV) := l.map fun z => [DV.v (.int .i64 z)]
theorem comeR_len (l : List Int) : (comeR l).length = l.length := by simp [comeR]
theorem comeR_get {l : List Int} {j : Nat} {z : Int} (h : l[j]? = some z) : (comeR l)[j]? = some [DV.v (.int .i64 z)] := row_map (f := fun z : Int => [DV.v (.int .i64 z)]) h
theorem comeR_append (l : List Int) (z : Int) : comeR l ++ [[DV.v (.int .i64 z)]] = comeR (l ++ [z]) := by simp [comeR]
/-- What Walk answers. -/
def WalkP (locC : Nat) (r : Res Val) (σ : List AObj) : AV → List AObj → Prop := fun x σ' =>
  (∃ v c2 f2 ver, r = .ok v c2 f2 ∧ x = .tup [.own locC ver 1 0 c2.length, .d (.v (.bool f2)), .d (.v (.int .i64 0))] ∧ σ'[locC]? = some (.arr 2 1 ver (comeR c2)) ∧ KeptP (· ≠ locC) σ σ') ∨
  (∃ e ver n f2, r = .bad e ∧ e ≠ 0 ∧ x = .tup [.own locC ver 1 0 n, .d (.v (.bool f2)), .d (.v (.int .i64 e))] ∧ KeptP (· ≠ locC) σ σ')
section
variable {σ : List AObj} {q : RQ} {H : AHeap} {B : Int} {locC ver : Nat} {come : List Int} {fl : Bool} {wk wn wg : Int} {ws : ByteArray}
set_option maxRecDepth 100000 in
set_option maxHeartbeats 8000000 in
theorem walk_q_bad {R : Res Val} (hR : R = .bad 2) (hw : AWord.ok ⟨wk, wn, ws, wg⟩ = false) (hC : σ[locC]? = some (.arr 2 1 ver (comeR come))) :
    Runs Try.prog 104 [.ptr q.p 0 0, .d (.agg [DV.v (.int .u8 wk), DV.v (.int .i64 wn), DV.v (.string ws), DV.v (.int .i64 wg)]), .own locC ver 1 0 come.length, .d (.v (.bool fl))] σ (WalkP locC R σ) := by
  have w73 : RunsP Try.prog 73 [.agg [DV.v (.int .u8 wk), DV.v (.int .i64 wn), DV.v (.string ws), DV.v (.int .i64 wg)]] (fun v => v = .v (.bool false)) := hw ▸ word73 ⟨wk, wn, ws, wg⟩
  have hK := KeptP.refl (· ≠ locC) σ
  refine enterB 97 tab_ok Try.func104 rfl (by kernel_rfl) rfl rfl rfl ?_
  repeat' (first | refine s_op rfl ?_ | (apply s_move; (iterate 4 (exact rfl))) | (apply s_ld_f tab_ok; (iterate 6 (exact rfl))) | (apply s_assign; (iterate 4 (exact rfl))) | (apply s_boxZ; (iterate 5 (exact rfl)); first | exact rfl | exact allD_mapd _) | (apply s_not_f; (iterate 4 (exact rfl))) | (apply s_call; (iterate 6 (exact rfl)); first | (exact w73; rintro _ rfl)) | refine al_nil ?_ | refine q_then_n ?_ | refine q_then_r ?_ | refine aw_seq ?_ | refine aw_reg ?_ | refine aw_true rfl ?_ | refine aw_ret ?_)
  all_goals exact q_retB (resB_3 rfl (resV_t rfl) (resV_t rfl) (resV_t rfl) rfl) (.inr ⟨_, _, _, _, hR, by decide, rfl, hK⟩)
set_option maxRecDepth 100000 in
set_option maxHeartbeats 8000000 in
theorem walk_q_leaf {R : Res Val} {v : Val} (hR : R = .ok v come (fl || (decide (wk = 6) || decide (wk = 7)))) (hw : AWord.ok ⟨wk, wn, ws, wg⟩ = true) (hk : wk ≠ 5) (hC : σ[locC]? = some (.arr 2 1 ver (comeR come))) :
    Runs Try.prog 104 [.ptr q.p 0 0, .d (.agg [DV.v (.int .u8 wk), DV.v (.int .i64 wn), DV.v (.string ws), DV.v (.int .i64 wg)]), .own locC ver 1 0 come.length, .d (.v (.bool fl))] σ (WalkP locC R σ) := by
  have w73 : RunsP Try.prog 73 [.agg [DV.v (.int .u8 wk), DV.v (.int .i64 wn), DV.v (.string ws), DV.v (.int .i64 wg)]] (fun v => v = .v (.bool true)) := hw ▸ word73 ⟨wk, wn, ws, wg⟩
  have hK := KeptP.refl (· ≠ locC) σ
  by_cases h6 : wk = 6
  · rw [decide_eq_true h6, Bool.true_or, Bool.or_true] at hR
    refine enterB 97 tab_ok Try.func104 rfl (by kernel_rfl) rfl rfl rfl ?_
    repeat' (first | refine s_op rfl ?_ | (apply s_skipV; (iterate 2 (exact rfl))) | (apply s_move; (iterate 4 (exact rfl))) | (apply s_fa_f tab_ok; (iterate 6 (exact rfl))) | (apply s_ld_f tab_ok; (iterate 6 (exact rfl))) | (apply s_assign; (iterate 4 (exact rfl))) | (apply s_pick_t; (iterate 5 (exact rfl))) | (apply s_boxZ; (iterate 5 (exact rfl)); first | exact rfl | exact allD_mapd _) | (apply s_not_t; (iterate 4 (exact rfl))) | (apply s_eql_t; (iterate 5 (exact rfl)); omega) | (apply s_call; (iterate 6 (exact rfl)); first | (exact w73; rintro _ rfl)) | refine al_nil ?_ | refine q_then_n ?_ | refine q_then_r ?_ | refine aw_seq ?_ | refine aw_reg ?_ | refine aw_true rfl ?_ | refine aw_false rfl ?_ | refine aw_skip ?_ | refine aw_ret ?_)
    all_goals exact q_retB (resB_3 rfl (resV_t rfl) (resV_t rfl) (resV_t rfl) rfl) (.inl ⟨_, _, _, _, hR, rfl, hC, hK⟩)
  · by_cases h7 : wk = 7
    · rw [decide_eq_true h7, Bool.or_true, Bool.or_true] at hR
      refine enterB 97 tab_ok Try.func104 rfl (by kernel_rfl) rfl rfl rfl ?_
      repeat' (first | refine s_op rfl ?_ | (apply s_move; (iterate 4 (exact rfl))) | (apply s_fa_f tab_ok; (iterate 6 (exact rfl))) | (apply s_ld_f tab_ok; (iterate 6 (exact rfl))) | (apply s_assign; (iterate 4 (exact rfl))) | (apply s_pick_f; (iterate 5 (exact rfl))) | (apply s_boxZ; (iterate 5 (exact rfl)); first | exact rfl | exact allD_mapd _) | (apply s_not_t; (iterate 4 (exact rfl))) | (apply s_eql_t; (iterate 5 (exact rfl)); omega) | (apply s_eql_f; (iterate 5 (exact rfl)); omega) | (apply s_call; (iterate 6 (exact rfl)); first | (exact w73; rintro _ rfl)) | refine al_nil ?_ | refine q_then_n ?_ | refine q_then_r ?_ | refine aw_seq ?_ | refine aw_reg ?_ | refine aw_true rfl ?_ | refine aw_false rfl ?_ | refine aw_skip ?_ | refine aw_ret ?_)
      all_goals exact q_retB (resB_3 rfl (resV_t rfl) (resV_t rfl) (resV_t rfl) rfl) (.inl ⟨_, _, _, _, hR, rfl, hC, hK⟩)
    · rw [decide_eq_false h6, decide_eq_false h7, Bool.or_false, Bool.or_false] at hR
      refine enterB 97 tab_ok Try.func104 rfl (by kernel_rfl) rfl rfl rfl ?_
      repeat' (first | refine s_op rfl ?_ | (apply s_move; (iterate 4 (exact rfl))) | (apply s_fa_f tab_ok; (iterate 6 (exact rfl))) | (apply s_ld_f tab_ok; (iterate 6 (exact rfl))) | (apply s_assign; (iterate 4 (exact rfl))) | (apply s_pick_f; (iterate 5 (exact rfl))) | (apply s_boxZ; (iterate 5 (exact rfl)); first | exact rfl | exact allD_mapd _) | (apply s_not_t; (iterate 4 (exact rfl))) | (apply s_eql_f; (iterate 5 (exact rfl)); omega) | (apply s_neq_t; (iterate 5 (exact rfl)); omega) | (apply s_call; (iterate 6 (exact rfl)); first | (exact w73; rintro _ rfl)) | refine al_nil ?_ | refine q_then_n ?_ | refine q_then_r ?_ | refine aw_seq ?_ | refine aw_reg ?_ | refine aw_true rfl ?_ | refine aw_false rfl ?_ | refine aw_skip ?_ | refine aw_ret ?_)
      all_goals exact q_retB (resB_3 rfl (resV_t rfl) (resV_t rfl) (resV_t rfl) rfl) (.inl ⟨_, _, _, _, hR, rfl, hC, hK⟩)
set_option maxRecDepth 100000 in
set_option maxHeartbeats 8000000 in
theorem walk_q_err {R : Res Val} {e : Int} (hR : R = .bad e) (he : e ≠ 0) (hw : AWord.ok ⟨5, wn, ws, wg⟩ = true) (h78 : Runs Try.prog 78 [.ptr q.p 0 0, .d (.agg [DV.v (.int .u8 5), DV.v (.int .i64 wn), DV.v (.string ws), DV.v (.int .i64 wg)])] σ (fun r σ' => r = .d (.v (.int .i64 e)) ∧ σ' = σ)) (hC : σ[locC]? = some (.arr 2 1 ver (comeR come))) :
    Runs Try.prog 104 [.ptr q.p 0 0, .d (.agg [DV.v (.int .u8 5), DV.v (.int .i64 wn), DV.v (.string ws), DV.v (.int .i64 wg)]), .own locC ver 1 0 come.length, .d (.v (.bool fl))] σ (WalkP locC R σ) := by
  have w73 : RunsP Try.prog 73 [.agg [DV.v (.int .u8 5), DV.v (.int .i64 wn), DV.v (.string ws), DV.v (.int .i64 wg)]] (fun v => v = .v (.bool true)) := hw ▸ word73 ⟨5, wn, ws, wg⟩
  have hK := KeptP.refl (· ≠ locC) σ
  refine enterB 97 tab_ok Try.func104 rfl (by kernel_rfl) rfl rfl rfl ?_
  repeat' (first | refine s_op rfl ?_ | (apply s_move; (iterate 4 (exact rfl))) | (apply s_fa_f tab_ok; (iterate 6 (exact rfl))) | (apply s_ld_f tab_ok; (iterate 6 (exact rfl))) | (apply s_assign; (iterate 4 (exact rfl))) | (apply s_pick_f; (iterate 5 (exact rfl))) | (apply s_boxZ; (iterate 5 (exact rfl)); first | exact rfl | exact allD_mapd _) | (apply s_not_t; (iterate 4 (exact rfl))) | (apply s_eql_f; (iterate 5 (exact rfl)); omega) | (apply s_neq_t; (iterate 5 (exact rfl)); omega) | (apply s_neq_f; (iterate 5 (exact rfl)); omega) | (apply s_call; (iterate 6 (exact rfl)); first | (exact w73; rintro _ rfl)) | (apply s_callS; (iterate 6 (exact rfl)); first | (exact h78; rintro _ σ ⟨rfl, rfl⟩)) | refine al_nil ?_ | refine q_then_n ?_ | refine q_then_r ?_ | refine aw_seq ?_ | refine aw_reg ?_ | refine aw_true rfl ?_ | refine aw_false rfl ?_ | refine aw_skip ?_ | refine aw_ret ?_)
  all_goals exact q_retB (resB_3 rfl (resV_t rfl) (resV_t rfl) (resV_t rfl) rfl) (.inr ⟨_, _, _, _, hR, he, rfl, hK⟩)
end
end Go.Proofs.Ytciciaikajdenaa
