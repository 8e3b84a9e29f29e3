/- T14: the document's give. -/
import Derived.Test.YtciciaikajdenaaTPR12T12x2
set_option linter.unusedSimpArgs false
set_option linter.unusedVariables false
namespace Go.Proofs.Ytciciaikajdenaa
open Go.RowKit

noncomputable def give4 : Option Code := match Try.f103.body with
  | some c => findW 4 c
  | none => none
theorem leaf_kind {k n : Int} {s : ByteArray} {len : Nat} (h : headV k n s len = true) (hk : k < 11) : k < 10 := by
  unfold headV at h
  by_cases a1 : k = 1
  · omega
  by_cases a2 : k = 2
  · omega
  by_cases a3 : k = 3 ∨ k = 4 ∨ k = 6
  · omega
  by_cases a4 : k = 7
  · omega
  rw [if_neg a1, if_neg a2, if_neg a3, if_neg a4] at h
  simp only [Bool.and_eq_true, Bool.or_eq_true, beq_iff_eq, decide_eq_true_eq] at h
  omega
def GivenP (H : AHeap) (q : RQ) (v : Val) (σ : List AObj) : AV → List AObj → Prop := fun r σ' => r = .d (.agg (wordD (buildF H v).1)) ∧ RHeap σ' q (buildF H v).2 ∧ KeptP (NotQ q) σ σ'
section
variable {σ0 σ : List AObj} {q : RQ} {H : AHeap} {B : Int} {k n : Int} {s : ByteArray} {l : List Val} {locX locC : Nat}
set_option maxRecDepth 100000 in
set_option maxHeartbeats 8000000 in
theorem give_leaf (hk : k < 11) (hk2 : k < 10) (h : RHeap σ q H) : Runs Try.prog 103 [.ptr q.p 0 0, .d (.agg [DV.v (.int .u8 k), DV.v (.int .i64 n), DV.v (.string s), DV.lst 4 (valR l)])] σ (GivenP H q (.mk k n s l) σ) := by
  have hK := KeptP.refl (NotQ q) σ
  have hb : buildF H (.mk k n s l) = (⟨k, n, s, 0⟩, H) := by simp only [buildF, if_pos hk]
  unfold GivenP
  rw [hb]
  refine enterB 51 tab_ok Try.func103 rfl (by kernel_rfl) rfl rfl rfl ?_
  repeat' (first | refine s_op rfl ?_ | (apply s_fa_f tab_ok; (iterate 6 (exact rfl))) | (apply s_ld_f tab_ok; (iterate 6 (exact rfl))) | (apply s_build tabZ_ok; (iterate 5 (exact rfl))) | (apply s_boxZ; (iterate 5 (exact rfl)); first | exact rfl | exact allD_mapd _) | (apply s_lss_t; (iterate 5 (exact rfl)); omega) | (apply s_allocF tabZ_ok (d := 4); (iterate 6 (exact rfl)); intro locX σ hc; have hX := hc.at'; have pX : NotQ q locX := (by obtain ⟨vs, vg, gr, a, b, c, _⟩ := h.at'; exact ⟨(hc.ne a).symm, (hc.ne b).symm, (hc.ne c).symm⟩); replace h := h.keep (KeptP.fresh (KeptP.refl _ _) hc); have oX := hK.out hc; replace hK := hK.fresh hc; clear hc) | (apply s_storeF tab_ok; (iterate 7 (exact rfl)); exact hX; (iterate 2 (exact rfl)); intro σ hc; replace hX := hc.at'; (try (replace hY := hc.keep nXY.symm hY)); replace h := h.keepP (p := (· ≠ locX)) (fun k o hk e => hc.keep hk e) pX.1.symm pX.2.1.symm pX.2.2.symm; replace hK := hK.chg oX hc; clear hc) | refine al_nil ?_ | refine q_then_n ?_ | refine q_then_r ?_ | refine aw_seq ?_ | refine aw_reg ?_ | refine aw_true rfl ?_ | refine aw_ret ?_)
  all_goals exact q_retB (resB_1 rfl (resV_c (t := 36) rfl rfl hX rfl)) ⟨rfl, h, hK⟩
set_option maxRecDepth 100000 in
set_option maxHeartbeats 8000000 in
theorem give_kids (ok : H.Ok B) (hB : 0 ≤ B) (hk : ¬ k < 11) (hmay : mayV (.mk k n s l) = true) (hroom : (cellsV (.mk k n s l) : Int) ≤ H.room - H.live)
    (hcall : ∀ p ∈ l, ∀ (H : AHeap) (σ : List AObj), H.Ok B → (cellsV p : Int) ≤ H.room - H.live → RHeap σ q H → Runs Try.prog 103 [.ptr q.p 0 0, .d (.agg (valD p))] σ (GivenP H q p σ))
    (nXC : locX ≠ locC) (pX : NotQ q locX) (pC : NotQ q locC) (oX : OutP (NotQ q) σ0 locX) (oC : OutP (NotQ q) σ0 locC) (h : RHeap σ q H) (hX : σ[locX]? = some (.row 36 [.d (.v (.int .u8 0)), .d (.v (.int .i64 0)), .d (.v (.string ⟨#[]⟩)), .d (.v (.int .i64 0))])) (hC : σ[locC]? = some (.row 34 [.d (.v (.int .u8 (k - 10))), .d (.v (.int .i64 n)), .d .nil])) (hK : KeptP (NotQ q) σ0 σ) {X : Code} (hX2 : give4 = some X) :
    AWk Try.prog 51 X (retQB tab Try.f103 (GivenP H q (.mk k n s l) σ0)) [(0, .ptr q.p 0 0), (3, .d (.fptr [DV.v (.int .u8 k), DV.v (.int .i64 n), DV.v (.string s), DV.lst 4 (valR l)])), (4, .ptr locX 0 0), (5, .ptr locC 0 0)] σ := by
  have e1 := valR_len l
  obtain ⟨h1, h2⟩ := may_split hmay
  have hl64 : l.length ≤ 64 := by
    have := h1
    rw [head_con hk] at this
    simp only [Bool.and_eq_true, decide_eq_true_eq] at this
    exact this.2.2.2
  have hcv : cellsV (.mk k n s l) = 1 + cellsL l := by simp only [cellsV, if_pos (show 10 < k by omega)]
  rw [hcv] at hroom
  have hall : ∀ p ∈ l, mayV p = true := fun p hp => by rw [mayL_all, List.all_eq_true] at h2; exact h2 p hp
  have htake : ∀ j, Built B H (buildsF H (l.take j)).2 (cellsL (l.take j)) := fun j => by
    have hsum : cellsL (l.take j) + cellsL (l.drop j) = cellsL l := by rw [← cellsL_append, List.take_append_drop]
    refine (builds_ok hB (l.take j) H ?_ ok (by omega)).1
    rw [mayL_all, List.all_eq_true]
    exact fun p hp => hall p (List.mem_of_mem_take hp)
  cases hX2
  have key := fun {L : Nat} {c : List AV} {σ' : List AObj} => hK.adopt (t := 34) (L := L) (U := 36) (sz := 4) (c := c) (σ' := σ') oC
  repeat' (first | refine s_op rfl ?_ | (apply s_assign; (iterate 4 (exact rfl))) | (refine w_adoptC locC 2 36 4 hC rfl ?_; intro locL σ hc; have hL := hc.arr; have nXL := hc.fresh _ _ hX; have nCL := hc.ne.symm; have pL : NotQ q locL := (by obtain ⟨vs, vg, gr, a, b, c, _⟩ := h.at'; exact ⟨(hc.fresh _ _ a).symm, (hc.fresh _ _ b).symm, (hc.fresh _ _ c).symm⟩); replace h := h.keepP (p := (· ≠ locC)) (fun k o hk e => hc.keep hk e) pC.1.symm pC.2.1.symm pC.2.2.symm; replace hC := hc.row; replace hX := hc.keep nXC hX; obtain ⟨hK, oL⟩ := key hc; clear key hc) | refine al_nil ?_ | refine q_then_n ?_ | refine aw_block ?_ | refine aw_seq ?_ | refine aw_reg ?_)
  refine w_loop [0, 3, 4, 5, 6] (fun n' vs' σ' => ∃ (j ver : Nat), vs' = [.ptr q.p 0 0, .d (.fptr [DV.v (.int .u8 k), DV.v (.int .i64 n), DV.v (.string s), DV.lst 4 (valR l)]), .ptr locX 0 0, .ptr locC 0 0, .d (.v (.int .i64 (j : Int)))] ∧ RHeap σ' q (buildsF H (l.take j)).2 ∧ σ'[locX]? = some (.row 36 [.d (.v (.int .u8 0)), .d (.v (.int .i64 0)), .d (.v (.string ⟨#[]⟩)), .d (.v (.int .i64 0))]) ∧ σ'[locC]? = some (.row 34 [.d (.v (.int .u8 (k - 10))), .d (.v (.int .i64 n)), .own locL ver 4 0 j]) ∧ σ'[locL]? = some (.arr 36 4 ver (wordsR (buildsF H (l.take j)).1)) ∧ KeptP (NotQ q) σ0 σ' ∧ j ≤ l.length ∧ n' = l.length - j) rfl ⟨0, 0, rfl, h, hX, hC, hL, hK, by omega, rfl⟩ ?_
  clear h hX hC hL hK
  rintro n' vs' σ ⟨j, ver, rfl, h, hX, hC, hL, hK, hj, rfl⟩ fr hfr
  cases hfr
  have e2 : (wordsR (buildsF H (l.take j)).1).length = j := by rw [wordsR_len, buildsF_len, List.length_take]; omega
  by_cases hlt : j < l.length
  · obtain ⟨p, hp⟩ := getS hlt
    have ht := buildsF_take hp H
    have hct := cellsL_take hp
    have hb := htake j
    have hsum : cellsL (l.take (j + 1)) + cellsL (l.drop (j + 1)) = cellsL l := by rw [← cellsL_append, List.take_append_drop]
    have hlv := hb.live
    have hrm := hb.room
    have hcl := fun σ h => hcall p (List.mem_of_getElem? hp) (buildsF H (l.take j)).2 σ hb.ok (by omega) h
    unfold GivenP at hcl
    generalize buildsF H (l.take j) = r at *
    have ewr : wordsR r.1 ++ [wordD (buildF r.2 p).1] = wordsR (r.1 ++ [(buildF r.2 p).1]) := by rw [wordsR_append]; rfl
    generalize buildF r.2 p = g at *
    obtain ⟨pk, pn, ps, pl⟩ := p
    clear hcall htake hb hlv hrm hct hsum ok hroom hall h1 h2 hmay
    repeat' (first | refine s_op rfl ?_ | (apply s_move; (iterate 4 (exact rfl))) | (apply s_fa_p tab_ok; (iterate 5 (exact rfl))) | (apply s_fa_f tab_ok; (iterate 6 (exact rfl))) | (apply s_ld_f tab_ok; (iterate 6 (exact rfl))) | (apply s_assign; (iterate 4 (exact rfl))) | (apply s_len tab_ok; (iterate 5 (exact rfl))) | (apply s_idx tab_ok; (iterate 7 (exact rfl)); (first | exact valR_get (by assumption) | exact wordsR_get (by assumption) | assumption)) | (apply s_lit tab_ok tabZ_ok; (iterate 10 (exact rfl))) | (apply s_lss_t; (iterate 5 (exact rfl)); omega) | (apply s_add64; (iterate 5 (exact rfl)); omega) | (apply s_ldF tab_ok; (iterate 5 (exact rfl)); exact hC; exact rfl) | (apply s_callS; (iterate 6 (exact rfl)); exact hcl _ h; rintro _ σ2 ⟨rfl, h2, hk2⟩; replace hX := hk2 _ _ pX hX; replace hC := hk2 _ _ pC hC; replace hL := hk2 _ _ pL hL; replace h := h2; replace hK := hK.trans hk2; clear h2 hk2) | (apply s_appF tab_ok tabZ_ok (d := 42) (rows2 := [wordD g.1]) (rows3 := wordsR (r.1 ++ [g.1])) (m := j + 1); (iterate 10 (exact rfl)); exact hL; exact src_of (Tab.slIs tab_ok (t := 32) rfl) (rows_d rfl); exact ewr; (refine ⟨?_, ?_, ?_⟩ <;> first | omega | (simp only [List.length_cons, List.length_nil] <;> omega)); intro σ hc; replace hL := hc.at'; replace hX := hc.keep nXL hX; replace hC := hc.keep nCL hC; replace h := h.keepP (p := (· ≠ locL)) (fun k o hk e => hc.keep hk e) pL.1.symm pL.2.1.symm pL.2.2.symm; replace hK := hK.chg oL hc; clear hc) | (apply s_storeF tab_ok; (iterate 7 (exact rfl)); exact hC; (iterate 2 (exact rfl)); intro σ hc; replace hC := hc.at'; replace hX := hc.keep nXC hX; (try (replace hL := hc.keep nCL.symm hL)); replace h := h.keepP (p := (· ≠ locC)) (fun k o hk e => hc.keep hk e) pC.1.symm pC.2.1.symm pC.2.2.symm; replace hK := hK.chg oC hc; clear hc) | refine al_nil ?_ | refine q_then_n ?_ | refine q_blk_n ?_ | refine aw_block ?_ | refine aw_seq ?_ | refine aw_reg ?_ | refine aw_true rfl ?_ | refine aw_skip ?_ | refine al_fork ?_ ?_ | refine aw_draws (id := 7) (trO [0, 2, 3, 4, 5, 6, 7] (.fork 1 (trO [8, 9, 10, 11, 12] .nil) 8 (.fork 1 (trO [9, 10, 11, 12] .nil) 9 (trO [1, 10, 11, 12] .nil)))) [1, 8, 9, 10, 12] [8, 10, 12] mixed_ok (by kernel_rfl) ?_)
    all_goals exact ⟨_, _, rfl, by omega, j + 1, _, rfl, by rw [ht]; exact h, hX, hC, by rw [ht]; exact hL, hK, by omega, rfl⟩
  · have hjl : j = l.length := by omega
    have hb := htake l.length
    rw [List.take_of_length_le (by omega)] at h hL e2
    rw [List.take_of_length_le (Nat.le_refl _)] at hb
    have hlv := hb.live
    have hrm := hb.room
    have hws := (builds_ok hB l H h2 ok (by omega)).2
    have hcok : (⟨k - 10, n, (buildsF H l).1⟩ : ACell).ok = true := con_ok hk h1 (buildsF_len l H) hws
    have hag := AHeap.alloc_give (H := (buildsF H l).2) hcok (by omega)
    have hal := fun σ (h : RHeap σ q (buildsF H l).2) => alloc_q h hb.ok ⟨k - 10, n, (buildsF H l).1⟩ (by rw [show (⟨k - 10, n, (buildsF H l).1⟩ : ACell).ws = (buildsF H l).1 from rfl, buildsF_len]; omega)
    have hbf : buildF H (.mk k n s l) = (((buildsF H l).2.give ⟨k - 10, n, (buildsF H l).1⟩).1, ((buildsF H l).2.give ⟨k - 10, n, (buildsF H l).1⟩).2) := by
      simp only [buildF, if_neg hk]
      rw [hag]
    rw [hag] at hal
    unfold GivenP
    rw [hbf]
    generalize (buildsF H l).2.give ⟨k - 10, n, (buildsF H l).1⟩ = g at *
    obtain ⟨⟨gk, gn, gs, gg⟩, g2⟩ := g
    simp only at hal ⊢
    generalize buildsF H l = r at *
    clear hcall htake hb hlv hrm hws hcok hag hbf ok hroom hall h1 h2 hmay
    repeat' (first | refine s_op rfl ?_ | (apply s_move; (iterate 4 (exact rfl))) | (apply s_fa_f tab_ok; (iterate 6 (exact rfl))) | (apply s_ld_f tab_ok; (iterate 6 (exact rfl))) | (apply s_assign; (iterate 4 (exact rfl))) | (apply s_len tab_ok; (iterate 5 (exact rfl))) | (apply s_ext; (iterate 5 (exact rfl))) | (apply s_lss_f; (iterate 5 (exact rfl)); omega) | (refine w_freezeC locC 2 hC rfl hL (by omega) ?_; intro σ hc; replace hK := hK.frz oC oL hc; replace hC := hc.row; replace hX := hc.keep' _ _ hX nXC nXL; replace h := h.keepP (p := fun k => k ≠ locC ∧ k ≠ locL) (fun k o hk e => hc.keep' _ _ e hk.1 hk.2) ⟨pC.1.symm, pL.1.symm⟩ ⟨pC.2.1.symm, pL.2.1.symm⟩ ⟨pC.2.2.symm, pL.2.2.symm⟩; clear hc hL) | (apply s_ldF tab_ok; (iterate 5 (exact rfl)); exact hC; exact rfl) | (apply s_ldF tab_ok; (iterate 5 (exact rfl)); exact hY; exact rfl) | (apply s_callS; (iterate 6 (exact rfl)); exact hal _ h; rintro _ σ2 ⟨rfl, h2, hk2⟩; replace hX := hk2 _ _ pX hX; replace h := h2; replace hK := hK.trans hk2; clear h2 hk2 hC) | (apply s_allocF tabZ_ok (d := 7); (iterate 6 (exact rfl)); intro locY σ hc; have hY := hc.at'; have pY : NotQ q locY := (by obtain ⟨vs, vg, gr, a, b, c, _⟩ := h.at'; exact ⟨(hc.ne a).symm, (hc.ne b).symm, (hc.ne c).symm⟩); have nXY := hc.ne hX; replace hX := hc.keep hX; replace h := h.keep (KeptP.fresh (KeptP.refl _ _) hc); have oY := hK.out hc; replace hK := hK.fresh hc; clear hc) | (apply s_storeF tab_ok; (iterate 7 (exact rfl)); exact hY; (iterate 2 (exact rfl)); intro σ hc; replace hY := hc.at'; replace hX := hc.keep nXY hX; replace h := h.keepP (p := (· ≠ locY)) (fun k o hk e => hc.keep hk e) pY.1.symm pY.2.1.symm pY.2.2.symm; replace hK := hK.chg oY hc; clear hc) | (apply s_storeF tab_ok; (iterate 7 (exact rfl)); exact hX; (iterate 2 (exact rfl)); intro σ hc; replace hX := hc.at'; (try (replace hY := hc.keep nXY.symm hY)); replace h := h.keepP (p := (· ≠ locX)) (fun k o hk e => hc.keep hk e) pX.1.symm pX.2.1.symm pX.2.2.symm; replace hK := hK.chg oX hc; clear hc) | refine al_nil ?_ | refine q_then_n ?_ | refine q_blk_e ?_ | refine q_then_e ?_ | refine aw_exit ?_ | refine aw_seq ?_ | refine aw_reg ?_ | refine aw_false rfl ?_ | refine aw_ret ?_)
    all_goals exact q_retB (resB_1 rfl (resV_c (t := 36) rfl rfl hX rfl)) ⟨rfl, h, hK⟩
set_option maxRecDepth 100000 in
set_option maxHeartbeats 8000000 in
theorem give_con (ok : H.Ok B) (hB : 0 ≤ B) (hk : ¬ k < 11) (hk2 : k ≤ 255) (hmay : mayV (.mk k n s l) = true) (hroom : (cellsV (.mk k n s l) : Int) ≤ H.room - H.live)
    (hcall : ∀ p ∈ l, ∀ (H : AHeap) (σ : List AObj), H.Ok B → (cellsV p : Int) ≤ H.room - H.live → RHeap σ q H → Runs Try.prog 103 [.ptr q.p 0 0, .d (.agg (valD p))] σ (GivenP H q p σ))
    (h : RHeap σ q H) : Runs Try.prog 103 [.ptr q.p 0 0, .d (.agg [DV.v (.int .u8 k), DV.v (.int .i64 n), DV.v (.string s), DV.lst 4 (valR l)])] σ (GivenP H q (.mk k n s l) σ) := by
  have hK := KeptP.refl (NotQ q) σ
  have hsub : IntKind.wrap .u8 (k - 10) = k - 10 := wrapU8 (by omega) (by omega)
  refine enterB 51 tab_ok Try.func103 rfl (by kernel_rfl) rfl rfl rfl ?_
  repeat' (first | refine s_op rfl ?_ | (apply s_fa_f tab_ok; (iterate 6 (exact rfl))) | (apply s_ld_f tab_ok; (iterate 6 (exact rfl))) | (apply s_build tabZ_ok; (iterate 5 (exact rfl))) | (apply s_boxZ; (iterate 5 (exact rfl)); first | exact rfl | exact allD_mapd _) | (apply s_lss_f; (iterate 5 (exact rfl)); omega) | (refine w_keep [0, 3, 4, 5] rfl rfl ?_; exact give_kids ok hB hk hmay hroom hcall nXC pX pC oX oC h hX hC hK rfl) | (apply s_allocF tabZ_ok (d := 4); (iterate 6 (exact rfl)); intro locX σ hc; have hX := hc.at'; have pX : NotQ q locX := (by obtain ⟨vs, vg, gr, a, b, c, _⟩ := h.at'; exact ⟨(hc.ne a).symm, (hc.ne b).symm, (hc.ne c).symm⟩); replace h := h.keep (KeptP.fresh (KeptP.refl _ _) hc); have oX := hK.out hc; replace hK := hK.fresh hc; clear hc) | (apply s_allocF tabZ_ok (d := 5); (iterate 6 (exact rfl)); intro locC σ hc; have hC := hc.at'; have pC : NotQ q locC := (by obtain ⟨vs, vg, gr, a, b, c, _⟩ := h.at'; exact ⟨(hc.ne a).symm, (hc.ne b).symm, (hc.ne c).symm⟩); have nXC := hc.ne hX; replace hX := hc.keep hX; replace h := h.keep (KeptP.fresh (KeptP.refl _ _) hc); have oC := hK.out hc; replace hK := hK.fresh hc; clear hc) | (apply s_storeF tab_ok; (iterate 7 (exact rfl)); exact hC; (iterate 2 (exact rfl)); intro σ hc; replace hC := hc.at'; replace hX := hc.keep nXC hX; (try (replace hL := hc.keep nCL.symm hL)); replace h := h.keepP (p := (· ≠ locC)) (fun k o hk e => hc.keep hk e) pC.1.symm pC.2.1.symm pC.2.2.symm; replace hK := hK.chg oC hc; clear hc) | (apply s_subK (k - 10); (iterate 5 (exact rfl)); exact hsub) | refine al_nil ?_ | refine q_then_n ?_ | refine aw_seq ?_ | refine aw_reg ?_ | refine aw_false rfl ?_ | refine aw_skip ?_)
theorem give_q (hB : 0 ≤ B) : ∀ v : Val, v.kok → mayV v = true → ∀ (H : AHeap) (σ : List AObj), H.Ok B → (cellsV v : Int) ≤ H.room - H.live → RHeap σ q H → Runs Try.prog 103 [.ptr q.p 0 0, .d (.agg (valD v))] σ (GivenP H q v σ) := by
  refine rec_val fun k n s l ih hv hmay H σ ok hroom h => ?_
  obtain ⟨m1, m2⟩ := may_split hmay
  by_cases hk : k < 11
  · exact give_leaf hk (leaf_kind m1 hk) h
  · rw [mayL_all, List.all_eq_true] at m2
    exact give_con ok hB hk hv.2.1 hmay hroom (fun p hp H σ ok hr h => ih p hp (Val.kokL_mem hv.2.2 p hp) (m2 p hp) H σ ok hr h) h
end
end Go.Proofs.Ytciciaikajdenaa
