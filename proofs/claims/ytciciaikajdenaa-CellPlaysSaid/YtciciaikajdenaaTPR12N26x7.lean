/- N26: the chapter's rows hold. -/
import Derived.Test.YtciciaikajdenaaTPR12N23x3
set_option linter.unusedSimpArgs false
set_option linter.unusedVariables false
namespace Go.Proofs.Ytciciaikajdenaa
open Go.RowKit

theorem keepAt {P : Program} {nt : Nat} {Q : Exit → Fr → List AObj → Prop} {fr : Fr} {σ : List AObj} {ops : Array Oper} {b : Bool} {c : Code} (id : Nat) (ks : List Nat) {vs : List AV} {fr' : Fr} (hv : getO ks fr = some vs) (hf : seqL (ks.zip vs) some = some fr') (h : AWk P nt (.region id ops b) (thenQ (AWk P nt c Q) Q) fr' σ) : AWk P nt (.seq (.region id ops b) c) Q fr σ := w_keep ks hv hf (aw_seq h)
theorem KeptP.past {σ0 σ σ2 : List AObj} {L : Nat} (h : KeptP (fun _ => True) σ0 σ) (o : OutP (fun _ => True) σ0 L) (k : KeptP (· ≠ L) σ σ2) : KeptP (fun _ => True) σ0 σ2 := fun i ob hp e => k i ob (fun q => by subst q; exact o ob hp e) (h i ob hp e)
def Mut (f : FuncId) (more : List AV) (H : AHeap) (y : DV) (H' : AHeap) : Prop := ∀ (σ : List AObj) (loc : Nat), σ[loc]? = some (ho H) → Runs Try.prog f (.ptr loc 0 0 :: more) σ (fun r σ' => r = .d y ∧ σ'[loc]? = some (ho H') ∧ KeptP (· ≠ loc) σ σ')
def See (f : FuncId) (more : List AV) (H : AHeap) (y : DV) : Prop := ∀ (σ : List AObj) (loc : Nat), σ[loc]? = some (ho H) → Runs Try.prog f (.ptr loc 0 0 :: more) σ (fun r σ' => r = .d y ∧ KeptP (fun _ => True) σ σ')
section
set_option maxRecDepth 100000 in
set_option maxHeartbeats 16000000 in
theorem known_w {σ : List AObj} {K0 K1 K2 K3 K4 : AHeap}
    (b0 : ∀ σ, Runs Try.prog 15 [.d (.v (.int .i64 9))] σ (fun v σ' => ∃ loc, v = .tup [.ptr loc 0 0, .d (.v (.int .i64 0))] ∧ Fresh σ loc (ho K0) σ'))
    (b1 : Mut 45 [.d (.agg [DV.v (.int .u8 11), DV.v (.int .i64 3), DV.v (.string ⟨#[]⟩), DV.lst 4 [[DV.v (.int .u8 1), DV.v (.int .i64 1), DV.v (.string ⟨#[]⟩), DV.lst 4 []], [DV.v (.int .u8 13), DV.v (.int .i64 0), DV.v (.string ⟨#[]⟩), DV.lst 4 []]]])] K0 (.tup [.agg [DV.v (.int .u8 5), DV.v (.int .i64 1), DV.v (.string ⟨#[]⟩), DV.v (.int .i64 0)], DV.v (.int .i64 0)]) K1)
    (z1 : See 53 [.d (.agg [DV.v (.int .u8 5), DV.v (.int .i64 1), DV.v (.string ⟨#[]⟩), DV.v (.int .i64 0)])] K1 (.tup [DV.v (.int .i64 2), DV.v (.int .i64 0)]))
    (a1 : See 49 [.d (.agg [DV.v (.int .u8 5), DV.v (.int .i64 1), DV.v (.string ⟨#[]⟩), DV.v (.int .i64 0)])] K1 (.tup [.agg [DV.v (.int .u8 11), DV.v (.int .i64 3), DV.v (.string ⟨#[]⟩), DV.lst 4 [[DV.v (.int .u8 1), DV.v (.int .i64 1), DV.v (.string ⟨#[]⟩), DV.lst 4 []], [DV.v (.int .u8 13), DV.v (.int .i64 0), DV.v (.string ⟨#[]⟩), DV.lst 4 []]]], DV.v (.int .i64 0)]))
    (p1 : Mut 46 [.d (.agg [DV.v (.int .u8 5), DV.v (.int .i64 1), DV.v (.string ⟨#[]⟩), DV.v (.int .i64 0)])] K1 (.tup [.agg [DV.v (.int .u8 5), DV.v (.int .i64 3), DV.v (.string ⟨#[]⟩), DV.v (.int .i64 0)], DV.v (.int .i64 0)]) K2)
    (a2 : See 49 [.d (.agg [DV.v (.int .u8 5), DV.v (.int .i64 3), DV.v (.string ⟨#[]⟩), DV.v (.int .i64 0)])] K2 (.tup [.agg [DV.v (.int .u8 11), DV.v (.int .i64 3), DV.v (.string ⟨#[]⟩), DV.lst 4 [[DV.v (.int .u8 1), DV.v (.int .i64 1), DV.v (.string ⟨#[]⟩), DV.lst 4 []], [DV.v (.int .u8 13), DV.v (.int .i64 0), DV.v (.string ⟨#[]⟩), DV.lst 4 []]]], DV.v (.int .i64 0)]))
    (q1 : Mut 50 [.d (.fptr worldC), .d (.agg [DV.v (.int .u8 5), DV.v (.int .i64 1), DV.v (.string ⟨#[]⟩), DV.v (.int .i64 0)])] K2 (DV.v (.int .i64 0)) K3)
    (b2 : Mut 45 [.d (.agg [DV.v (.int .u8 13), DV.v (.int .i64 0), DV.v (.string ⟨#[]⟩), DV.lst 4 []])] K3 (.tup [.agg [DV.v (.int .u8 5), DV.v (.int .i64 0), DV.v (.string ⟨#[]⟩), DV.v (.int .i64 1)], DV.v (.int .i64 0)]) K4)
    (z2 : See 53 [.d (.agg [DV.v (.int .u8 5), DV.v (.int .i64 1), DV.v (.string ⟨#[]⟩), DV.v (.int .i64 0)])] K4 (.tup [DV.v (.int .i64 0), DV.v (.int .i64 230)]))
    (q2 : Mut 46 [.d (.agg [DV.v (.int .u8 7), DV.v (.int .i64 0), DV.v (.string ⟨#[]⟩), DV.v (.int .i64 0)])] K4 (.tup [.agg [DV.v (.int .u8 0), DV.v (.int .i64 0), DV.v (.string ⟨#[]⟩), DV.v (.int .i64 0)], DV.v (.int .i64 240)]) K4)
    (b3 : Mut 45 [.d (.agg [DV.v (.int .u8 5), DV.v (.int .i64 0), DV.v (.string ⟨#[]⟩), DV.lst 4 []])] K4 (.tup [.agg [DV.v (.int .u8 0), DV.v (.int .i64 0), DV.v (.string ⟨#[]⟩), DV.v (.int .i64 0)], DV.v (.int .i64 2)]) K4)
    (s1 : RunsP Try.prog 51 [.agg [DV.v (.int .u8 11), DV.v (.int .i64 3), DV.v (.string ⟨#[]⟩), DV.lst 4 [[DV.v (.int .u8 1), DV.v (.int .i64 1), DV.v (.string ⟨#[]⟩), DV.lst 4 []], [DV.v (.int .u8 13), DV.v (.int .i64 0), DV.v (.string ⟨#[]⟩), DV.lst 4 []]]], .agg [DV.v (.int .u8 11), DV.v (.int .i64 3), DV.v (.string ⟨#[]⟩), DV.lst 4 [[DV.v (.int .u8 1), DV.v (.int .i64 1), DV.v (.string ⟨#[]⟩), DV.lst 4 []], [DV.v (.int .u8 13), DV.v (.int .i64 0), DV.v (.string ⟨#[]⟩), DV.lst 4 []]]]] (fun v => v = .v (.bool true))) :
    Runs Try.prog 42 [] σ (fun r σ' => r = .d (.v (.bool true)) ∧ KeptP (fun _ => True) σ σ') := by
  have n1 := fun (σ : List AObj) => size_nil (σ := σ) (cellWord 1 0)
  have n2 := fun (σ : List AObj) => build_nil (σ := σ) v0
  have n3 := fun (σ : List AObj) => value_nil (σ := σ) (cellWord 1 0)
  have n4 := fun (σ : List AObj) => drop_nilH (σ := σ) (cellWord 1 0)
  have n5 := fun (σ : List AObj) (loc : Nat) => drop_nilW (σ := σ) (cellWord 1 0) (locH := loc) rfl
  unfold Mut See at *
  have hK := KeptP.refl (fun _ => True) σ
  refine enterB 195 tab_ok Try.func42 rfl (by kernel_rfl) rfl rfl rfl ?_
  repeat' (first
      | refine s_op rfl ?_ | (apply s_skipV; (iterate 2 (exact rfl))) | (apply s_skipU; (iterate 3 (exact rfl))) | (apply s_move; (iterate 4 (exact rfl))) | (apply s_ld_p tab_ok; (iterate 7 (exact rfl)))
      | (apply s_ld_f tab_ok; (iterate 6 (exact rfl))) | (apply s_ld_w tab_ok; (iterate 5 (exact rfl)); (first | exact valD_len _ | exact wordD_len _)) | (apply s_assign; (iterate 4 (exact rfl))) | (apply s_pick_t; (iterate 5 (exact rfl))) | (apply s_pick_f; (iterate 5 (exact rfl)))
      | (apply s_ext; (iterate 5 (exact rfl))) | (apply s_build tabZ_ok; (iterate 5 (exact rfl))) | (apply s_lit1 tab_ok tabZ_ok; (iterate 9 (exact rfl)); (first | exact valD_len _ | exact wordD_len _)) | (apply s_not_t; (iterate 4 (exact rfl))) | (apply s_not_f; (iterate 4 (exact rfl)))
      | (apply s_not; (iterate 4 (exact rfl))) | (apply s_eql_t; (iterate 5 (exact rfl)); omega) | (apply s_eql_f; (iterate 5 (exact rfl)); omega) | (apply s_neq_t; (iterate 5 (exact rfl)); omega) | (apply s_neq_f; (iterate 5 (exact rfl)); omega)
      | (apply s_callS; (iterate 6 (exact rfl)); exact b0 _; rintro _ σ1 ⟨locH, rfl, hc⟩; have hH := hc.at'; have oH := hK.out hc; replace hK := hK.fresh hc; clear hc)
      | (apply s_allocF tabZ_ok (d := 5); (iterate 6 (exact rfl)); intro locV σ hc; have hV := hc.at'; have nHV := hc.ne hH; replace hH := hc.keep hH; have oV := hK.out hc; replace hK := hK.fresh hc; clear hc)
      | (apply s_allocF tabZ_ok (d := 6); (iterate 6 (exact rfl)); intro locW σ hc; have hW := hc.at'; have nHW := hc.ne hH; replace hH := hc.keep hH; have nVW := hc.ne hV; replace hV := hc.keep hV; have oW := hK.out hc; replace hK := hK.fresh hc; clear hc)
      | (apply s_allocF tabZ_ok (d := 8); (iterate 6 (exact rfl)); intro locA σ hc; have hA := hc.at'; have nHA := hc.ne hH; replace hH := hc.keep hH; have nVA := hc.ne hV; replace hV := hc.keep hV; have nWA := hc.ne hW; replace hW := hc.keep hW; have oA := hK.out hc; replace hK := hK.fresh hc; clear hc)
      | (apply s_allocF tabZ_ok (d := 9); (iterate 6 (exact rfl)); intro locY σ hc; have hY := hc.at'; have nHY := hc.ne hH; replace hH := hc.keep hH; have nVY := hc.ne hV; replace hV := hc.keep hV; have nWY := hc.ne hW; replace hW := hc.keep hW; have nAY := hc.ne hA; replace hA := hc.keep hA; have oY := hK.out hc; replace hK := hK.fresh hc; clear hc)
      | (apply s_allocF tabZ_ok (d := 10); (iterate 6 (exact rfl)); intro locB σ hc; have hB := hc.at'; have nHB := hc.ne hH; replace hH := hc.keep hH; have nVB := hc.ne hV; replace hV := hc.keep hV; have nWB := hc.ne hW; replace hW := hc.keep hW; have nAB := hc.ne hA; replace hA := hc.keep hA; have nYB := hc.ne hY; replace hY := hc.keep hY; have oB := hK.out hc; replace hK := hK.fresh hc; clear hc)
      | (apply s_allocF tabZ_ok (d := 12); (iterate 6 (exact rfl)); intro locZ σ hc; have hZ := hc.at'; have nHZ := hc.ne hH; replace hH := hc.keep hH; have nVZ := hc.ne hV; replace hV := hc.keep hV; have nWZ := hc.ne hW; replace hW := hc.keep hW; have oZ := hK.out hc; replace hK := hK.fresh hc; clear hc)
      | (apply s_allocF tabZ_ok (d := 13); (iterate 6 (exact rfl)); intro locU σ hc; have hU := hc.at'; have nHU := hc.ne hH; replace hH := hc.keep hH; have nVU := hc.ne hV; replace hV := hc.keep hV; have nWU := hc.ne hW; replace hW := hc.keep hW; have oU := hK.out hc; replace hK := hK.fresh hc; clear hc)
      | (apply s_allocF tabZ_ok (d := 15); (iterate 6 (exact rfl)); intro locT σ hc; have hT := hc.at'; have nHT := hc.ne hH; replace hH := hc.keep hH; have nVT := hc.ne hV; replace hV := hc.keep hV; have nWT := hc.ne hW; replace hW := hc.keep hW; have oT := hK.out hc; replace hK := hK.fresh hc; clear hc)
      | (apply s_storeF tab_ok; (iterate 7 (exact rfl)); exact hV; (iterate 2 (exact rfl)); intro σ hc; replace hV := hc.at'; replace hH := hc.keep (by first | assumption | (apply Ne.symm; assumption) | omega) hH; replace hK := hK.chg oV hc; clear hc)
      | (apply s_storeF tab_ok; (iterate 7 (exact rfl)); exact hW; (iterate 2 (exact rfl)); intro σ hc; replace hW := hc.at'; replace hH := hc.keep (by first | assumption | (apply Ne.symm; assumption) | omega) hH; replace hV := hc.keep (by first | assumption | (apply Ne.symm; assumption) | omega) hV; replace hK := hK.chg oW hc; clear hc)
      | (apply s_storeF tab_ok; (iterate 7 (exact rfl)); exact hA; (iterate 2 (exact rfl)); intro σ hc; replace hA := hc.at'; replace hH := hc.keep (by first | assumption | (apply Ne.symm; assumption) | omega) hH; replace hV := hc.keep (by first | assumption | (apply Ne.symm; assumption) | omega) hV; replace hW := hc.keep (by first | assumption | (apply Ne.symm; assumption) | omega) hW; replace hK := hK.chg oA hc; clear hc)
      | (apply s_storeF tab_ok; (iterate 7 (exact rfl)); exact hY; (iterate 2 (exact rfl)); intro σ hc; replace hY := hc.at'; replace hH := hc.keep (by first | assumption | (apply Ne.symm; assumption) | omega) hH; replace hV := hc.keep (by first | assumption | (apply Ne.symm; assumption) | omega) hV; replace hW := hc.keep (by first | assumption | (apply Ne.symm; assumption) | omega) hW; replace hA := hc.keep (by first | assumption | (apply Ne.symm; assumption) | omega) hA; replace hK := hK.chg oY hc; clear hc)
      | (apply s_storeF tab_ok; (iterate 7 (exact rfl)); exact hB; (iterate 2 (exact rfl)); intro σ hc; replace hB := hc.at'; replace hH := hc.keep (by first | assumption | (apply Ne.symm; assumption) | omega) hH; replace hV := hc.keep (by first | assumption | (apply Ne.symm; assumption) | omega) hV; replace hW := hc.keep (by first | assumption | (apply Ne.symm; assumption) | omega) hW; replace hA := hc.keep (by first | assumption | (apply Ne.symm; assumption) | omega) hA; replace hY := hc.keep (by first | assumption | (apply Ne.symm; assumption) | omega) hY; replace hK := hK.chg oB hc; clear hc)
      | (apply s_storeF tab_ok; (iterate 7 (exact rfl)); exact hZ; (iterate 2 (exact rfl)); intro σ hc; replace hZ := hc.at'; replace hH := hc.keep (by first | assumption | (apply Ne.symm; assumption) | omega) hH; replace hV := hc.keep (by first | assumption | (apply Ne.symm; assumption) | omega) hV; replace hW := hc.keep (by first | assumption | (apply Ne.symm; assumption) | omega) hW; replace hK := hK.chg oZ hc; clear hc)
      | (apply s_storeF tab_ok; (iterate 7 (exact rfl)); exact hU; (iterate 2 (exact rfl)); intro σ hc; replace hU := hc.at'; replace hH := hc.keep (by first | assumption | (apply Ne.symm; assumption) | omega) hH; replace hV := hc.keep (by first | assumption | (apply Ne.symm; assumption) | omega) hV; replace hW := hc.keep (by first | assumption | (apply Ne.symm; assumption) | omega) hW; replace hK := hK.chg oU hc; clear hc)
      | (apply s_storeF tab_ok; (iterate 7 (exact rfl)); exact hT; (iterate 2 (exact rfl)); intro σ hc; replace hT := hc.at'; replace hH := hc.keep (by first | assumption | (apply Ne.symm; assumption) | omega) hH; replace hV := hc.keep (by first | assumption | (apply Ne.symm; assumption) | omega) hV; replace hW := hc.keep (by first | assumption | (apply Ne.symm; assumption) | omega) hW; replace hK := hK.chg oT hc; clear hc)
      | (apply s_ldF tab_ok; (iterate 5 (exact rfl)); exact hV; exact rfl)
      | (apply s_ldF tab_ok; (iterate 5 (exact rfl)); exact hW; exact rfl)
      | (apply s_ldF tab_ok; (iterate 5 (exact rfl)); exact hA; exact rfl)
      | (apply s_ldF tab_ok; (iterate 5 (exact rfl)); exact hY; exact rfl)
      | (apply s_ldF tab_ok; (iterate 5 (exact rfl)); exact hB; exact rfl)
      | (apply s_ldF tab_ok; (iterate 5 (exact rfl)); exact hZ; exact rfl)
      | (apply s_callS; (iterate 6 (exact rfl)); (first | (first | exact b1 _ _ hH | exact b2 _ _ hH | exact b3 _ _ hH) | (first | exact p1 _ _ hH | exact q2 _ _ hH) | (first | exact q1 _ _ hH)); rintro _ σ2 ⟨rfl, hH2, hk2⟩; (try replace hV := hk2 _ _ nHV.symm hV); (try replace hW := hk2 _ _ nHW.symm hW); (try replace hA := hk2 _ _ nHA.symm hA); (try replace hY := hk2 _ _ nHY.symm hY); (try replace hB := hk2 _ _ nHB.symm hB); (try replace hZ := hk2 _ _ nHZ.symm hZ); replace hK := hK.past oH hk2; clear hk2; replace hH := hH2; clear hH2)
      | (apply s_callS; (iterate 6 (exact rfl)); (first | (first | exact z1 _ _ hH | exact z2 _ _ hH | exact n1 _) | (first | exact a1 _ _ hH | exact a2 _ _ hH | exact n3 _) | (first | exact n2 _) | (first | exact n4 _)); rintro _ σ2 ⟨rfl, hk2⟩; replace hH := hk2 _ _ trivial hH; (try replace hV := hk2 _ _ trivial hV); (try replace hW := hk2 _ _ trivial hW); (try replace hA := hk2 _ _ trivial hA); (try replace hY := hk2 _ _ trivial hY); (try replace hB := hk2 _ _ trivial hB); (try replace hZ := hk2 _ _ trivial hZ); replace hK := hK.trans hk2; clear hk2)
      | (apply s_callS; (iterate 6 (exact rfl)); exact n5 _ _; rintro _ σ2 ⟨rfl, rfl⟩)
      | (apply s_wNe_f (cellWord 1 0) (cellWord 1 0); (iterate 6 (exact rfl)))
      | (apply s_wNe_f (cellWord 3 0) (cellWord 3 0); (iterate 6 (exact rfl)))
      | (apply s_wNe_f (cellWord 0 1) (cellWord 0 1); (iterate 6 (exact rfl)))
      | (refine o_wk 32 (.agg (valD vArr)) rfl (Wk.agg ⟨Wk.refl _, Wk.refl _, Wk.refl _, Wk.nil 4, trivial⟩) ?_)
      | (refine o_wk 113 (.agg (valD vArr)) rfl (Wk.agg ⟨Wk.refl _, Wk.refl _, Wk.refl _, Wk.nil 4, trivial⟩) ?_)
      | (refine o_wk 146 (.agg (valD vBad)) rfl (Wk.agg ⟨Wk.refl _, Wk.refl _, Wk.refl _, Wk.nil 4, trivial⟩) ?_)
      | (apply s_lit tab_ok tabZ_ok; (iterate 10 (exact rfl)))
      | (refine keepAt 6 [0, 1, 3, 5] rfl rfl ?_)
      | (refine keepAt 7 [0, 1, 3, 5, 6, 2] rfl rfl ?_)
      | (refine keepAt 8 [0, 1, 3, 5, 6, 2, 7, 4] rfl rfl ?_)
      | (refine keepAt 10 [0, 1, 3, 5, 6] rfl rfl ?_)
      | (refine keepAt 11 [0, 1, 3, 5, 6, 2, 8] rfl rfl ?_)
      | (refine keepAt 12 [0, 1, 3, 5, 6, 2, 8, 9, 4] rfl rfl ?_)
      | (refine keepAt 13 [0, 1, 3, 5, 6, 2, 8, 9, 4, 10, 11] rfl rfl ?_)
      | (refine keepAt 15 [0, 1, 3, 5, 6] rfl rfl ?_)
      | (refine keepAt 16 [0, 1, 3, 5, 6, 2] rfl rfl ?_)
      | (refine keepAt 17 [0, 1, 3, 5, 6, 2, 12, 4] rfl rfl ?_)
      | (refine keepAt 18 [0, 1, 3, 5, 6, 2, 12, 4, 11] rfl rfl ?_)
      | (refine keepAt 20 [0, 1, 3, 5, 6] rfl rfl ?_)
      | (refine keepAt 21 [0, 1, 3, 5, 6, 2] rfl rfl ?_)
      | (refine keepAt 22 [0, 1, 3, 5, 6, 2, 4] rfl rfl ?_)
      | (refine keepAt 23 [0, 1, 3, 5, 6, 2, 4, 11] rfl rfl ?_)
      | (refine keepAt 24 [0, 1, 3, 5, 6, 2, 4, 11, 14] rfl rfl ?_)
      | (refine keepAt 25 [0, 1, 3, 5, 6, 2, 4, 11, 14, 16] rfl rfl ?_)
      | (apply s_call; (iterate 6 (exact rfl)); first | (exact world_new; rintro _ rfl) | (exact number_c85 1; rintro _ rfl) | (exact at_c56 _ _; rintro _ rfl) | (exact s1; rintro _ rfl))
      | refine al_nil ?_ | refine q_then_n ?_ | refine q_then_r ?_ | refine aw_seq ?_ | refine aw_reg ?_
      | refine aw_true rfl ?_ | refine aw_false rfl ?_ | refine aw_skip ?_ | refine aw_ret ?_ | refine al_fork ?_ ?_
      | refine al_fork3 ?_ ?_ ?_
      | refine aw_draws (id := 8) (trO [0, 1, 2, 3, 4, 5, 6, 7, 8, 9, 10, 11, 12, 13, 14] .nil) [1] [] mixed_ok (by kernel_rfl) ?_
      | refine aw_draws (id := 13) (trO [0, 1, 2, 3, 4, 5, 6, 7, 8, 9, 10, 11, 12, 13, 14, 15, 16, 17, 18, 19, 20, 21, 22, 23, 24, 25, 26] .nil) [2, 10, 20] [] mixed_ok (by kernel_rfl) ?_
      | refine aw_draws (id := 18) (trO [0, 1, 2, 3, 4, 5, 6, 7, 8, 9, 10, 11, 12, 13, 14] .nil) [4] [] mixed_ok (by kernel_rfl) ?_)
  all_goals exact q_retB (resB_1 rfl (resV_t rfl)) ⟨rfl, hK⟩
end
end Go.Proofs.Ytciciaikajdenaa
/- N27: the chapter's rows hold (joined). -/
set_option linter.unusedSimpArgs false
set_option linter.unusedVariables false
namespace Go.Proofs.Ytciciaikajdenaa
open Go.RowKit

theorem kok0 : v0.kok := by simp [v0, Val.kok, Val.kokL]
theorem kokArr : vArr.kok := by simp [vArr, Val.kok, Val.kokL]
theorem kokBad : vBad.kok := by simp [vBad, Val.kok, Val.kokL]
theorem low0 : v0.low := by
  have e : (ByteArray.mk #[]).size = 0 := rfl
  simp [v0, Val.low, Val.lowL, e]
theorem known_c {σ : List AObj} : Runs Try.prog 42 [] σ (fun r σ' => r = .d (.v (.bool true)) ∧ KeptP (fun _ => True) σ σ') := by
  refine known_w (K0 := .new 9) (K1 := H1) (K2 := H2) (K3 := H3) (K4 := H4) (fun σ => new_r (by decide) (by decide)) ?_ ?_ ?_ ?_ ?_ ?_ ?_ ?_ ?_ ?_ (same_c51 v0 low0)
  · intro σ loc hH
    have h := build_c45 (σ := σ) (AHeap.new_ok 9 (by decide) (by decide) 0) (by decide) hH (v := v0) kok0 (by decide)
    rw [f1] at h
    exact h
  · intro σ loc hH
    have h := size_c53 (σ := σ) (f := 8) (w := cellWord 1 0) ok1 live1.cells hH (walks_fine H1 (by decide) _ _)
    rw [f2] at h
    exact h
  · intro σ loc hH
    have h := value_c (σ := σ) (f := 8) (w := cellWord 1 0) ok1 live1.cells hH (walk_fine H1 (by decide) _ _)
    rw [f3] at h
    exact h
  · intro σ loc hH
    have hv := (hold0 (H := H1) (i := 1) (j := 0) rfl rfl).value ok1 (by decide) mass0
    simp only [Int.natCast_one] at hv
    have h := copy_c46 (σ := σ) (f := 8) (w := cellWord 1 0) ok1 (by decide) live1.cells hH (walk_fine H1 (by decide) _ _) (fun v come fl hw => by
      rw [hv] at hw
      injection hw with hw
      subst hw
      exact ⟨kok0, by decide⟩)
    rw [f4] at h
    exact h
  · intro σ loc hH
    have h := value_c (σ := σ) (f := 8) (w := cellWord 3 0) ok2 live2.cells hH (walk_fine H2 (by decide) _ _)
    rw [f5] at h
    exact h
  · intro σ loc hH
    have h := drop_c50 (σ := σ) (f := 8) (w := cellWord 1 0) ok2 live2.cells hH (walks_fine H2 (by decide) _ _) (fun _ => n6)
    rw [f6] at h
    exact h
  · intro σ loc hH
    have h := build_c45 (σ := σ) ok3 (by decide) hH (v := vArr) kokArr (by decide)
    rw [f7] at h
    exact h
  · intro σ loc hH
    have h := size_c53 (σ := σ) (f := 8) (w := cellWord 1 0) ok4 live4.cells hH (walks_fine H4 (by decide) _ _)
    rw [f8] at h
    exact h
  · intro σ loc hH
    have h := copy_c46 (σ := σ) (f := 8) (w := ⟨7, 0, ⟨#[]⟩, 0⟩) ok4 (by decide) live4.cells hH (walk_fine H4 (by decide) _ _) (fun v come fl hw => by
      have a : (⟨7, 0, ⟨#[]⟩, 0⟩ : AWord).ok = true := by simp [AWord.ok, empty_list]
      simp only [walkF, a] at hw
      simp at hw
      obtain ⟨rfl, _⟩ := hw
      exact ⟨by simp [Val.kok, Val.kokL], by simp [massV, massVL]⟩)
    rw [f9] at h
    exact h
  · intro σ loc hH
    have h := build_c45 (σ := σ) ok4 (by decide) hH (v := vBad) kokBad (by decide)
    rw [f10] at h
    exact h
end Go.Proofs.Ytciciaikajdenaa
/- N28: rooms, in plain data. No program in sight. -/
set_option linter.unusedSimpArgs false
set_option linter.unusedVariables false
namespace Go.Proofs.Ytciciaikajdenaa
open Go.RowKit

theorem make_room {H : AHeap} {v : Val} (h : mayV v = true) (hr : H.room - H.live < cellsV v) : buildM H v = ((.zero, 7), H) := by
  have e : makeE H v = 7 := by unfold makeE; rw [if_neg (by rw [h]; simp), if_pos hr]
  unfold buildM
  rw [e, if_neg (by decide)]
end Go.Proofs.Ytciciaikajdenaa
/- NA: what the walks of layer 24's laws need: contracts' shapes, slots kept. -/
set_option linter.unusedSimpArgs false
set_option linter.unusedVariables false
namespace Go.Proofs.Ytciciaikajdenaa
open Go.RowKit

def Mut2 (f : FuncId) (more : List AV) (H : AHeap) (y : DV) (H' : AHeap) : Prop := ∀ (σ : List AObj) (loc : Nat), σ[loc]? = some (ho H) → Runs Try.prog f (.ptr loc 0 0 :: more) σ (fun r σ' => r = .d y ∧ σ'[loc]? = some (ho H') ∧ KeptP (· ≠ loc) σ σ')
def See2 (f : FuncId) (more : List AV) (H : AHeap) (y : DV) : Prop := ∀ (σ : List AObj) (loc : Nat), σ[loc]? = some (ho H) → Runs Try.prog f (.ptr loc 0 0 :: more) σ (fun r σ' => r = .d y ∧ KeptP (fun _ => True) σ σ')
def Look (f : FuncId) (H : AHeap) (y : DV) : Prop := ∀ (σ : List AObj) (loc : Nat), σ[loc]? = some (ho H) → Runs Try.prog f [.ptr loc 0 0] σ (fun r σ' => r = .d y ∧ σ' = σ)
def Known : Prop := ∀ σ, Runs Try.prog 42 [] σ (fun r σ' => r = .d (.v (.bool true)) ∧ KeptP (fun _ => True) σ σ')
def NewH (n : Int) (H : AHeap) : Prop := ∀ σ, Runs Try.prog 15 [.d (.v (.int .i64 n))] σ (fun v σ' => ∃ loc, v = .tup [.ptr loc 0 0, .d (.v (.int .i64 0))] ∧ Fresh σ loc (ho H) σ')
section
variable {P : Program} {nt : Nat} {Q : Exit → Fr → List AObj → Prop} {fr : Fr} {σ : List AObj} {ops : Array Oper} {dr : Bool} {dos ends : List Nat} {l : Trr} {i d : Nat} {ty : TypeId} {pos : String} {aft : Array Edge} {gd : Option (Nat × Bool)}
end
end Go.Proofs.Ytciciaikajdenaa
/- NB: cells in order; CellOrder's and CellLast's plain laws. No program in sight. -/
set_option linter.unusedSimpArgs false
set_option linter.unusedVariables false
namespace Go.Proofs.Ytciciaikajdenaa
open Go.RowKit

theorem wordsFrom_count (l : List ASlot) : ∀ i, (wordsFrom i l).length = countLive l := by
  induction l with
  | nil => intro i; rfl
  | cons a l ih =>
    intro i
    have := ih (i + 1)
    cases h : a.lives <;> simp [wordsFrom, countLive, h] at this ⊢ <;> omega
theorem cells_len {H : AHeap} {B : Int} (h : H.Ok B) : (H.cells.length : Int) = H.live := by
  rw [h.live_eq]; unfold AHeap.cells; rw [wordsFrom_count]
theorem wordsFrom_mem (l : List ASlot) : ∀ i x, x ∈ wordsFrom i l → ∃ m s, l[m]? = some s ∧ s.lives = true ∧ x = cellWord ((i + m : Nat) : Int) s.gen := by
  induction l with
  | nil => intro i x h; simp [wordsFrom] at h
  | cons a l ih =>
    intro i x h
    simp only [wordsFrom, List.mem_append] at h
    rcases h with h | h
    · by_cases ha : a.lives = true
      · simp [ha] at h
        exact ⟨0, a, rfl, ha, by simpa using h⟩
      · simp [ha] at h
    · obtain ⟨m, s, h1, h2, h3⟩ := ih _ _ h
      exact ⟨m + 1, s, by simpa using h1, h2, by rw [h3]; congr 1; omega⟩
theorem cells_get {H : AHeap} {B : Int} (h : H.Ok B) {x : AWord} (hx : x ∈ H.cells) : (H.get x).2 = 0 := by
  obtain ⟨m, s, h1, h2, rfl⟩ := wordsFrom_mem _ _ _ hx
  have hm := (List.getElem?_eq_some_iff.1 h1).1
  have hs : H.slot m = s := by
    have := AHeap.slot_get hm
    rw [h1] at this; injection this with this; exact this.symm
  have := get_cell h hm (by rw [hs]; exact h2)
  rw [hs] at this
  rw [Nat.zero_add, this]
/-! How many slots there are. -/
theorem live_len (H : AHeap) : H.live ≤ H.slots.length := by unfold AHeap.live; omega
/-! CellOrder. -/
/-! CellLast. -/
theorem AHeap.Ok.up {H : AHeap} {B C : Int} (h : H.Ok B) (hb : B ≤ C) : H.Ok C :=
  { h with gens := fun s hs => ⟨(h.gens s hs).1, by have := (h.gens s hs).2; omega⟩ }
end Go.Proofs.Ytciciaikajdenaa
/- NC: CellApart's plain law. No program in sight. -/
set_option linter.unusedSimpArgs false
set_option linter.unusedVariables false
namespace Go.Proofs.Ytciciaikajdenaa
open Go.RowKit

theorem HoldsL.two {H : AHeap} {v u : Val} {w y : AWord} {S T : List Nat} (h : Holds H v w S) (k : Holds H u y T) : HoldsL H [v, u] [w, y] (S ++ T) := ⟨w, [y], S, T, rfl, rfl, h, k.one⟩
theorem Holds.cell {H : AHeap} {v : Val} {w : AWord} {S : List Nat} (h : Holds H v w S) (hw : w.k = 5) : w.n ∈ intsN S ∧ (∃ i : Nat, w = cellWord i (H.slot i).gen ∧ i < H.slots.length ∧ (H.slot i).lives = true ∧ i ∈ S) := by
  obtain ⟨k, n, s, l⟩ := v
  rcases h with ⟨h1, h2, rfl, h4, rfl, rfl⟩ | ⟨h0, i, SS, h1, h2, h3, h4, h5, h6, rfl, h8⟩
  · exact absurd hw h2
  · subst h1
    exact ⟨by simp [intsN, cellWord], i, rfl, h2, h3, by simp⟩
theorem Holds.kind {H : AHeap} {B : Int} (ok : H.Ok B) {v : Val} {w : AWord} {S : List Nat} (h : Holds H v w S) : (w.k = 5 ↔ 0 < cellsV v) ∧ w.ok = true := by
  obtain ⟨k, n, s, l⟩ := v
  rcases h with ⟨h1, h2, rfl, h4, rfl, rfl⟩ | ⟨h0, i, SS, rfl, h2, h3, h4, h5, h6, rfl, h8⟩
  · refine ⟨?_, h4⟩
    simp only [cellsV, cellsL]
    rw [if_neg (by omega)]
    exact ⟨fun h => absurd h h2, fun h => by omega⟩
  · refine ⟨?_, word_cell ok h2⟩
    simp only [cellsV]
    rw [if_pos (by omega)]
    exact ⟨fun _ => by omega, fun _ => rfl⟩
end Go.Proofs.Ytciciaikajdenaa
/- NJ: the heap's and the cells' contracts in the shapes of the laws' walks. -/
set_option linter.unusedSimpArgs false
set_option linter.unusedVariables false
namespace Go.Proofs.Ytciciaikajdenaa
open Go.RowKit

section
variable {H : AHeap} {B : Int} {f : Nat} {w : AWord} {v : Val}
theorem new_m {r : Int} (h0 : 0 ≤ r) (h1 : r ≤ 100000) : NewH r (.new r) := fun σ => new_r h0 h1
theorem build_m (hv : v.low) (hs : massV v ≤ 1000000000) (ok : H.Ok B) (hB : 0 ≤ B) : Mut2 45 [.d (.agg (valD v))] H (.tup [.agg (wordD (buildM H v).1.1), .v (.int .i64 (buildM H v).1.2)]) (buildM H v).2 := fun σ loc hH => build_c45 ok hB hH (Val.low_kok _ hv) hs
theorem copy_m (ok : H.Ok B) (hB : 0 ≤ B) (hl : LiveOk H) (hf : H.slots.length + 1 ≤ f) (hkm : ∀ v come fl, walkF H f w [] false = .ok v come fl → v.kok ∧ massV v ≤ 1000000000) : Mut2 46 [.d (.agg (wordD w))] H (.tup [.agg (wordD (copyM H f w).1.1), .v (.int .i64 (copyM H f w).1.2)]) (copyM H f w).2 := fun σ loc hH => copy_c46 ok hB hl.cells hH (walk_fine H hf _ _) hkm
theorem value_m (ok : H.Ok B) (hl : LiveOk H) (hf : H.slots.length + 1 ≤ f) (w : AWord) : See2 49 [.d (.agg (wordD w))] H (.tup [.agg (valD (valueM H f w).1), .v (.int .i64 (valueM H f w).2)]) := fun σ loc hH => value_c ok hl.cells hH (walk_fine H hf _ _)
theorem reach_m (ok : H.Ok B) (hl : LiveOk H) (hf : H.slots.length + 1 ≤ f) (ws : List AWord) (hw : ws.length ≤ 1000000000) : See2 48 [.d (.lst 4 (wordsR ws))] H (.tup [.v (.int .i64 (reachM H f ws).1), .v (.int .i64 (reachM H f ws).2)]) := fun σ loc hH => reach_c ok hl.cells hH hw (walks_fine H hf _ _)
theorem size_m (ok : H.Ok B) (hl : LiveOk H) (hf : H.slots.length + 1 ≤ f) (w : AWord) : See2 53 [.d (.agg (wordD w))] H (.tup [.v (.int .i64 (reachM H f [w]).1), .v (.int .i64 (reachM H f [w]).2)]) := fun σ loc hH => size_c53 ok hl.cells hH (walks_fine H hf _ _)
theorem alloc_m (ok : H.Ok B) (c : ACell) (hm : c.ws.length ≤ maxLen) : Mut2 20 [.d (.agg (cellD c))] H (.tup [.agg (wordD (H.alloc c).1.1), .v (.int .i64 (H.alloc c).1.2)]) (H.alloc c).2 := fun σ loc hH => (alloc_r hH ok c hm).mono fun v σ' ⟨h1, hc⟩ => ⟨h1, hc.at', fun i ob hp e => hc.keep hp e⟩
theorem live_m (H : AHeap) : Look 33 H (.v (.int .i64 H.live)) := fun σ loc hH => live_r hH
theorem most_m (H : AHeap) : Look 36 H (.v (.int .i64 H.most)) := fun σ loc hH => most_r hH
theorem cells_m (ok : H.Ok B) : Look 38 H (.lst 4 (wordsR H.cells)) := fun σ loc hH => cells_r hH ok
end
theorem build_not {v : Val} (h : mayV v = false) (H : AHeap) : buildM H v = ((.zero, 2), H) := by
  have e : makeE H v = 2 := by unfold makeE; rw [h]; rfl
  unfold buildM
  rw [e, if_neg (by decide)]
end Go.Proofs.Ytciciaikajdenaa
