/- N10: package cell's build, make. -/
import Derived.Test.YtciciaikajdenaaTPR12N9x2
import Derived.Test.YtciciaikajdenaaTPR12N7
set_option linter.unusedSimpArgs false
set_option linter.unusedVariables false
namespace Go.Proofs.Ytciciaikajdenaa
open Go.RowKit

noncomputable def bld4 : Option Code := match Try.f118.body with
  | some c => findW 4 c
  | none => none
theorem OutP.any {q : Nat → Prop} {σ : List AObj} {loc : Nat} (h : OutP (fun _ => True) σ loc) : OutP q σ loc := fun o _ e => h o trivial e
section
variable {σ0 σ : List AObj} {locW locM locH locX locC : Nat} {H : AHeap} {B : Int} {fl : Bool} {k n : Int} {s : ByteArray} {l : List Val}
def BuiltP (H : AHeap) (locH : Nat) (v : Val) (σ : List AObj) : AV → List AObj → Prop := fun r σ' => r = .d (.agg (wordD (buildF H v).1)) ∧ σ'[locH]? = some (ho (buildF H v).2) ∧ KeptP (· ≠ locH) σ σ'
set_option maxRecDepth 100000 in
set_option maxHeartbeats 8000000 in
theorem build_leaf (hk : k < 11) (hH : σ[locH]? = some (ho H)) : Runs Try.prog 118 [.ptr locW 0 0, .d (.agg (valD (.mk k n s l)))] σ (BuiltP H locH (.mk k n s l) σ) := by
  have hK := KeptP.refl (· ≠ locH) σ
  have hb : buildF H (.mk k n s l) = (⟨k, n, s, 0⟩, H) := by simp only [buildF, if_pos hk]
  unfold BuiltP
  rw [hb]
  refine enterB 54 tab_ok Try.func118 rfl (by kernel_rfl) rfl rfl rfl ?_
  repeat' (first | refine s_op rfl ?_ | (apply s_fa_f tab_ok; (iterate 6 (exact rfl))) | (apply s_ld_f tab_ok; (iterate 6 (exact rfl))) | (apply s_build tabZ_ok; (iterate 5 (exact rfl))) | (apply s_boxZ; (iterate 5 (exact rfl)); first | exact rfl | exact allD_mapd _) | (apply s_lss_t; (iterate 5 (exact rfl)); omega) | (apply s_allocF tabZ_ok (d := 4); (iterate 6 (exact rfl)); intro locX σ hc; have hX := hc.at'; have nHX := hc.ne hH; replace hH := hc.keep hH; have oX := hK.out hc; replace hK := hK.fresh hc; clear hc) | (apply s_storeF tab_ok; (iterate 7 (exact rfl)); exact hX; (iterate 2 (exact rfl)); intro σ hc; replace hX := hc.at'; replace hH := hc.keep (by first | assumption | (apply Ne.symm; assumption) | omega) hH; replace hK := hK.chg oX hc; clear hc) | refine al_nil ?_ | refine q_then_n ?_ | refine q_then_r ?_ | refine aw_seq ?_ | refine aw_reg ?_ | refine aw_true rfl ?_ | refine aw_ret ?_)
  all_goals exact q_retB (resB_1 rfl (resV_c (t := 36) rfl rfl hX rfl)) ⟨rfl, hH, hK⟩
set_option maxRecDepth 100000 in
set_option maxHeartbeats 8000000 in
theorem build_kids (ok : H.Ok B) (hB : 0 ≤ B) (hk : ¬ k < 11) (hmay : mayV (.mk k n s l) = true) (hroom : (cellsV (.mk k n s l) : Int) ≤ H.room - H.live)
    (hcall : ∀ p ∈ l, ∀ (H : AHeap) (σ : List AObj), H.Ok B → (cellsV p : Int) ≤ H.room - H.live → σ[locW]? = some (walkO locH locM fl) → σ[locH]? = some (ho H) → Runs Try.prog 118 [.ptr locW 0 0, .d (.agg (valD p))] σ (BuiltP H locH p σ))
    (nXH : locX ≠ locH) (nCH : locC ≠ locH) (nWH : locW ≠ locH) (nXC : locX ≠ locC) (nWC : locW ≠ locC) (nWX : locW ≠ locX)
    (oX : OutP (· ≠ locH) σ0 locX) (oC : OutP (· ≠ locH) σ0 locC) (hW : σ[locW]? = some (walkO locH locM fl)) (hH : σ[locH]? = some (ho H)) (hX : σ[locX]? = some (.row 36 [.d (.v (.int .u8 0)), .d (.v (.int .i64 0)), .d (.v (.string ⟨#[]⟩)), .d (.v (.int .i64 0))]))
    (hC : σ[locC]? = some (.row 34 [.d (.v (.int .u8 (k - 10))), .d (.v (.int .i64 n)), .d .nil])) (hK : KeptP (· ≠ locH) σ0 σ) {X : Code} (hc : bld4 = some X) :
    AWk Try.prog 54 X (retQB tab Try.f118 (BuiltP H locH (.mk k n s l) σ0)) [(0, .ptr locW 0 0), (3, .d (.fptr (valD (.mk k n s l)))), (4, .ptr locX 0 0), (5, .ptr locC 0 0)] σ := by
  have e1 := valR_len l
  obtain ⟨h1, h2⟩ := may_split hmay
  have hl64 : l.length ≤ 64 := by
    have := h1
    rw [head_con hk] at this
    simp only [Bool.and_eq_true, decide_eq_true_eq] at this
    exact this.2.2.2
  have hcv : cellsV (.mk k n s l) = 1 + cellsL l := by simp only [cellsV, if_pos (show 10 < k by omega)]
  rw [hcv] at hroom
  have hall : ∀ p ∈ l, mayV p = true := fun p hp => by rw [mayL_all, List.all_eq_true] at h2; exact h2 p hp
  have htake : ∀ j, Built B H (buildsF H (l.take j)).2 (cellsL (l.take j)) := fun j => by
    have hsum : cellsL (l.take j) + cellsL (l.drop j) = cellsL l := by rw [← cellsL_append, List.take_append_drop]
    refine (builds_ok hB (l.take j) H ?_ ok (by omega)).1
    rw [mayL_all, List.all_eq_true]
    exact fun p hp => hall p (List.mem_of_mem_take hp)
  cases hc
  have key := fun {L : Nat} {c : List AV} {σ' : List AObj} => hK.adopt (t := 34) (L := L) (U := 36) (sz := 4) (c := c) (σ' := σ') oC
  repeat' (first | refine s_op rfl ?_ | (apply s_move; (iterate 4 (exact rfl))) | (apply s_fa_f tab_ok; (iterate 6 (exact rfl))) | (apply s_ld_f tab_ok; (iterate 6 (exact rfl))) | (apply s_len tab_ok; (iterate 5 (exact rfl))) | refine al_nil ?_ | refine q_then_n ?_ | refine aw_block ?_ | refine aw_seq ?_ | refine aw_reg ?_)
  refine w_adoptC locC 2 36 4 hC rfl ?_
  intro locL σ hc
  have hL := hc.arr
  have nWL := hc.fresh _ _ hW
  have nHL := hc.fresh _ _ hH
  have nXL := hc.fresh _ _ hX
  have nCL := hc.ne.symm
  replace hC := hc.row
  replace hW := hc.keep nWC hW
  replace hH := hc.keep nCH.symm hH
  replace hX := hc.keep nXC hX
  obtain ⟨hK, oL⟩ := key hc
  clear key hc
  refine w_loop [0, 4, 5, 27, 28, 29] (fun n' vs' σ => ∃ (j ver : Nat), vs' = [.ptr locW 0 0, .ptr locX 0 0, .ptr locC 0 0, .d (.lst 4 (valR l)), .d (.v (.int .i64 ((valR l).length : Int))), .d (.v (.int .i64 (j : Int)))] ∧ σ[locW]? = some (walkO locH locM fl) ∧ σ[locH]? = some (ho (buildsF H (l.take j)).2) ∧
    σ[locX]? = some (.row 36 [.d (.v (.int .u8 0)), .d (.v (.int .i64 0)), .d (.v (.string ⟨#[]⟩)), .d (.v (.int .i64 0))]) ∧ σ[locC]? = some (.row 34 [.d (.v (.int .u8 (k - 10))), .d (.v (.int .i64 n)), .own locL ver 4 0 j]) ∧ σ[locL]? = some (.arr 36 4 ver (wordsR (buildsF H (l.take j)).1)) ∧ KeptP (· ≠ locH) σ0 σ ∧ j ≤ l.length ∧ n' = l.length - j) rfl ⟨0, 0, rfl, hW, hH, hX, hC, hL, hK, by omega, rfl⟩ ?_
  clear hW hH hX hC hL hK
  rintro n' vs' σ ⟨j, ver, rfl, hW, hH, hX, hC, hL, hK, hj, rfl⟩ fr hfr
  cases hfr
  have e2 : (wordsR (buildsF H (l.take j)).1).length = j := by rw [wordsR_len, buildsF_len, List.length_take]; omega
  by_cases hlt : j < l.length
  · obtain ⟨p, hp⟩ := getS hlt
    have ht := buildsF_take hp H
    have hct := cellsL_take hp
    have hb := htake j
    have hsum : cellsL (l.take (j + 1)) + cellsL (l.drop (j + 1)) = cellsL l := by rw [← cellsL_append, List.take_append_drop]
    have hlv := hb.live
    have hrm := hb.room
    have hcl := fun σ h1 h2 => hcall p (List.mem_of_getElem? hp) (buildsF H (l.take j)).2 σ hb.ok (by omega) h1 h2
    unfold BuiltP at hcl
    generalize buildsF H (l.take j) = r at *
    have ewr : wordsR r.1 ++ [wordD (buildF r.2 p).1] = wordsR (r.1 ++ [(buildF r.2 p).1]) := by rw [wordsR_append]; rfl
    generalize buildF r.2 p = q at *
    obtain ⟨pk, pn, ps, pl⟩ := p
    clear hcall htake hb hlv hrm hct hsum ok hroom hall h1 h2 hmay
    repeat' (first | refine s_op rfl ?_ | (apply s_move; (iterate 4 (exact rfl))) | (apply s_fa_p tab_ok; (iterate 5 (exact rfl))) | (apply s_ld_f tab_ok; (iterate 6 (exact rfl))) | (apply s_idx tab_ok; (iterate 7 (exact rfl)); (first | exact valR_get (by assumption) | exact wordsR_get (by assumption) | assumption)) | (apply s_lit tab_ok tabZ_ok; (iterate 10 (exact rfl))) | (apply s_lss_t; (iterate 5 (exact rfl)); omega) | (apply s_add64; (iterate 5 (exact rfl)); omega) | (apply s_allocF tabZ_ok (d := 7); (iterate 6 (exact rfl)); intro locZ σ hc; have hZ := hc.at'; have nWZ := hc.ne hW; replace hW := hc.keep hW; have nHZ := hc.ne hH; replace hH := hc.keep hH; have nXZ := hc.ne hX; replace hX := hc.keep hX; have nCZ := hc.ne hC; replace hC := hc.keep hC; have nLZ := hc.ne hL; replace hL := hc.keep hL; have oZ := hK.out hc; replace hK := hK.fresh hc; clear hc) | (apply s_storeF tab_ok; (iterate 7 (exact rfl)); exact hZ; (iterate 2 (exact rfl)); intro σ hc; replace hZ := hc.at'; replace hW := hc.keep (by first | assumption | (apply Ne.symm; assumption) | omega) hW; replace hH := hc.keep (by first | assumption | (apply Ne.symm; assumption) | omega) hH; replace hX := hc.keep (by first | assumption | (apply Ne.symm; assumption) | omega) hX; replace hC := hc.keep (by first | assumption | (apply Ne.symm; assumption) | omega) hC; replace hL := hc.keep (by first | assumption | (apply Ne.symm; assumption) | omega) hL; replace hK := hK.chg oZ hc; clear hc) | (apply s_ldF tab_ok; (iterate 5 (exact rfl)); exact hZ; exact rfl) | (apply s_ldF tab_ok; (iterate 5 (exact rfl)); exact hC; exact rfl) | (apply s_callS; (iterate 6 (exact rfl)); exact hcl _ hW hH; rintro _ σ ⟨rfl, hH2, hk2⟩; replace hX := hk2 _ _ nXH hX; replace hC := hk2 _ _ nCH hC; replace hL := hk2 _ _ nHL.symm hL; replace hW := hk2 _ _ nWH hW; replace hH := hH2; replace hK := hK.trans hk2; clear hH2 hk2 hZ) | (apply s_appF tab_ok tabZ_ok (d := 39) (rows2 := [wordD q.1]) (rows3 := wordsR (r.1 ++ [q.1])) (m := j + 1); (iterate 10 (exact rfl)); exact hL; exact src_of (Tab.slIs tab_ok (t := 32) rfl) (rows_d rfl); exact ewr; (refine ⟨?_, ?_, ?_⟩ <;> first | omega | (simp only [List.length_cons, List.length_nil] <;> omega)); intro σ hc; replace hL := hc.at'; replace hW := hc.keep (by first | assumption | (apply Ne.symm; assumption) | omega) hW; replace hH := hc.keep (by first | assumption | (apply Ne.symm; assumption) | omega) hH; replace hX := hc.keep (by first | assumption | (apply Ne.symm; assumption) | omega) hX; replace hC := hc.keep (by first | assumption | (apply Ne.symm; assumption) | omega) hC; replace hK := hK.chg oL hc; clear hc) | (apply s_storeF tab_ok; (iterate 7 (exact rfl)); exact hC; (iterate 2 (exact rfl)); intro σ hc; replace hC := hc.at'; replace hW := hc.keep (by first | assumption | (apply Ne.symm; assumption) | omega) hW; replace hH := hc.keep (by first | assumption | (apply Ne.symm; assumption) | omega) hH; replace hX := hc.keep (by first | assumption | (apply Ne.symm; assumption) | omega) hX; replace hL := hc.keep (by first | assumption | (apply Ne.symm; assumption) | omega) hL; replace hK := hK.chg oC hc; clear hc) | refine al_nil ?_ | refine q_then_n ?_ | refine q_blk_n ?_ | refine aw_block ?_ | refine aw_seq ?_ | refine aw_reg ?_ | refine aw_true rfl ?_ | refine aw_skip ?_ | refine al_fork ?_ ?_ | refine aw_draws (id := 7) (trO [0, 2, 3] (.fork 1 (trO [4, 5, 6, 7, 8] .nil) 4 (.fork 1 (trO [5, 6, 7, 8] .nil) 5 (trO [1, 6, 7, 8] .nil)))) [1, 4, 5, 6, 8] [4, 6, 8] mixed_ok (by kernel_rfl) ?_)
    all_goals exact ⟨_, _, rfl, by omega, j + 1, _, rfl, hW, by rw [ht]; exact hH, hX, hC, by rw [ht]; exact hL, hK, by omega, rfl⟩
  · have hjl : j = l.length := by omega
    have hb := htake l.length
    rw [List.take_of_length_le (by omega)] at hH hL e2
    rw [List.take_of_length_le (Nat.le_refl _)] at hb
    have hlv := hb.live
    have hrm := hb.room
    have hws := (builds_ok hB l H h2 ok (by omega)).2
    have hcok : (⟨k - 10, n, (buildsF H l).1⟩ : ACell).ok = true := con_ok hk h1 (buildsF_len l H) hws
    have hag := AHeap.alloc_give (H := (buildsF H l).2) hcok (by omega)
    have hal := fun σ (h : σ[locH]? = some (ho (buildsF H l).2)) => alloc_r h hb.ok ⟨k - 10, n, (buildsF H l).1⟩ (by rw [show (⟨k - 10, n, (buildsF H l).1⟩ : ACell).ws = (buildsF H l).1 from rfl, buildsF_len]; unfold maxLen; omega)
    have hbf : buildF H (.mk k n s l) = (((buildsF H l).2.give ⟨k - 10, n, (buildsF H l).1⟩).1, ((buildsF H l).2.give ⟨k - 10, n, (buildsF H l).1⟩).2) := by
      simp only [buildF, if_neg hk]
      rw [hag]
    rw [hag] at hal
    unfold BuiltP
    rw [hbf]
    generalize (buildsF H l).2.give ⟨k - 10, n, (buildsF H l).1⟩ = g at *
    simp only at hal ⊢
    generalize buildsF H l = r at *
    clear hcall htake hb hlv hrm hws hcok hag hbf ok hroom hall h1 h2 hmay
    have oH : OutP (· ≠ locH) σ0 locH := fun _ h => absurd rfl h
    unfold walkO at hW
    repeat' (first | refine s_op rfl ?_ | (apply s_move; (iterate 4 (exact rfl))) | (apply s_fa_p tab_ok; (iterate 5 (exact rfl))) | (apply s_assign; (iterate 4 (exact rfl))) | (apply s_ext; (iterate 5 (exact rfl))) | (apply s_nilc; (iterate 5 (exact rfl))) | (apply s_lss_f; (iterate 5 (exact rfl)); omega) | (refine w_freezeC locC 2 hC rfl hL (by omega) ?_; intro σ hc; replace hK := hK.frz oC oL hc; replace hC := hc.row; replace hW := hc.keep' _ _ hW nWC nWL; replace hH := hc.keep' _ _ hH nCH.symm nHL; replace hX := hc.keep' _ _ hX nXC nXL; clear hc hL) | (apply s_allocF tabZ_ok (d := 8); (iterate 6 (exact rfl)); intro locY σ hc; have hY := hc.at'; have nWY := hc.ne hW; replace hW := hc.keep hW; have nHY := hc.ne hH; replace hH := hc.keep hH; have nXY := hc.ne hX; replace hX := hc.keep hX; have nCY := hc.ne hC; replace hC := hc.keep hC; have oY := hK.out hc; replace hK := hK.fresh hc; clear hc) | (apply s_storeF tab_ok; (iterate 7 (exact rfl)); exact hY; (iterate 2 (exact rfl)); intro σ hc; replace hY := hc.at'; replace hW := hc.keep (by first | assumption | (apply Ne.symm; assumption) | omega) hW; replace hH := hc.keep (by first | assumption | (apply Ne.symm; assumption) | omega) hH; replace hX := hc.keep (by first | assumption | (apply Ne.symm; assumption) | omega) hX; replace hC := hc.keep (by first | assumption | (apply Ne.symm; assumption) | omega) hC; replace hK := hK.chg oY hc; clear hc) | (apply s_storeF tab_ok; (iterate 7 (exact rfl)); exact hX; (iterate 2 (exact rfl)); intro σ hc; replace hX := hc.at'; replace hW := hc.keep (by first | assumption | (apply Ne.symm; assumption) | omega) hW; replace hH := hc.keep (by first | assumption | (apply Ne.symm; assumption) | omega) hH; replace hC := hc.keep (by first | assumption | (apply Ne.symm; assumption) | omega) hC; replace hK := hK.chg oX hc; clear hc) | (apply s_ldF tab_ok; (iterate 5 (exact rfl)); exact hW; exact rfl) | (apply s_ldF tab_ok; (iterate 5 (exact rfl)); exact hC; exact rfl) | (apply s_ldF tab_ok; (iterate 5 (exact rfl)); exact hY; exact rfl) | (apply s_callS; (iterate 6 (exact rfl)); exact hal _ hH; rintro _ σ ⟨rfl, hc⟩; replace hH := hc.at'; replace hW := hc.keep nWH hW; replace hX := hc.keep nXH hX; replace hC := hc.keep nCH hC; (try (replace hY := hc.keep nHY.symm hY)); replace hK := hK.chg oH hc; clear hc) | (apply s_callS; (iterate 6 (exact rfl)); first | (exact must_ok; rintro _ σ ⟨rfl, rfl⟩)) | refine al_nil ?_ | refine q_then_n ?_ | refine q_blk_e ?_ | refine q_then_e ?_ | refine aw_exit ?_ | refine aw_seq ?_ | refine aw_reg ?_ | refine aw_false rfl ?_ | refine aw_ret ?_ | refine al_fork ?_ ?_ | refine aw_draws (id := 9) (trO [0, 1, 2, 3, 4] (.fork 5 (trO [6, 7, 8, 9, 10, 11] .nil) 9 (trO [5, 6, 7, 8, 10, 11] .nil))) [5, 9, 10] [5, 10] mixed_ok (by kernel_rfl) ?_)
    all_goals exact q_retB (resB_1 rfl (resV_c (t := 36) rfl rfl hX rfl)) ⟨rfl, hH, hK⟩
set_option maxRecDepth 100000 in
set_option maxHeartbeats 8000000 in
theorem build_con (ok : H.Ok B) (hB : 0 ≤ B) (hk : ¬ k < 11) (hk2 : k ≤ 255) (hmay : mayV (.mk k n s l) = true) (hroom : (cellsV (.mk k n s l) : Int) ≤ H.room - H.live)
    (hcall : ∀ p ∈ l, ∀ (H : AHeap) (σ : List AObj), H.Ok B → (cellsV p : Int) ≤ H.room - H.live → σ[locW]? = some (walkO locH locM fl) → σ[locH]? = some (ho H) → Runs Try.prog 118 [.ptr locW 0 0, .d (.agg (valD p))] σ (BuiltP H locH p σ))
    (hW : σ[locW]? = some (walkO locH locM fl)) (hH : σ[locH]? = some (ho H)) : Runs Try.prog 118 [.ptr locW 0 0, .d (.agg (valD (.mk k n s l)))] σ (BuiltP H locH (.mk k n s l) σ) := by
  have hK := KeptP.refl (· ≠ locH) σ
  have nWH : locW ≠ locH := fun h => by rw [h, hH] at hW; cases hW
  have hsub : IntKind.wrap .u8 (k - 10) = k - 10 := wrapU8 (by omega) (by omega)
  refine enterB 54 tab_ok Try.func118 rfl (by kernel_rfl) rfl rfl rfl ?_
  repeat' (first | refine s_op rfl ?_ | (apply s_fa_f tab_ok; (iterate 6 (exact rfl))) | (apply s_ld_f tab_ok; (iterate 6 (exact rfl))) | (apply s_build tabZ_ok; (iterate 5 (exact rfl))) | (apply s_boxZ; (iterate 5 (exact rfl)); first | exact rfl | exact allD_mapd _) | (apply s_lss_f; (iterate 5 (exact rfl)); omega) | (apply s_allocF tabZ_ok (d := 4); (iterate 6 (exact rfl)); intro locX σ hc; have hX := hc.at'; have nWX := hc.ne hW; replace hW := hc.keep hW; have nHX := hc.ne hH; replace hH := hc.keep hH; have oX := hK.out hc; replace hK := hK.fresh hc; clear hc) | (apply s_allocF tabZ_ok (d := 5); (iterate 6 (exact rfl)); intro locC σ hc; have hC := hc.at'; have nWC := hc.ne hW; replace hW := hc.keep hW; have nHC := hc.ne hH; replace hH := hc.keep hH; have nXC := hc.ne hX; replace hX := hc.keep hX; have oC := hK.out hc; replace hK := hK.fresh hc; clear hc) | (apply s_storeF tab_ok; (iterate 7 (exact rfl)); exact hC; (iterate 2 (exact rfl)); intro σ hc; replace hC := hc.at'; replace hW := hc.keep (by first | assumption | (apply Ne.symm; assumption) | omega) hW; replace hH := hc.keep (by first | assumption | (apply Ne.symm; assumption) | omega) hH; replace hX := hc.keep (by first | assumption | (apply Ne.symm; assumption) | omega) hX; replace hK := hK.chg oC hc; clear hc) | (apply s_subK (k - 10); (iterate 5 (exact rfl)); exact hsub) | (refine w_keep [0, 3, 4, 5] rfl rfl ?_; exact build_kids ok hB hk hmay hroom hcall nHX.symm nHC.symm nWH nXC nWC nWX oX oC hW hH hX hC hK rfl) | refine al_nil ?_ | refine q_then_n ?_ | refine aw_seq ?_ | refine aw_reg ?_ | refine aw_false rfl ?_ | refine aw_skip ?_)
theorem build_c (hB : 0 ≤ B) : ∀ v : Val, v.kok → mayV v = true → ∀ (H : AHeap) (σ : List AObj), H.Ok B → (cellsV v : Int) ≤ H.room - H.live → σ[locW]? = some (walkO locH locM fl) → σ[locH]? = some (ho H) → Runs Try.prog 118 [.ptr locW 0 0, .d (.agg (valD v))] σ (BuiltP H locH v σ) := by
  refine rec_val fun k n s l ih hv hmay H σ ok hroom hW hH => ?_
  by_cases hk : k < 11
  · exact build_leaf hk hH
  · have h2 := (may_split hmay).2
    rw [mayL_all, List.all_eq_true] at h2
    exact build_con ok hB hk hv.2.1 hmay hroom (fun p hp H σ ok hr hW hH => ih p hp (Val.kokL_mem hv.2.2 p hp) (h2 p hp) H σ ok hr hW hH) hW hH
/-- What make answers. -/
def makeE (H : AHeap) (v : Val) : Int := if mayV v = false then 2 else if H.room - H.live < cellsV v then 7 else 0
def MadeP (H : AHeap) (locH : Nat) (v : Val) (σ : List AObj) : AV → List AObj → Prop := fun r σ' => makeE H v = 0 ∧ r = .d (.agg (wordD (buildF H v).1)) ∧ σ'[locH]? = some (ho (buildF H v).2) ∧ KeptP (· ≠ locH) σ σ'
def MadeE (H : AHeap) (v : Val) (σ : List AObj) : Value → List AObj → Prop := fun pv σ' => makeE H v ≠ 0 ∧ pv = badV (makeE H v) ∧ KeptP (fun _ => True) σ σ'
set_option maxRecDepth 100000 in
set_option maxHeartbeats 8000000 in
theorem make_x (ok : H.Ok B) (hB : 0 ≤ B) {v : Val} (hv : v.kok) (hm : massV v ≤ 1000000000) (hW : σ[locW]? = some (walkO locH locM fl)) (hH : σ[locH]? = some (ho H)) :
    RunsX Try.prog 92 [.ptr locW 0 0, .d (.agg (valD v))] σ (MadeP H locH v σ) (MadeE H v σ) := by
  have hK := KeptP.refl (fun _ => True) σ
  have nWH : locW ≠ locH := fun h => by rw [h, hH] at hW; cases hW
  have hcnt := cells_x v hv hm
  have hleft := fun σ (h : σ[locH]? = some (ho H)) => left_r h ok
  have hbld := build_c (locW := locW) (locH := locH) (locM := locM) (fl := fl) hB v hv
  unfold walkO at hW hbld
  obtain ⟨k, n, s, l⟩ := v
  cases hmv : mayV (.mk k n s l) with
  | false =>
    have hE : makeE H (.mk k n s l) = 2 := by unfold makeE; rw [if_pos hmv]
    have hce := fun σ => (hcnt σ).bad fun r σ' h => by have := h.1; rw [hmv] at this; cases this
    clear hcnt hbld
    refine enterX 17 tab_ok Try.func92 rfl (by kernel_rfl) rfl rfl rfl ?_
    repeat' (first | refine s_op rfl ?_ | (apply s_move; (iterate 4 (exact rfl))) | (apply s_fa_p tab_ok; (iterate 5 (exact rfl))) | (apply s_ld_f tab_ok; (iterate 6 (exact rfl))) | (apply s_nilc; (iterate 5 (exact rfl))) | (apply s_boxZ; (iterate 5 (exact rfl)); first | exact rfl | exact allD_mapd _) | (apply s_allocF tabZ_ok (d := 4); (iterate 6 (exact rfl)); intro locX σ hc; have hX := hc.at'; have nWX := hc.ne hW; replace hW := hc.keep hW; have nHX := hc.ne hH; replace hH := hc.keep hH; have oX := hK.out hc; replace hK := hK.fresh hc; clear hc) | (apply s_callE; (iterate 4 (exact rfl)); exact hce _; rintro _ σ ⟨_, rfl, hk2⟩; (repeat (first | refine q_then_p ?_ | refine q_blk_p ?_)); exact q_panX ⟨by rw [hE]; decide, by rw [hE], hK.trans hk2⟩) | (apply s_ldF tab_ok; (iterate 5 (exact rfl)); exact hW; exact rfl) | refine al_nil ?_ | refine q_then_n ?_ | refine aw_seq ?_ | refine aw_reg ?_ | refine al_fork ?_ ?_ | refine aw_draws (id := 1) (trO [0, 2, 3, 4] (.fork 1 (trO [5, 6, 7] .nil) 5 (trO [1, 6, 7] .nil))) [1, 5, 6] [1, 6] mixed_ok (by kernel_rfl) ?_)
  | true =>
    have hcr := fun σ => (hcnt σ).runs fun r σ' h => by have := h.1; rw [hmv] at this; cases this
    clear hcnt
    by_cases hr : H.room - H.live < cellsV (.mk k n s l)
    · have hE : makeE H (.mk k n s l) = 7 := by unfold makeE; rw [if_neg (by rw [hmv]; simp), if_pos hr]
      clear hbld
      refine enterX 17 tab_ok Try.func92 rfl (by kernel_rfl) rfl rfl rfl ?_
      repeat' (first | refine s_op rfl ?_ | (apply s_move; (iterate 4 (exact rfl))) | (apply s_fa_p tab_ok; (iterate 5 (exact rfl))) | (apply s_ld_f tab_ok; (iterate 6 (exact rfl))) | (apply s_nilc; (iterate 5 (exact rfl))) | (apply s_boxZ; (iterate 5 (exact rfl)); first | exact rfl | exact allD_mapd _) | (apply s_gtr_t; (iterate 5 (exact rfl)); omega) | (apply s_allocF tabZ_ok (d := 4); (iterate 6 (exact rfl)); intro locX σ hc; have hX := hc.at'; have nWX := hc.ne hW; replace hW := hc.keep hW; have nHX := hc.ne hH; replace hH := hc.keep hH; have oX := hK.out hc; replace hK := hK.fresh hc; clear hc) | (apply s_callS; (iterate 6 (exact rfl)); exact hcr _; rintro _ σ ⟨_, rfl, hk2⟩; replace hW := hk2 _ _ trivial hW; replace hH := hk2 _ _ trivial hH; replace hK := hK.trans hk2; clear hk2) | (apply s_callS; (iterate 6 (exact rfl)); exact hleft _ hH; rintro _ σ ⟨rfl, rfl⟩) | (apply s_ldF tab_ok; (iterate 5 (exact rfl)); exact hW; exact rfl) | (apply s_callE; (iterate 4 (exact rfl)); exact must_bad 7 (by decide); rintro _ σ ⟨rfl, rfl⟩; (repeat (first | refine q_then_p ?_ | refine q_blk_p ?_)); exact q_panX ⟨by rw [hE]; decide, by rw [hE], hK⟩) | refine al_nil ?_ | refine q_then_n ?_ | refine aw_seq ?_ | refine aw_reg ?_ | refine aw_true rfl ?_ | refine al_fork ?_ ?_ | refine aw_draws (id := 1) (trO [0, 2, 3, 4] (.fork 1 (trO [5, 6, 7] .nil) 5 (trO [1, 6, 7] .nil))) [1, 5, 6] [1, 6] mixed_ok (by kernel_rfl) ?_)
    · have hE : makeE H (.mk k n s l) = 0 := by unfold makeE; rw [if_neg (by rw [hmv]; simp), if_neg hr]
      have hb := fun σ h1 h2 => hbld hmv H σ ok (by omega) h1 h2
      unfold BuiltP at hb
      clear hbld
      refine enterX 17 tab_ok Try.func92 rfl (by kernel_rfl) rfl rfl rfl ?_
      unfold MadeP
      generalize buildF H (.mk k n s l) = g at *
      repeat' (first | refine s_op rfl ?_ | (apply s_move; (iterate 4 (exact rfl))) | (apply s_fa_p tab_ok; (iterate 5 (exact rfl))) | (apply s_ld_f tab_ok; (iterate 6 (exact rfl))) | (apply s_nilc; (iterate 5 (exact rfl))) | (apply s_boxZ; (iterate 5 (exact rfl)); first | exact rfl | exact allD_mapd _) | (apply s_gtr_f; (iterate 5 (exact rfl)); omega) | (apply s_allocF tabZ_ok (d := 4); (iterate 6 (exact rfl)); intro locX σ hc; have hX := hc.at'; have nWX := hc.ne hW; replace hW := hc.keep hW; have nHX := hc.ne hH; replace hH := hc.keep hH; have oX := hK.out hc; replace hK := hK.fresh hc; clear hc) | (apply s_storeF tab_ok; (iterate 7 (exact rfl)); exact hX; (iterate 2 (exact rfl)); have hK3 := hK2; clear hK2; intro σ hc; have hK2 := hK3.chg oX.any hc; replace hX := hc.at'; replace hH := hc.keep nHX hH; clear hc hK3) | (apply s_callS; (iterate 6 (exact rfl)); exact hcr _; rintro _ σ ⟨_, rfl, hk2⟩; replace hW := hk2 _ _ trivial hW; replace hH := hk2 _ _ trivial hH; replace hX := hk2 _ _ trivial hX; replace hK := hK.trans hk2; clear hk2) | (apply s_callS; (iterate 6 (exact rfl)); exact hleft _ hH; rintro _ σ ⟨rfl, rfl⟩) | (apply s_ldF tab_ok; (iterate 5 (exact rfl)); exact hW; exact rfl) | (apply s_callS; (iterate 6 (exact rfl)); exact hb _ hW hH; rintro _ σ ⟨rfl, hH2, hk2⟩; replace hX := hk2 _ _ nHX.symm hX; replace hH := hH2; have hK2 := hK.any.trans hk2; clear hH2 hk2) | refine al_nil ?_ | refine q_then_n ?_ | refine aw_seq ?_ | refine aw_reg ?_ | refine aw_false rfl ?_ | refine aw_skip ?_ | refine aw_ret ?_ | refine al_fork ?_ ?_ | refine aw_draws (id := 1) (trO [0, 2, 3, 4] (.fork 1 (trO [5, 6, 7] .nil) 5 (trO [1, 6, 7] .nil))) [1, 5, 6] [1, 6] mixed_ok (by kernel_rfl) ?_)
      all_goals exact q_retX (resB_1 rfl (resV_c (t := 36) rfl rfl hX rfl)) ⟨hE, rfl, hH, hK2⟩
end
end Go.Proofs.Ytciciaikajdenaa
