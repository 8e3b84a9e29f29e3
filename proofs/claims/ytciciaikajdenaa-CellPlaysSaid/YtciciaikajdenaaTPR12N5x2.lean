/- N5: package cell's may, must, cell. -/
import Derived.Test.YtciciaikajdenaaTPR12N2x2
import Derived.Test.YtciciaikajdenaaTPR12Af
set_option linter.unusedSimpArgs false
set_option linter.unusedVariables false
namespace Go.Proofs.Ytciciaikajdenaa
open Go.RowKit

def badV (e : Int) : Value := .iface 180 (.agg #[.int .i64 e])
set_option maxRecDepth 100000 in
theorem must_c (e : Int) (he : e ≠ 0) (w : World) : Calls Try.prog 95 #[.int .i64 e] w fun en w' => en = .panicked (chainOf (badV e)) ∧ w' = w := by
  have h := decide_eq_false he
  have hb := beq_eq_false_iff_ne.2 he
  unfold badV
  go_enter Try.func95, Try.ntmps95
  go_wp2
  all_goals first | exact ⟨rfl, rfl, rfl⟩ | exact ⟨rfl, rfl⟩ | skip
theorem must_bad (e : Int) (he : e ≠ 0) {σ : List AObj} : RunsE Try.prog 95 [.d (.v (.int .i64 e))] σ (fun pv σ' => pv = badV e ∧ σ' = σ) :=
  RunsE.of_calls (args := [.v (.int .i64 e)]) (vals := [.int .i64 e]) (by kernel_rfl) (plain_cons plain_nil) (must_c e he) ⟨rfl, rfl⟩
/-- A panic, behind which all that was is as it was. -/
def PanK (e : Int) (σ0 : List AObj) : Value → List AObj → Prop := fun pv σ => pv = badV e ∧ KeptP (fun _ => True) σ0 σ
set_option maxRecDepth 100000 in
theorem must_ok {σ : List AObj} : Runs Try.prog 95 [.d (.v (.int .i64 0))] σ (fun v σ' => v = .tup [] ∧ σ' = σ) := by
  refine enter 7 Try.func95 rfl (by kernel_rfl) rfl rfl rfl ?_
  repeat' (first | refine s_op rfl ?_ | (apply s_move; (iterate 4 (exact rfl))) | (apply s_neq_f; (iterate 5 (exact rfl)); omega) | refine al_nil ?_ | refine q_then_n ?_ | refine aw_seq ?_ | refine aw_reg ?_ | refine aw_false rfl ?_ | refine aw_skip ?_)
  all_goals exact q_end rfl ⟨rfl, rfl⟩
theorem may_one (w : AWord) : (⟨3, 0, [w]⟩ : ACell).ok = w.ok := by
  unfold ACell.ok ACell.headOk
  simp
set_option maxRecDepth 100000 in
theorem may119_c (w : AWord) : RunsP Try.prog 119 [.agg (wordD w)] (fun v => v = .v (.bool w.ok)) := by
  have hm : RunsP Try.prog 18 [.agg [.v (.int .u8 3), .v (.int .i64 0), .lst 4 [wordD w]]] (fun v => v = .v (.bool w.ok)) := by
    have := may_r ⟨3, 0, [w]⟩ (by simp [maxLen])
    rw [may_one] at this
    exact this
  refine enterP 7 Try.func119 rfl (by kernel_rfl) rfl rfl rfl ?_
  repeat' (first | refine s_op rfl ?_ | (apply s_ld_f tab_ok; (iterate 6 (exact rfl))) | (apply s_assign; (iterate 4 (exact rfl))) | (apply s_build tabZ_ok; (iterate 5 (exact rfl))) | (apply s_boxZ; (iterate 5 (exact rfl)); first | exact rfl | exact allD_mapd _) | (apply s_lit tab_ok tabZ_ok; (iterate 10 (exact rfl))) | (apply s_call; (iterate 6 (exact rfl)); first | (exact hm; rintro _ rfl)) | refine al_nil ?_ | refine q_then_n ?_ | refine aw_seq ?_ | refine aw_reg ?_ | refine aw_ret ?_)
  all_goals exact q_ret rfl ⟨_, rfl, rfl⟩

/-- The cells that were come to, as the walker's map holds them. -/
def seenL (come : List Int) : List (Int × AV) := come.map fun n => (n, .d (.agg []))
def seenO (come : List Int) : AObj := .map (entsV (Value.int .i64) (seenL come))
/-- A walker. -/
def walkO (locH locM : Nat) (fl : Bool) : AObj := .row 145 [.ptr locH 0 0, .mp locM, .d (.v (.bool fl))]
theorem getA_seen (n : Int) : ∀ come : List Int, getA n (seenL come) = if n ∈ come then some (.d (.agg [])) else none
  | [] => by simp [seenL, getA]
  | a :: come => by
    have h := getA_seen n come
    have e : getA n (seenL (a :: come)) = if n = a then some (AV.d (.agg [])) else getA n (seenL come) := by simp only [seenL, List.map_cons, getA]
    rw [e, h]
    by_cases h1 : n = a <;> by_cases h2 : n ∈ come <;> simp [h1, h2]
theorem putA_seen {n : Int} : ∀ {come : List Int}, n ∉ come → putA n (.d (.agg [])) (seenL come) = seenL (come ++ [n])
  | [], _ => by simp [seenL, putA]
  | a :: come, h => by
    have h1 : n ≠ a := fun e => h (by simp [e])
    have h2 : n ∉ come := fun e => h (by simp [e])
    have e : putA n (.d (.agg [])) (seenL (a :: come)) = (a, .d (.agg [])) :: putA n (.d (.agg [])) (seenL come) := by simp only [seenL, List.map_cons, putA, if_neg h1]
    rw [e, putA_seen h2]
    simp [seenL]
theorem seenK : KeyLaw Try.prog 2 (Value.int .i64) := int_law (by kernel_rfl)
theorem seenP : Try.prog.underlying 143 = some (.map 2 185) := by kernel_rfl
theorem unit_ok : ∃ u, (∀ w : World, (zeroValue 185).run Try.prog w = .ok u w) ∧ ∀ x : Ctx, ARep x (.d (.agg [])) u := ⟨.agg #[], fun w => by kernel_rfl, fun x => ⟨[], rfl, rfl, by simp⟩⟩
section
variable {σ : List AObj} {locW locM locH : Nat} {H : AHeap} {B : Int} {come : List Int} {fl : Bool}
set_option maxRecDepth 100000 in
set_option maxHeartbeats 8000000 in
theorem cell_ok (ok : H.Ok B) (hW : σ[locW]? = some (walkO locH locM fl)) (hM : σ[locM]? = some (seenO come)) (hH : σ[locH]? = some (ho H)) (w : AWord) (he : (H.get w).2 = 0) (hn : w.n ∉ come) :
    Runs Try.prog 120 [.ptr locW 0 0, .d (.agg (wordD w))] σ (fun v σ' => v = .d (.agg (cellD (H.get w).1)) ∧ σ'[locM]? = some (seenO (come ++ [w.n])) ∧ KeptP (· ≠ locM) σ σ') := by
  have hg := fun σ (h : σ[locH]? = some (ho H)) => get_r h ok w
  have hK := KeptP.refl (· ≠ locM) σ
  have oM : OutP (· ≠ locM) σ locM := fun _ h => absurd rfl h
  have nWM : locW ≠ locM := fun h => by rw [h, hM] at hW; cases hW
  have nHM : locH ≠ locM := fun h => by rw [h, hM] at hH; cases hH
  rw [he] at hg
  generalize (H.get w).1 = c at hg ⊢
  clear he ok
  have hseen := getA_seen w.n come
  rw [if_neg hn] at hseen
  have hput := putA_seen hn
  obtain ⟨wk, wn, ws, wg⟩ := w
  unfold walkO at hW
  unfold seenO at hM ⊢
  refine enterB 40 tab_ok Try.func120 rfl (by kernel_rfl) rfl rfl rfl ?_
  repeat' (first | refine s_op rfl ?_ | (apply s_move; (iterate 4 (exact rfl))) | (apply s_fa_p tab_ok; (iterate 5 (exact rfl))) | (apply s_fa_f tab_ok; (iterate 6 (exact rfl))) | (apply s_ld_f tab_ok; (iterate 6 (exact rfl))) | (apply s_assign; (iterate 4 (exact rfl))) | (apply s_ext; (iterate 5 (exact rfl))) | (apply s_nilc; (iterate 5 (exact rfl))) | (apply s_build tabZ_ok; (iterate 5 (exact rfl))) | (apply s_boxZ; (iterate 5 (exact rfl)); first | exact rfl | exact allD_mapd _) | (apply s_callS; (iterate 6 (exact rfl)); exact hg _ hH; rintro _ σ ⟨rfl, rfl⟩) | (apply s_allocF tabZ_ok (d := 4); (iterate 6 (exact rfl)); intro locX σ hc; have hX := hc.at'; have nWX := hc.ne hW; replace hW := hc.keep hW; have nMX := hc.ne hM; replace hM := hc.keep hM; have nHX := hc.ne hH; replace hH := hc.keep hH; have oX := hK.out hc; replace hK := hK.fresh hc; clear hc) | (apply s_allocF tabZ_ok (d := 5); (iterate 6 (exact rfl)); intro locY σ hc; have hY := hc.at'; have nWY := hc.ne hW; replace hW := hc.keep hW; have nMY := hc.ne hM; replace hM := hc.keep hM; have nHY := hc.ne hH; replace hH := hc.keep hH; have nXY := hc.ne hX; replace hX := hc.keep hX; have oY := hK.out hc; replace hK := hK.fresh hc; clear hc) | (apply s_allocF tabZ_ok (d := 7); (iterate 6 (exact rfl)); intro locZ σ hc; have hZ := hc.at'; have nWZ := hc.ne hW; replace hW := hc.keep hW; have nMZ := hc.ne hM; replace hM := hc.keep hM; have nHZ := hc.ne hH; replace hH := hc.keep hH; have nXZ := hc.ne hX; replace hX := hc.keep hX; have nYZ := hc.ne hY; replace hY := hc.keep hY; have oZ := hK.out hc; replace hK := hK.fresh hc; clear hc) | (apply s_storeF tab_ok; (iterate 7 (exact rfl)); exact hX; (iterate 2 (exact rfl)); intro σ hc; replace hX := hc.at'; replace hW := hc.keep (by first | assumption | (apply Ne.symm; assumption) | omega) hW; replace hM := hc.keep (by first | assumption | (apply Ne.symm; assumption) | omega) hM; replace hH := hc.keep (by first | assumption | (apply Ne.symm; assumption) | omega) hH; replace hY := hc.keep (by first | assumption | (apply Ne.symm; assumption) | omega) hY; replace hZ := hc.keep (by first | assumption | (apply Ne.symm; assumption) | omega) hZ; replace hK := hK.chg oX hc; clear hc) | (apply s_storeF tab_ok; (iterate 7 (exact rfl)); exact hY; (iterate 2 (exact rfl)); intro σ hc; replace hY := hc.at'; replace hW := hc.keep (by first | assumption | (apply Ne.symm; assumption) | omega) hW; replace hM := hc.keep (by first | assumption | (apply Ne.symm; assumption) | omega) hM; replace hH := hc.keep (by first | assumption | (apply Ne.symm; assumption) | omega) hH; replace hX := hc.keep (by first | assumption | (apply Ne.symm; assumption) | omega) hX; replace hK := hK.chg oY hc; clear hc) | (apply s_storeF tab_ok; (iterate 7 (exact rfl)); exact hZ; (iterate 2 (exact rfl)); intro σ hc; replace hZ := hc.at'; replace hW := hc.keep (by first | assumption | (apply Ne.symm; assumption) | omega) hW; replace hM := hc.keep (by first | assumption | (apply Ne.symm; assumption) | omega) hM; replace hH := hc.keep (by first | assumption | (apply Ne.symm; assumption) | omega) hH; replace hX := hc.keep (by first | assumption | (apply Ne.symm; assumption) | omega) hX; replace hY := hc.keep (by first | assumption | (apply Ne.symm; assumption) | omega) hY; replace hK := hK.chg oZ hc; clear hc) | (apply s_ldF tab_ok; (iterate 5 (exact rfl)); exact hW; exact rfl) | (apply s_ldF tab_ok; (iterate 5 (exact rfl)); exact hY; exact rfl) | (apply s_lookup2 seenK seenP unit_ok wn (seenL come) (.d (.agg [])) false; (iterate 4 (exact rfl)); exact hM; exact rfl; (rw [hseen]; rfl); (rw [hseen]; rfl)) | (apply s_mapUpdateF seenK seenP wn (seenL come) (seenL (come ++ [wn])); (iterate 4 (exact rfl)); exact hM; exact rfl; exact hput; intro σ hc; replace hM := hc.at'; replace hW := hc.keep (by first | assumption | (apply Ne.symm; assumption) | omega) hW; replace hH := hc.keep (by first | assumption | (apply Ne.symm; assumption) | omega) hH; replace hX := hc.keep (by first | assumption | (apply Ne.symm; assumption) | omega) hX; replace hY := hc.keep (by first | assumption | (apply Ne.symm; assumption) | omega) hY; replace hZ := hc.keep (by first | assumption | (apply Ne.symm; assumption) | omega) hZ; replace hK := hK.chg oM hc; clear hc) | (apply s_callS; (iterate 6 (exact rfl)); first | (exact must_ok; rintro _ σ ⟨rfl, rfl⟩)) | refine al_nil ?_ | refine q_then_n ?_ | refine aw_seq ?_ | refine aw_reg ?_ | refine aw_false rfl ?_ | refine aw_skip ?_ | refine aw_ret ?_ | refine al_fork ?_ ?_ | refine aw_draws (id := 1) (trO [0, 1, 2, 3, 4] (.fork 5 (trO [6, 7, 8, 9, 10, 11] .nil) 9 (trO [5, 6, 7, 8, 10, 11] .nil))) [5, 9, 10] [5, 10] mixed_ok (by kernel_rfl) ?_ | refine aw_draws (id := 3) (trO [0, 1, 2, 3, 4, 5, 6, 7, 8, 9, 10, 11, 12] .nil) [10, 11] [11] mixed_ok (by kernel_rfl) ?_ | refine aw_draws (id := 6) (trO [0, 1, 2, 3, 4, 5, 6, 7] .nil) [7] [7] mixed_ok (by kernel_rfl) ?_)
  all_goals exact q_retB (resB_1 rfl (resV_c (t := 34) rfl rfl hX rfl)) ⟨rfl, hM, hK⟩
set_option maxRecDepth 100000 in
set_option maxHeartbeats 8000000 in
theorem cell_again (ok : H.Ok B) (hW : σ[locW]? = some (walkO locH locM fl)) (hM : σ[locM]? = some (seenO come)) (hH : σ[locH]? = some (ho H)) (w : AWord) (he : (H.get w).2 = 0) (hn : w.n ∈ come) :
    RunsE Try.prog 120 [.ptr locW 0 0, .d (.agg (wordD w))] σ (PanK 6 σ) := by
  have hg := fun σ (h : σ[locH]? = some (ho H)) => get_r h ok w
  have hK := KeptP.refl (fun _ => True) σ
  rw [he] at hg
  generalize (H.get w).1 = c at hg
  clear he ok
  have hseen := getA_seen w.n come
  rw [if_pos hn] at hseen
  obtain ⟨wk, wn, ws, wg⟩ := w
  unfold walkO at hW
  unfold seenO at hM
  refine enterE 40 Try.func120 rfl (by kernel_rfl) rfl rfl rfl ?_
  repeat' (first | refine s_op rfl ?_ | (apply s_move; (iterate 4 (exact rfl))) | (apply s_fa_p tab_ok; (iterate 5 (exact rfl))) | (apply s_fa_f tab_ok; (iterate 6 (exact rfl))) | (apply s_ld_f tab_ok; (iterate 6 (exact rfl))) | (apply s_assign; (iterate 4 (exact rfl))) | (apply s_ext; (iterate 5 (exact rfl))) | (apply s_nilc; (iterate 5 (exact rfl))) | (apply s_boxZ; (iterate 5 (exact rfl)); first | exact rfl | exact allD_mapd _) | (apply s_callS; (iterate 6 (exact rfl)); exact hg _ hH; rintro _ σ ⟨rfl, rfl⟩) | (apply s_allocF tabZ_ok (d := 4); (iterate 6 (exact rfl)); intro locX σ hc; have hX := hc.at'; have nWX := hc.ne hW; replace hW := hc.keep hW; have nMX := hc.ne hM; replace hM := hc.keep hM; have nHX := hc.ne hH; replace hH := hc.keep hH; have oX := hK.out hc; replace hK := hK.fresh hc; clear hc) | (apply s_allocF tabZ_ok (d := 5); (iterate 6 (exact rfl)); intro locY σ hc; have hY := hc.at'; have nWY := hc.ne hW; replace hW := hc.keep hW; have nMY := hc.ne hM; replace hM := hc.keep hM; have nHY := hc.ne hH; replace hH := hc.keep hH; have nXY := hc.ne hX; replace hX := hc.keep hX; have oY := hK.out hc; replace hK := hK.fresh hc; clear hc) | (apply s_allocF tabZ_ok (d := 7); (iterate 6 (exact rfl)); intro locZ σ hc; have hZ := hc.at'; have nWZ := hc.ne hW; replace hW := hc.keep hW; have nMZ := hc.ne hM; replace hM := hc.keep hM; have nHZ := hc.ne hH; replace hH := hc.keep hH; have nXZ := hc.ne hX; replace hX := hc.keep hX; have nYZ := hc.ne hY; replace hY := hc.keep hY; have oZ := hK.out hc; replace hK := hK.fresh hc; clear hc) | (apply s_storeF tab_ok; (iterate 7 (exact rfl)); exact hY; (iterate 2 (exact rfl)); intro σ hc; replace hY := hc.at'; replace hW := hc.keep (by first | assumption | (apply Ne.symm; assumption) | omega) hW; replace hM := hc.keep (by first | assumption | (apply Ne.symm; assumption) | omega) hM; replace hH := hc.keep (by first | assumption | (apply Ne.symm; assumption) | omega) hH; replace hX := hc.keep (by first | assumption | (apply Ne.symm; assumption) | omega) hX; replace hK := hK.chg oY hc; clear hc) | (apply s_storeF tab_ok; (iterate 7 (exact rfl)); exact hZ; (iterate 2 (exact rfl)); intro σ hc; replace hZ := hc.at'; replace hW := hc.keep (by first | assumption | (apply Ne.symm; assumption) | omega) hW; replace hM := hc.keep (by first | assumption | (apply Ne.symm; assumption) | omega) hM; replace hH := hc.keep (by first | assumption | (apply Ne.symm; assumption) | omega) hH; replace hX := hc.keep (by first | assumption | (apply Ne.symm; assumption) | omega) hX; replace hY := hc.keep (by first | assumption | (apply Ne.symm; assumption) | omega) hY; replace hK := hK.chg oZ hc; clear hc) | (apply s_ldF tab_ok; (iterate 5 (exact rfl)); exact hW; exact rfl) | (apply s_lookup2 seenK seenP unit_ok wn (seenL come) (.d (.agg [])) true; (iterate 4 (exact rfl)); exact hM; exact rfl; (rw [hseen]; rfl); (rw [hseen]; rfl)) | (apply s_callE; (iterate 4 (exact rfl)); exact must_bad 6 (by decide); rintro _ σ ⟨rfl, rfl⟩; (repeat (first | refine q_then_p ?_ | refine q_blk_p ?_)); exact pan_q ⟨rfl, hK⟩) | (apply s_callS; (iterate 6 (exact rfl)); first | (exact must_ok; rintro _ σ ⟨rfl, rfl⟩)) | refine al_nil ?_ | refine q_then_n ?_ | refine aw_seq ?_ | refine aw_reg ?_ | refine aw_true rfl ?_ | refine al_fork ?_ ?_ | refine aw_draws (id := 1) (trO [0, 1, 2, 3, 4] (.fork 5 (trO [6, 7, 8, 9, 10, 11] .nil) 9 (trO [5, 6, 7, 8, 10, 11] .nil))) [5, 9, 10] [5, 10] mixed_ok (by kernel_rfl) ?_ | refine aw_draws (id := 3) (trO [0, 1, 2, 3, 4, 5, 6, 7, 8, 9, 10, 11, 12] .nil) [10, 11] [11] mixed_ok (by kernel_rfl) ?_)
set_option maxRecDepth 100000 in
set_option maxHeartbeats 8000000 in
theorem cell_bad (ok : H.Ok B) (hW : σ[locW]? = some (walkO locH locM fl)) (hM : σ[locM]? = some (seenO come)) (hH : σ[locH]? = some (ho H)) (w : AWord) (he : (H.get w).2 ≠ 0) :
    RunsE Try.prog 120 [.ptr locW 0 0, .d (.agg (wordD w))] σ (PanK (H.get w).2 σ) := by
  have hg := fun σ (h : σ[locH]? = some (ho H)) => get_r h ok w
  have hK := KeptP.refl (fun _ => True) σ
  generalize (H.get w).1 = c at hg
  generalize (H.get w).2 = e at hg he ⊢
  clear ok
  obtain ⟨wk, wn, ws, wg⟩ := w
  unfold walkO at hW
  unfold seenO at hM
  refine enterE 40 Try.func120 rfl (by kernel_rfl) rfl rfl rfl ?_
  repeat' (first | refine s_op rfl ?_ | (apply s_move; (iterate 4 (exact rfl))) | (apply s_fa_p tab_ok; (iterate 5 (exact rfl))) | (apply s_ld_f tab_ok; (iterate 6 (exact rfl))) | (apply s_assign; (iterate 4 (exact rfl))) | (apply s_ext; (iterate 5 (exact rfl))) | (apply s_nilc; (iterate 5 (exact rfl))) | (apply s_boxZ; (iterate 5 (exact rfl)); first | exact rfl | exact allD_mapd _) | (apply s_callS; (iterate 6 (exact rfl)); exact hg _ hH; rintro _ σ ⟨rfl, rfl⟩) | (apply s_allocF tabZ_ok (d := 4); (iterate 6 (exact rfl)); intro locX σ hc; have hX := hc.at'; have nWX := hc.ne hW; replace hW := hc.keep hW; have nMX := hc.ne hM; replace hM := hc.keep hM; have nHX := hc.ne hH; replace hH := hc.keep hH; have oX := hK.out hc; replace hK := hK.fresh hc; clear hc) | (apply s_allocF tabZ_ok (d := 5); (iterate 6 (exact rfl)); intro locY σ hc; have hY := hc.at'; have nWY := hc.ne hW; replace hW := hc.keep hW; have nMY := hc.ne hM; replace hM := hc.keep hM; have nHY := hc.ne hH; replace hH := hc.keep hH; have nXY := hc.ne hX; replace hX := hc.keep hX; have oY := hK.out hc; replace hK := hK.fresh hc; clear hc) | (apply s_storeF tab_ok; (iterate 7 (exact rfl)); exact hY; (iterate 2 (exact rfl)); intro σ hc; replace hY := hc.at'; replace hW := hc.keep (by first | assumption | (apply Ne.symm; assumption) | omega) hW; replace hM := hc.keep (by first | assumption | (apply Ne.symm; assumption) | omega) hM; replace hH := hc.keep (by first | assumption | (apply Ne.symm; assumption) | omega) hH; replace hX := hc.keep (by first | assumption | (apply Ne.symm; assumption) | omega) hX; replace hK := hK.chg oY hc; clear hc) | (apply s_ldF tab_ok; (iterate 5 (exact rfl)); exact hW; exact rfl) | (apply s_callE; (iterate 4 (exact rfl)); exact must_bad _ he; rintro _ σ ⟨rfl, rfl⟩; (repeat (first | refine q_then_p ?_ | refine q_blk_p ?_)); exact pan_q ⟨rfl, hK⟩) | refine al_nil ?_ | refine q_then_n ?_ | refine aw_seq ?_ | refine aw_reg ?_ | refine al_fork ?_ ?_ | refine aw_draws (id := 1) (trO [0, 1, 2, 3, 4] (.fork 5 (trO [6, 7, 8, 9, 10, 11] .nil) 9 (trO [5, 6, 7, 8, 10, 11] .nil))) [5, 9, 10] [5, 10] mixed_ok (by kernel_rfl) ?_)
end
end Go.Proofs.Ytciciaikajdenaa
/- N3: the document's Size, Cells, Same, May of values. -/
set_option linter.unusedSimpArgs false
set_option linter.unusedVariables false
namespace Go.Proofs.Ytciciaikajdenaa
open Go.RowKit

section
variable {P : Program} {T : Tab} {nt : Nat} {Q : Exit → Fr → List AObj → Prop} {fr : Fr} {σ : List AObj} {ops : Array Oper} {dr : Bool} {dos ends : List Nat} {l : Trr} {i d : Nat} {o : Oper}
variable {dst : Option Tmp} {op : Op} {ty : TypeId} {pos : String} {aft : Array Edge} {gd : Option (Nat × Bool)}
theorem rd_quo {t t' : TypeId} {a b : Operand} {k : IntKind} {m n : Int} (ho : o.op = .binOp .quo t a b t') (ha : aget fr a = .d (.v (.int k m))) (hb : aget fr b = .d (.v (.int k n))) (hn : n ≠ 0) : RdOp P o fr σ (.d (.v (.int k (k.wrap (m.tdiv n))))) := by
  intro x c nt A w s
  have h1 := s.arg a
  have h2 := s.arg b
  rw [ha] at h1
  rw [hb] at h2
  obtain ⟨e1, _⟩ := h1
  obtain ⟨e2, _⟩ := h2
  refine ⟨_, ⟨rfl, rfl⟩, fun w' _ => ?_⟩
  unfold execOp
  simp [ho, e1, e2, eqGuard, binOp, Op.intDiv, hn]
theorem s_quoV (r : Int) {t t' : TypeId} {a b : Operand} {m n : Int} (hp : dr = dr) (hg : guardB ops fr gd = some true) (ht : Nat.blt d nt = true) (ha : aget fr a = .d (.v (.int .i64 m))) (hb : aget fr b = .d (.v (.int .i64 n))) (hn : n ≠ 0) (hv : IntKind.wrap .i64 (m.tdiv n) = r) (h : AL P nt ops dr dos ends l Q ((d, .d (.v (.int .i64 r))) :: fr) σ) : ALo P nt ops dr dos ends i ⟨some d, .binOp .quo t a b t', ty, pos, aft, gd⟩ l Q fr σ := by
  subst hv
  exact ⟨fun ho => s_read ho hp hg ht (rd_quo rfl ha hb hn) h⟩
end
/-- What Size says, of one that is at this depth. -/
def SizeOk (m : Nat) (d z : Int) : Prop := (d = 201 → z = 9001) ∧ (d ≤ 200 → 1 ≤ z ∧ z ≤ (201 - d) * 3000000000000 + 3000000000000 ∧ (z ≤ 9000 → (m : Int) ≤ z))
theorem Val.low_get {k n : Int} {s : ByteArray} {l : List Val} (h : Val.low (.mk k n s l)) {j : Nat} {p : Val} (e : l[j]? = some p) : p.low := Val.lowL_mem h.2.2.2 p (List.mem_of_getElem? e)
set_option maxRecDepth 100000 in
set_option maxHeartbeats 8000000 in
theorem size_c : ∀ p : Val, p.low → ∀ d : Int, 0 ≤ d → d ≤ 201 → RunsP Try.prog 43 [.agg (valD p), .v (.int .i64 d)] (fun v => ∃ z : Int, v = .v (.int .i64 z) ∧ SizeOk (massV p) d z) := by
  refine rec_val fun vk vn vs l ih hp d h0 h1 => ?_
  have hs := hp.2.1
  have hl := hp.2.2.1
  have e1 := valR_len l
  by_cases hd : d = 201
  · subst hd
    refine enterP 36 Try.func43 rfl (by kernel_rfl) rfl rfl rfl ?_
    repeat' (first | refine s_op rfl ?_ | (apply s_move; (iterate 4 (exact rfl))) | (apply s_assign; (iterate 4 (exact rfl))) | (apply s_boxZ; (iterate 5 (exact rfl)); first | exact rfl | exact allD_mapd _) | (apply s_gtr_t; (iterate 5 (exact rfl)); omega) | refine al_nil ?_ | refine q_then_n ?_ | refine q_then_r ?_ | refine aw_seq ?_ | refine aw_reg ?_ | refine aw_true rfl ?_ | refine aw_ret ?_)
    exact q_ret rfl ⟨_, rfl, _, rfl, fun _ => rfl, fun h => by omega⟩
  · have hq : ∃ q : Int, 0 ≤ q ∧ q ≤ 2199023255553 ∧ IntKind.wrap .i64 ((vs.size : Int).tdiv 64) = q := by
      have h2 : (vs.size : Int).tdiv 64 = (vs.size : Int) / 64 := Int.tdiv_eq_ediv_of_nonneg (by omega)
      refine ⟨(vs.size : Int) / 64, by omega, by omega, ?_⟩
      rw [h2, wrap64 (by omega) (by omega)]
    obtain ⟨q, hq0, hq1, hq2⟩ := hq
    refine enterP 36 Try.func43 rfl (by kernel_rfl) rfl rfl rfl ?_
    repeat' (first | refine s_op rfl ?_ | (apply s_move; (iterate 4 (exact rfl))) | (apply s_fa_f tab_ok; (iterate 6 (exact rfl))) | (apply s_ld_f tab_ok; (iterate 6 (exact rfl))) | (apply s_assign; (iterate 4 (exact rfl))) | (apply s_lens str_ok; (iterate 4 (exact rfl))) | (apply s_boxZ; (iterate 5 (exact rfl)); first | exact rfl | exact allD_mapd _) | (apply s_gtr_f; (iterate 5 (exact rfl)); omega) | (apply s_quoV q; (iterate 5 (exact rfl)); decide; exact hq2) | (apply s_addV (1 + q); (iterate 5 (exact rfl)); omega) | refine al_nil ?_ | refine q_then_n ?_ | refine aw_block ?_ | refine aw_seq ?_ | refine aw_reg ?_ | refine aw_false rfl ?_ | refine aw_skip ?_)
    refine w_loop [1, 2, 5, 6] (fun n' vs' σ => ∃ (k : Nat) (n : Int), vs' = [.d (.v (.int .i64 d)), .d (.fptr (valD (.mk vk vn vs l))), .d (.v (.int .i64 n)), .d (.v (.int .i64 (k : Int)))] ∧ σ = [] ∧ k ≤ l.length ∧ 1 ≤ n ∧ n ≤ (201 - d) * 3000000000000 + 3000000000000 ∧ (n ≤ 9000 → (1 + massVL (l.take k) : Int) ≤ n) ∧ n' = l.length - k) rfl ⟨0, 1 + q, rfl, rfl, by omega, by omega, by omega, fun _ => by simp [massVL]; omega, rfl⟩ ?_
    rintro n' vs' σ ⟨k, n, rfl, rfl, hk, hn0, hn1, hn2, rfl⟩ fr hfr
    cases hfr
    have fin : k = l.length ∨ 9000 < n → SizeOk (massV (.mk vk vn vs l)) d n := by
      intro h
      refine ⟨fun e => absurd e hd, fun _ => ⟨hn0, hn1, fun h9 => ?_⟩⟩
      simp only [massV]
      rcases h with rfl | h
      · have := hn2 h9; rw [List.take_length] at this; omega
      · omega
    by_cases hlt : k < l.length
    · by_cases hn : n ≤ 9000
      · obtain ⟨q, hq⟩ := getS hlt
        have hqs := Val.low_get hp hq
        have hi := ih q (List.mem_of_getElem? hq) hqs (d + 1) (by omega) (by omega)
        have ht := massVL_take hq
        repeat' (first | refine s_op rfl ?_ | (apply s_move; (iterate 4 (exact rfl))) | (apply s_fa_f tab_ok; (iterate 6 (exact rfl))) | (apply s_ld_f tab_ok; (iterate 6 (exact rfl))) | (apply s_ld_w tab_ok; (iterate 5 (exact rfl)); (first | exact valD_len _)) | (apply s_assign; (iterate 4 (exact rfl))) | (apply s_pick_t; (iterate 5 (exact rfl))) | (apply s_len tab_ok; (iterate 5 (exact rfl))) | (apply s_idx tab_ok; (iterate 7 (exact rfl)); (first | exact valR_get (by assumption) | exact wordsR_get (by assumption) | assumption)) | (apply s_lss_t; (iterate 5 (exact rfl)); omega) | (apply s_leq_t; (iterate 5 (exact rfl)); omega) | (apply s_call; (iterate 6 (exact rfl)); exact hi; rintro _ ⟨z, rfl, hz⟩; have hz0 : 1 ≤ z ∧ z ≤ (200 - d) * 3000000000000 + 3000000000000 ∧ (z ≤ 9000 → (massV q : Int) ≤ z) := by (rcases (show d + 1 = 201 ∨ d + 1 ≤ 200 by omega) with h | h; (have := hz.1 h; omega); (have := hz.2 h; omega))) | (apply s_addV ((k + 1 : Nat) : Int); (iterate 5 (exact rfl)); omega) | (apply s_addV (d + 1); (iterate 5 (exact rfl)); omega) | (apply s_addV (n + z); (iterate 5 (exact rfl)); omega) | refine al_nil ?_ | refine q_then_n ?_ | refine q_blk_n ?_ | refine aw_block ?_ | refine aw_seq ?_ | refine aw_reg ?_ | refine aw_true rfl ?_ | refine aw_skip ?_)
        exact ⟨_, _, rfl, by omega, k + 1, _, rfl, rfl, by omega, by omega, by omega, by omega, rfl⟩
      · repeat' (first | refine s_op rfl ?_ | (apply s_move; (iterate 4 (exact rfl))) | (apply s_fa_f tab_ok; (iterate 6 (exact rfl))) | (apply s_ld_f tab_ok; (iterate 6 (exact rfl))) | (apply s_assign; (iterate 4 (exact rfl))) | (apply s_pick_t; (iterate 5 (exact rfl))) | (apply s_len tab_ok; (iterate 5 (exact rfl))) | (apply s_lss_t; (iterate 5 (exact rfl)); omega) | (apply s_leq_f; (iterate 5 (exact rfl)); omega) | refine al_nil ?_ | refine q_then_n ?_ | refine q_blk_e ?_ | refine q_then_e ?_ | refine aw_exit ?_ | refine aw_seq ?_ | refine aw_reg ?_ | refine aw_false rfl ?_ | refine aw_ret ?_)
        exact q_ret rfl ⟨_, rfl, _, rfl, fin (.inr (by omega))⟩
    · repeat' (first | refine s_op rfl ?_ | (apply s_skipV; (iterate 2 (exact rfl))) | (apply s_move; (iterate 4 (exact rfl))) | (apply s_fa_f tab_ok; (iterate 6 (exact rfl))) | (apply s_ld_f tab_ok; (iterate 6 (exact rfl))) | (apply s_assign; (iterate 4 (exact rfl))) | (apply s_pick_f; (iterate 5 (exact rfl))) | (apply s_len tab_ok; (iterate 5 (exact rfl))) | (apply s_lss_f; (iterate 5 (exact rfl)); omega) | refine al_nil ?_ | refine q_then_n ?_ | refine q_blk_e ?_ | refine q_then_e ?_ | refine aw_exit ?_ | refine aw_seq ?_ | refine aw_reg ?_ | refine aw_false rfl ?_ | refine aw_ret ?_)
      exact q_ret rfl ⟨_, rfl, _, rfl, fin (.inl (by omega))⟩
set_option maxRecDepth 100000 in
set_option maxHeartbeats 8000000 in
theorem same_c51 : ∀ p : Val, p.low → RunsP Try.prog 51 [.agg (valD p), .agg (valD p)] (fun v => v = .v (.bool true)) := by
  refine rec_val fun vk vn vs l ih hp => ?_
  have e1 := valR_len l
  have hl := hp.2.2.1
  refine enterP 53 Try.func51 rfl (by kernel_rfl) rfl rfl rfl ?_
  repeat' (first | refine s_op rfl ?_ | (apply s_move; (iterate 4 (exact rfl))) | (apply s_fa_f tab_ok; (iterate 6 (exact rfl))) | (apply s_ld_f tab_ok; (iterate 6 (exact rfl))) | (apply s_assign; (iterate 4 (exact rfl))) | (apply s_pick_f; (iterate 5 (exact rfl))) | (apply s_len tab_ok; (iterate 5 (exact rfl))) | (apply s_boxZ; (iterate 5 (exact rfl)); first | exact rfl | exact allD_mapd _) | (apply s_neq_f; (iterate 5 (exact rfl)); omega) | (apply s_strne_f; (iterate 5 (exact rfl)); exact rfl) | refine al_nil ?_ | refine q_then_n ?_ | refine aw_block ?_ | refine aw_seq ?_ | refine aw_reg ?_ | refine aw_false rfl ?_ | refine aw_skip ?_)
  refine w_loop [2, 3, 5] (fun n' vs' σ => ∃ k : Nat, vs' = [.d (.fptr (valD (.mk vk vn vs l))), .d (.fptr (valD (.mk vk vn vs l))), .d (.v (.int .i64 (k : Int)))] ∧ σ = [] ∧ k ≤ l.length ∧ n' = l.length - k) rfl ⟨0, rfl, rfl, by omega, rfl⟩ ?_
  rintro n' vs' σ ⟨k, rfl, rfl, hk2, rfl⟩ fr hfr
  cases hfr
  by_cases hlt : k < l.length
  · obtain ⟨q, hq⟩ := getS hlt
    have hi := ih q (List.mem_of_getElem? hq) (Val.low_get hp hq)
    repeat' (first | refine s_op rfl ?_ | (apply s_move; (iterate 4 (exact rfl))) | (apply s_fa_f tab_ok; (iterate 6 (exact rfl))) | (apply s_ld_f tab_ok; (iterate 6 (exact rfl))) | (apply s_ld_w tab_ok; (iterate 5 (exact rfl)); (first | exact valD_len _)) | (apply s_assign; (iterate 4 (exact rfl))) | (apply s_len tab_ok; (iterate 5 (exact rfl))) | (apply s_idx tab_ok; (iterate 7 (exact rfl)); (first | exact valR_get (by assumption) | exact wordsR_get (by assumption) | assumption)) | (apply s_not_t; (iterate 4 (exact rfl))) | (apply s_lss_t; (iterate 5 (exact rfl)); omega) | (apply s_add64; (iterate 5 (exact rfl)); omega) | (apply s_call; (iterate 6 (exact rfl)); first | (exact hi; rintro _ rfl)) | refine al_nil ?_ | refine q_then_n ?_ | refine q_blk_n ?_ | refine aw_block ?_ | refine aw_seq ?_ | refine aw_reg ?_ | refine aw_true rfl ?_ | refine aw_false rfl ?_ | refine aw_skip ?_ | refine aw_draws (id := 6) (trO [0, 1, 2, 3, 4, 5, 6, 7, 8, 9, 10, 11] .nil) [10] [] mixed_ok (by kernel_rfl) ?_)
    all_goals exact ⟨_, _, rfl, by omega, k + 1, rfl, rfl, by omega, rfl⟩
  · repeat' (first | refine s_op rfl ?_ | (apply s_move; (iterate 4 (exact rfl))) | (apply s_fa_f tab_ok; (iterate 6 (exact rfl))) | (apply s_ld_f tab_ok; (iterate 6 (exact rfl))) | (apply s_assign; (iterate 4 (exact rfl))) | (apply s_len tab_ok; (iterate 5 (exact rfl))) | (apply s_lss_f; (iterate 5 (exact rfl)); omega) | refine al_nil ?_ | refine q_then_n ?_ | refine q_blk_e ?_ | refine q_then_e ?_ | refine aw_exit ?_ | refine aw_seq ?_ | refine aw_reg ?_ | refine aw_false rfl ?_ | refine aw_ret ?_)
    exact q_ret rfl ⟨_, rfl, rfl⟩
end Go.Proofs.Ytciciaikajdenaa
