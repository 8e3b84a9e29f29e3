/- N20: package cell's Drop; without a heap; the law's number, at. -/
import Derived.Test.YtciciaikajdenaaQN19
set_option linter.unusedSimpArgs false
set_option linter.unusedVariables false
-- ALLUNDEF -- BOXZ
-- LEN: valD_len wordD_len
-- ROW: valR_get wordsR_get
namespace Go.Proofs.Ytciciaikajdenaa
open Go.RowKit

abbrev nilP : AV := .d (.v (.pointer none))
section
variable {σ : List AObj} {c : DV} {gd : Nat}
set_option maxRecDepth 100000 in
set_option maxHeartbeats 8000000 in
theorem grd_nil98 : Runs Try.prog 98 [nilP, .d (.clo (.func gd) [] [c])] σ (fun r σ' => r = .d (.tup [.agg [.v (.int .u8 0), .v (.int .i64 0), .v (.string ⟨#[]⟩), .nil], .v (.int .i64 1)]) ∧ KeptP (fun _ => True) σ σ') := by
  have hK := KeptP.refl (fun _ => True) σ
  refine enterB 16 tab_ok Try.func98 rfl (by kernel_rfl) rfl rfl rfl ?_
  repeat' (first
      | refine s_op rfl ?_ | (apply s_move; (iterate 4 (exact rfl))) | (apply s_ld_p tab_ok; (iterate 7 (exact rfl))) | (apply s_ld_f tab_ok; (iterate 6 (exact rfl))) | (apply s_ld_w tab_ok; (iterate 5 (exact rfl)); (first | exact valD_len _ | exact wordD_len _))
      | (apply s_mkf; (iterate 4 (exact rfl))) | (apply s_build tabZ_ok; (iterate 5 (exact rfl))) | (apply s_boxZ; (iterate 5 (exact rfl)); first | exact rfl | exact allD_mapd _) | (apply s_eql_t; (iterate 5 (exact rfl)); omega) | (apply s_eql_f; (iterate 5 (exact rfl)); omega)
      | (apply s_allocF tabZ_ok (d := 4); (iterate 6 (exact rfl)); intro locX σ hc; have hX := hc.at'; have oX := hK.out hc; replace hK := hK.fresh hc; clear hc)
      | (apply s_allocF tabZ_ok (d := 5); (iterate 6 (exact rfl)); intro locY σ hc; have hY := hc.at'; have nXY := hc.ne hX; replace hX := hc.keep hX; have oY := hK.out hc; replace hK := hK.fresh hc; clear hc)
      | (apply s_ptrNil2 ptr25; (iterate 4 (exact rfl)))
      | (apply s_ldF tab_ok; (iterate 5 (exact rfl)); exact hX; exact rfl)
      | (apply s_storeF tab_ok; (iterate 7 (exact rfl)); exact hX; (iterate 2 (exact rfl)); intro σ hc; replace hX := hc.at'; replace hY := hc.keep (by first | assumption | (apply Ne.symm; assumption) | omega) hY; replace hK := hK.chg oX hc; clear hc)
      | (apply s_storeF tab_ok; (iterate 7 (exact rfl)); exact hY; (iterate 2 (exact rfl)); intro σ hc; replace hY := hc.at'; replace hX := hc.keep (by first | assumption | (apply Ne.symm; assumption) | omega) hX; replace hK := hK.chg oY hc; clear hc)
      | refine al_nil ?_ | refine q_then_n ?_ | refine q_then_r ?_ | refine aw_seq ?_ | refine aw_reg ?_
      | refine aw_true rfl ?_ | refine aw_false rfl ?_ | refine aw_skip ?_ | refine aw_ret ?_)
  all_goals exact q_retB (resB_2 rfl (resV_c (t := 66) rfl rfl hX rfl) (resV_c (t := 26) rfl rfl hY rfl) rfl) ⟨rfl, hK⟩
set_option maxRecDepth 100000 in
set_option maxHeartbeats 8000000 in
theorem grd_nil90 : Runs Try.prog 90 [nilP, .d (.clo (.func gd) [] [c])] σ (fun r σ' => r = .d (.tup [.agg (wordD .zero), .v (.int .i64 1)]) ∧ KeptP (fun _ => True) σ σ') := by
  have hK := KeptP.refl (fun _ => True) σ
  refine enterB 16 tab_ok Try.func90 rfl (by kernel_rfl) rfl rfl rfl ?_
  repeat' (first
      | refine s_op rfl ?_ | (apply s_move; (iterate 4 (exact rfl))) | (apply s_ld_p tab_ok; (iterate 7 (exact rfl))) | (apply s_ld_f tab_ok; (iterate 6 (exact rfl))) | (apply s_ld_w tab_ok; (iterate 5 (exact rfl)); (first | exact valD_len _ | exact wordD_len _))
      | (apply s_mkf; (iterate 4 (exact rfl))) | (apply s_build tabZ_ok; (iterate 5 (exact rfl))) | (apply s_boxZ; (iterate 5 (exact rfl)); first | exact rfl | exact allD_mapd _) | (apply s_eql_t; (iterate 5 (exact rfl)); omega) | (apply s_eql_f; (iterate 5 (exact rfl)); omega)
      | (apply s_allocF tabZ_ok (d := 4); (iterate 6 (exact rfl)); intro locX σ hc; have hX := hc.at'; have oX := hK.out hc; replace hK := hK.fresh hc; clear hc)
      | (apply s_allocF tabZ_ok (d := 5); (iterate 6 (exact rfl)); intro locY σ hc; have hY := hc.at'; have nXY := hc.ne hX; replace hX := hc.keep hX; have oY := hK.out hc; replace hK := hK.fresh hc; clear hc)
      | (apply s_ptrNil2 ptr25; (iterate 4 (exact rfl)))
      | (apply s_ldF tab_ok; (iterate 5 (exact rfl)); exact hX; exact rfl)
      | (apply s_storeF tab_ok; (iterate 7 (exact rfl)); exact hX; (iterate 2 (exact rfl)); intro σ hc; replace hX := hc.at'; replace hY := hc.keep (by first | assumption | (apply Ne.symm; assumption) | omega) hY; replace hK := hK.chg oX hc; clear hc)
      | (apply s_storeF tab_ok; (iterate 7 (exact rfl)); exact hY; (iterate 2 (exact rfl)); intro σ hc; replace hY := hc.at'; replace hX := hc.keep (by first | assumption | (apply Ne.symm; assumption) | omega) hX; replace hK := hK.chg oY hc; clear hc)
      | refine al_nil ?_ | refine q_then_n ?_ | refine q_then_r ?_ | refine aw_seq ?_ | refine aw_reg ?_
      | refine aw_true rfl ?_ | refine aw_false rfl ?_ | refine aw_skip ?_ | refine aw_ret ?_)
  all_goals exact q_retB (resB_2 rfl (resV_c (t := 36) rfl rfl hX rfl) (resV_c (t := 26) rfl rfl hY rfl) rfl) ⟨rfl, hK⟩
set_option maxRecDepth 100000 in
set_option maxHeartbeats 8000000 in
theorem grd_nil96 : Runs Try.prog 96 [nilP, .d (.clo (.func gd) [] [c])] σ (fun r σ' => r = .d (.tup [.v (.int .i64 0), .v (.int .i64 1)]) ∧ KeptP (fun _ => True) σ σ') := by
  have hK := KeptP.refl (fun _ => True) σ
  refine enterB 16 tab_ok Try.func96 rfl (by kernel_rfl) rfl rfl rfl ?_
  repeat' (first
      | refine s_op rfl ?_ | (apply s_move; (iterate 4 (exact rfl))) | (apply s_ld_p tab_ok; (iterate 7 (exact rfl))) | (apply s_ld_f tab_ok; (iterate 6 (exact rfl))) | (apply s_ld_w tab_ok; (iterate 5 (exact rfl)); (first | exact valD_len _ | exact wordD_len _))
      | (apply s_mkf; (iterate 4 (exact rfl))) | (apply s_build tabZ_ok; (iterate 5 (exact rfl))) | (apply s_boxZ; (iterate 5 (exact rfl)); first | exact rfl | exact allD_mapd _) | (apply s_eql_t; (iterate 5 (exact rfl)); omega) | (apply s_eql_f; (iterate 5 (exact rfl)); omega)
      | (apply s_allocF tabZ_ok (d := 4); (iterate 6 (exact rfl)); intro locX σ hc; have hX := hc.at'; have oX := hK.out hc; replace hK := hK.fresh hc; clear hc)
      | (apply s_allocF tabZ_ok (d := 5); (iterate 6 (exact rfl)); intro locY σ hc; have hY := hc.at'; have nXY := hc.ne hX; replace hX := hc.keep hX; have oY := hK.out hc; replace hK := hK.fresh hc; clear hc)
      | (apply s_ptrNil2 ptr25; (iterate 4 (exact rfl)))
      | (apply s_ldF tab_ok; (iterate 5 (exact rfl)); exact hX; exact rfl)
      | (apply s_storeF tab_ok; (iterate 7 (exact rfl)); exact hX; (iterate 2 (exact rfl)); intro σ hc; replace hX := hc.at'; replace hY := hc.keep (by first | assumption | (apply Ne.symm; assumption) | omega) hY; replace hK := hK.chg oX hc; clear hc)
      | (apply s_storeF tab_ok; (iterate 7 (exact rfl)); exact hY; (iterate 2 (exact rfl)); intro σ hc; replace hY := hc.at'; replace hX := hc.keep (by first | assumption | (apply Ne.symm; assumption) | omega) hX; replace hK := hK.chg oY hc; clear hc)
      | refine al_nil ?_ | refine q_then_n ?_ | refine q_then_r ?_ | refine aw_seq ?_ | refine aw_reg ?_
      | refine aw_true rfl ?_ | refine aw_false rfl ?_ | refine aw_skip ?_ | refine aw_ret ?_)
  all_goals exact q_retB (resB_2 rfl (resV_c (t := 3) rfl rfl hX rfl) (resV_c (t := 26) rfl rfl hY rfl) rfl) ⟨rfl, hK⟩
set_option maxRecDepth 100000 in
set_option maxHeartbeats 8000000 in
theorem value_nil (w : AWord) : Runs Try.prog 49 [nilP, .d (.agg (wordD w))] σ (fun r σ' => r = .d (.tup [.agg [.v (.int .u8 0), .v (.int .i64 0), .v (.string ⟨#[]⟩), .nil], .v (.int .i64 1)]) ∧ KeptP (fun _ => True) σ σ') := by
  have hK := KeptP.refl (fun _ => True) σ
  have hg := fun (σ : List AObj) (c : DV) => grd_nil98 (σ := σ) (c := c) (gd := 99)
  obtain ⟨wk, wn, ws, wg⟩ := w
  refine enterB 11 tab_ok Try.func49 rfl (by kernel_rfl) rfl rfl rfl ?_
  repeat' (first
      | refine s_op rfl ?_ | (apply s_move; (iterate 4 (exact rfl))) | (apply s_assign; (iterate 4 (exact rfl))) | (apply s_ext; (iterate 5 (exact rfl))) | (apply s_mkf; (iterate 4 (exact rfl)))
      | (apply s_boxZ; (iterate 5 (exact rfl)); first | exact rfl | exact allD_mapd _)
      | (apply s_allocF tabZ_ok (d := 4); (iterate 6 (exact rfl)); intro locX σ hc; have hX := hc.at'; have oX := hK.out hc; replace hK := hK.fresh hc; clear hc)
      | (apply s_callS; (iterate 6 (exact rfl)); exact hg _ _; rintro _ σ2 ⟨rfl, hk2⟩; replace hX := hk2 _ _ trivial hX; replace hK := hK.trans hk2; clear hk2)
      | (apply s_storeF tab_ok; (iterate 7 (exact rfl)); exact hX; (iterate 2 (exact rfl)); intro σ hc; replace hX := hc.at'; replace hK := hK.chg oX hc; clear hc)
      | refine al_nil ?_ | refine q_then_n ?_ | refine q_then_r ?_ | refine aw_seq ?_ | refine aw_reg ?_
      | refine aw_ret ?_)
  all_goals exact q_retB (resB_2 rfl (resV_c (t := 66) rfl rfl hX rfl) (resV_t rfl) rfl) ⟨rfl, hK⟩
set_option maxRecDepth 100000 in
set_option maxHeartbeats 8000000 in
theorem build_nil (v : Val) : Runs Try.prog 45 [nilP, .d (.agg (valD v))] σ (fun r σ' => r = .d (.tup [.agg (wordD .zero), .v (.int .i64 1)]) ∧ KeptP (fun _ => True) σ σ') := by
  have hK := KeptP.refl (fun _ => True) σ
  have hg := fun (σ : List AObj) (c : DV) => grd_nil90 (σ := σ) (c := c) (gd := 91)
  obtain ⟨vk, vn, vs, vl⟩ := v
  refine enterB 11 tab_ok Try.func45 rfl (by kernel_rfl) rfl rfl rfl ?_
  repeat' (first
      | refine s_op rfl ?_ | (apply s_move; (iterate 4 (exact rfl))) | (apply s_assign; (iterate 4 (exact rfl))) | (apply s_ext; (iterate 5 (exact rfl))) | (apply s_mkf; (iterate 4 (exact rfl)))
      | (apply s_boxZ; (iterate 5 (exact rfl)); first | exact rfl | exact allD_mapd _)
      | (apply s_allocF tabZ_ok (d := 4); (iterate 6 (exact rfl)); intro locX σ hc; have hX := hc.at'; have oX := hK.out hc; replace hK := hK.fresh hc; clear hc)
      | (apply s_callS; (iterate 6 (exact rfl)); exact hg _ _; rintro _ σ2 ⟨rfl, hk2⟩; replace hX := hk2 _ _ trivial hX; replace hK := hK.trans hk2; clear hk2)
      | (apply s_storeF tab_ok; (iterate 7 (exact rfl)); exact hX; (iterate 2 (exact rfl)); intro σ hc; replace hX := hc.at'; replace hK := hK.chg oX hc; clear hc)
      | refine al_nil ?_ | refine q_then_n ?_ | refine q_then_r ?_ | refine aw_seq ?_ | refine aw_reg ?_
      | refine aw_ret ?_)
  all_goals exact q_retB (resB_2 rfl (resV_c (t := 36) rfl rfl hX rfl) (resV_t rfl) rfl) ⟨rfl, hK⟩
set_option maxRecDepth 100000 in
set_option maxHeartbeats 8000000 in
theorem reach_nil (ws : List AWord) : Runs Try.prog 48 [nilP, .d (.lst 4 (wordsR ws))] σ (fun r σ' => r = .d (.tup [.v (.int .i64 0), .v (.int .i64 1)]) ∧ KeptP (fun _ => True) σ σ') := by
  have hK := KeptP.refl (fun _ => True) σ
  have hg := fun (σ : List AObj) (c : DV) => grd_nil96 (σ := σ) (c := c) (gd := 97)
  refine enterB 11 tab_ok Try.func48 rfl (by kernel_rfl) rfl rfl rfl ?_
  repeat' (first
      | refine s_op rfl ?_ | (apply s_move; (iterate 4 (exact rfl))) | (apply s_assign; (iterate 4 (exact rfl))) | (apply s_ext; (iterate 5 (exact rfl))) | (apply s_mkf; (iterate 4 (exact rfl)))
      | (apply s_boxZ; (iterate 5 (exact rfl)); first | exact rfl | exact allD_mapd _)
      | (apply s_callS; (iterate 6 (exact rfl)); exact hg _ _; rintro _ σ2 ⟨rfl, hk2⟩; replace hK := hK.trans hk2; clear hk2)
      | refine al_nil ?_ | refine q_then_n ?_ | refine q_then_r ?_ | refine aw_seq ?_ | refine aw_reg ?_
      | refine aw_ret ?_)
  all_goals exact q_retB (resB_2 rfl (resV_t rfl) (resV_t rfl) rfl) ⟨rfl, hK⟩
set_option maxRecDepth 100000 in
set_option maxHeartbeats 8000000 in
theorem size_nil (w : AWord) : Runs Try.prog 53 [nilP, .d (.agg (wordD w))] σ (fun r σ' => r = .d (.tup [.v (.int .i64 0), .v (.int .i64 1)]) ∧ KeptP (fun _ => True) σ σ') := by
  have hr := fun (σ : List AObj) => reach_nil (σ := σ) [w]
  have hK := KeptP.refl (fun _ => True) σ
  obtain ⟨wk, wn, ws, wg⟩ := w
  refine enterB 12 tab_ok Try.func53 rfl (by kernel_rfl) rfl rfl rfl ?_
  repeat' (first
      | refine s_op rfl ?_ | (apply s_move; (iterate 4 (exact rfl))) | (apply s_ld_p tab_ok; (iterate 7 (exact rfl))) | (apply s_ld_f tab_ok; (iterate 6 (exact rfl))) | (apply s_ld_w tab_ok; (iterate 5 (exact rfl)); (first | exact valD_len _ | exact wordD_len _))
      | (apply s_assign; (iterate 4 (exact rfl))) | (apply s_ext; (iterate 5 (exact rfl))) | (apply s_boxZ; (iterate 5 (exact rfl)); first | exact rfl | exact allD_mapd _) | (apply s_lit tab_ok tabZ_ok; (iterate 10 (exact rfl))) | (apply s_lit1 tab_ok tabZ_ok; (iterate 9 (exact rfl)); (first | exact valD_len _ | exact wordD_len _))
      | (apply s_callS; (iterate 6 (exact rfl)); exact hr _; rintro _ σ2 ⟨rfl, hk2⟩; replace hK := hK.trans hk2; clear hk2)
      | refine al_nil ?_ | refine q_then_n ?_ | refine q_then_r ?_ | refine aw_seq ?_ | refine aw_reg ?_
      | refine aw_ret ?_)
  all_goals exact q_retB (resB_2 rfl (resV_t rfl) (resV_t rfl) rfl) ⟨rfl, hK⟩
set_option maxRecDepth 100000 in
set_option maxHeartbeats 8000000 in
theorem drop_nilW (w : AWord) {h : AV} {locH : Nat} (hh : h = .ptr locH 0 0) : Runs Try.prog 50 [h, nilP, .d (.agg (wordD w))] σ (fun r σ' => r = .d (.v (.int .i64 1)) ∧ σ' = σ) := by
  subst hh
  obtain ⟨wk, wn, ws, wg⟩ := w
  refine enterB 24 tab_ok Try.func50 rfl (by kernel_rfl) rfl rfl rfl ?_
  repeat' (first
      | refine s_op rfl ?_ | (apply s_move; (iterate 4 (exact rfl))) | (apply s_ld_p tab_ok; (iterate 7 (exact rfl))) | (apply s_ld_f tab_ok; (iterate 6 (exact rfl))) | (apply s_ld_w tab_ok; (iterate 5 (exact rfl)); (first | exact valD_len _ | exact wordD_len _))
      | (apply s_assign; (iterate 4 (exact rfl))) | (apply s_ext; (iterate 5 (exact rfl))) | (apply s_boxZ; (iterate 5 (exact rfl)); first | exact rfl | exact allD_mapd _) | (apply s_eql_t; (iterate 5 (exact rfl)); omega) | (apply s_eql_f; (iterate 5 (exact rfl)); omega)
      | (apply s_neq_t; (iterate 5 (exact rfl)); omega) | (apply s_neq_f; (iterate 5 (exact rfl)); omega)
      | (apply s_ptrNil2 ptr68; (iterate 4 (exact rfl)))
      | refine al_nil ?_ | refine q_then_n ?_ | refine q_then_r ?_ | refine aw_seq ?_ | refine aw_reg ?_
      | refine aw_true rfl ?_ | refine aw_false rfl ?_ | refine aw_skip ?_ | refine aw_ret ?_)
  all_goals exact q_retB (resB_1 rfl (resV_t rfl)) ⟨rfl, rfl⟩
set_option maxRecDepth 100000 in
set_option maxHeartbeats 8000000 in
theorem drop_nilH (w : AWord) : Runs Try.prog 50 [nilP, .d (.fptr worldC), .d (.agg (wordD w))] σ (fun r σ' => r = .d (.v (.int .i64 1)) ∧ KeptP (fun _ => True) σ σ') := by
  have hs := fun (σ : List AObj) => size_nil (σ := σ) w
  have hK := KeptP.refl (fun _ => True) σ
  obtain ⟨wk, wn, ws, wg⟩ := w
  refine enterB 24 tab_ok Try.func50 rfl (by kernel_rfl) rfl rfl rfl ?_
  repeat' (first
      | refine s_op rfl ?_ | (apply s_move; (iterate 4 (exact rfl))) | (apply s_ld_p tab_ok; (iterate 7 (exact rfl))) | (apply s_ld_f tab_ok; (iterate 6 (exact rfl))) | (apply s_ld_w tab_ok; (iterate 5 (exact rfl)); (first | exact valD_len _ | exact wordD_len _))
      | (apply s_assign; (iterate 4 (exact rfl))) | (apply s_ext; (iterate 5 (exact rfl))) | (apply s_boxZ; (iterate 5 (exact rfl)); first | exact rfl | exact allD_mapd _) | (apply s_eql_t; (iterate 5 (exact rfl)); omega) | (apply s_eql_f; (iterate 5 (exact rfl)); omega)
      | (apply s_neq_t; (iterate 5 (exact rfl)); omega) | (apply s_neq_f; (iterate 5 (exact rfl)); omega)
      | (apply s_fptrNil ptr68; (iterate 4 (exact rfl)))
      | (apply s_callS; (iterate 6 (exact rfl)); exact hs _; rintro _ σ2 ⟨rfl, hk2⟩; replace hK := hK.trans hk2; clear hk2)
      | refine al_nil ?_ | refine q_then_n ?_ | refine q_then_r ?_ | refine aw_seq ?_ | refine aw_reg ?_
      | refine aw_true rfl ?_ | refine aw_false rfl ?_ | refine aw_skip ?_ | refine aw_ret ?_)
  all_goals exact q_retB (resB_1 rfl (resV_t rfl)) ⟨rfl, hK⟩
set_option maxRecDepth 100000 in
theorem number_c85 (n : Int) : RunsP Try.prog 85 [.v (.int .i64 n)] (fun v => v = .agg (valD (.mk 1 n ⟨#[]⟩ []))) := by
  refine RunsP.less ?_
  refine enterPB 5 tab_ok Try.func85 rfl (by kernel_rfl) rfl rfl rfl ?_
  repeat' (first
      | refine s_op rfl ?_ | (apply s_move; (iterate 4 (exact rfl))) | (apply s_build tabZ_ok; (iterate 5 (exact rfl)))
      | (apply s_allocF tabZ_ok (d := 2); (iterate 6 (exact rfl)); intro locX σ hc; have hX := hc.at'; clear hc)
      | (apply s_storeF tab_ok; (iterate 7 (exact rfl)); exact hX; (iterate 2 (exact rfl)); intro σ hc; replace hX := hc.at'; clear hc)
      | refine al_nil ?_ | refine q_then_n ?_ | refine q_then_r ?_ | refine aw_seq ?_ | refine aw_reg ?_
      | refine aw_ret ?_)
  all_goals exact q_retB (resB_1 rfl (resV_c (t := 66) rfl rfl hX rfl)) ⟨_, rfl, Wk.agg ⟨Wk.refl _, Wk.refl _, Wk.refl _, Wk.nil 4, trivial⟩⟩
set_option maxRecDepth 100000 in
theorem at_c56 (n g : Int) : RunsP Try.prog 56 [.v (.int .i64 n), .v (.int .i64 g)] (fun v => v = .agg (wordD (cellWord n g))) := by
  refine enterPB 8 tab_ok Try.func56 rfl (by kernel_rfl) rfl rfl rfl ?_
  repeat' (first
      | refine s_op rfl ?_ | (apply s_move; (iterate 4 (exact rfl))) | (apply s_build tabZ_ok; (iterate 5 (exact rfl)))
      | (apply s_allocF tabZ_ok (d := 4); (iterate 6 (exact rfl)); intro locX σ hc; have hX := hc.at'; clear hc)
      | (apply s_storeF tab_ok; (iterate 7 (exact rfl)); exact hX; (iterate 2 (exact rfl)); intro σ hc; replace hX := hc.at'; clear hc)
      | refine al_nil ?_ | refine q_then_n ?_ | refine q_then_r ?_ | refine aw_seq ?_ | refine aw_reg ?_
      | refine aw_ret ?_)
  all_goals exact q_retB (resB_1 rfl (resV_c (t := 36) rfl rfl hX rfl)) ⟨_, rfl, rfl⟩
/-- What Drop answers, and leaves. -/
def dropM (H : AHeap) (f : Nat) (w : AWord) : Int × AHeap := if (reachM H f [w]).2 ≠ 0 then ((reachM H f [w]).2, H) else (0, dropF f H w)
set_option maxRecDepth 100000 in
set_option maxHeartbeats 8000000 in
theorem drop_c50 {locH : Nat} {H : AHeap} {B : Int} {f : Nat} {w : AWord} (ok : H.Ok B) (hco : CellsOk H) (hH : σ[locH]? = some (ho H)) (hn9 : walksF (walkF H f) [w] [] false ≠ .bad 999) (hN : (reachM H f [w]).2 = 0 → B + dropN f H w < 1000000000 ∧ fuelOk f H w) :
    Runs Try.prog 50 [.ptr locH 0 0, .d (.fptr worldC), .d (.agg (wordD w))] σ (fun r σ' => r = .d (.v (.int .i64 (dropM H f w).1)) ∧ σ'[locH]? = some (ho (dropM H f w).2) ∧ KeptP (· ≠ locH) σ σ') := by
  have hs := fun σ1 (hH : σ1[locH]? = some (ho H)) => size_c53 (σ := σ1) (w := w) ok hco hH hn9
  have hK := KeptP.refl (· ≠ locH) σ
  by_cases he : (reachM H f [w]).2 = 0
  · have hdm : dropM H f w = (0, dropF f H w) := by unfold dropM; rw [if_neg (by simp [he])]
    obtain ⟨n1, n2⟩ := hN he
    have hd := fun σ1 (hH : σ1[locH]? = some (ho H)) => drop_c100 f H w B σ1 ok n1 n2 hH
    rw [hdm]
    rw [he] at hs
    unfold DroppedP at hd
    generalize dropF f H w = K at hd ⊢
    obtain ⟨wk, wn, ws, wg⟩ := w
    clear hdm he hN
    refine enterB 24 tab_ok Try.func50 rfl (by kernel_rfl) rfl rfl rfl ?_
    repeat' (first
      | refine s_op rfl ?_ | (apply s_move; (iterate 4 (exact rfl))) | (apply s_ld_p tab_ok; (iterate 7 (exact rfl))) | (apply s_ld_f tab_ok; (iterate 6 (exact rfl))) | (apply s_ld_w tab_ok; (iterate 5 (exact rfl)); (first | exact valD_len _ | exact wordD_len _))
      | (apply s_assign; (iterate 4 (exact rfl))) | (apply s_ext; (iterate 5 (exact rfl))) | (apply s_boxZ; (iterate 5 (exact rfl)); first | exact rfl | exact allD_mapd _) | (apply s_eql_t; (iterate 5 (exact rfl)); omega) | (apply s_eql_f; (iterate 5 (exact rfl)); omega)
      | (apply s_neq_t; (iterate 5 (exact rfl)); omega) | (apply s_neq_f; (iterate 5 (exact rfl)); omega)
      | (apply s_fptrNil ptr68; (iterate 4 (exact rfl)))
      | (apply s_callS; (iterate 6 (exact rfl)); exact hs _ hH; rintro _ σ2 ⟨rfl, hk2⟩; replace hH := hk2 _ _ trivial hH; replace hK := hK.trans hk2.any; clear hk2)
      | (apply s_callS; (iterate 6 (exact rfl)); exact hd _ hH; rintro _ σ2 ⟨rfl, hH2, hk2⟩; replace hK := hK.trans hk2; clear hk2)
      | refine al_nil ?_ | refine q_then_n ?_ | refine q_then_r ?_ | refine aw_seq ?_ | refine aw_reg ?_
      | refine aw_true rfl ?_ | refine aw_false rfl ?_ | refine aw_skip ?_ | refine aw_ret ?_)
    all_goals exact q_retB (resB_1 rfl (resV_t rfl)) ⟨rfl, hH2, hK⟩
  · have hdm : dropM H f w = ((reachM H f [w]).2, H) := by unfold dropM; rw [if_pos he]
    rw [hdm]
    generalize (reachM H f [w]).2 = e at hs he ⊢
    obtain ⟨wk, wn, ws, wg⟩ := w
    clear hdm hN
    refine enterB 24 tab_ok Try.func50 rfl (by kernel_rfl) rfl rfl rfl ?_
    repeat' (first
      | refine s_op rfl ?_ | (apply s_move; (iterate 4 (exact rfl))) | (apply s_ld_p tab_ok; (iterate 7 (exact rfl))) | (apply s_ld_f tab_ok; (iterate 6 (exact rfl))) | (apply s_ld_w tab_ok; (iterate 5 (exact rfl)); (first | exact valD_len _ | exact wordD_len _))
      | (apply s_assign; (iterate 4 (exact rfl))) | (apply s_ext; (iterate 5 (exact rfl))) | (apply s_boxZ; (iterate 5 (exact rfl)); first | exact rfl | exact allD_mapd _) | (apply s_eql_t; (iterate 5 (exact rfl)); omega) | (apply s_eql_f; (iterate 5 (exact rfl)); omega)
      | (apply s_neq_t; (iterate 5 (exact rfl)); omega) | (apply s_neq_f; (iterate 5 (exact rfl)); omega)
      | (apply s_fptrNil ptr68; (iterate 4 (exact rfl)))
      | (apply s_callS; (iterate 6 (exact rfl)); exact hs _ hH; rintro _ σ2 ⟨rfl, hk2⟩; replace hH := hk2 _ _ trivial hH; replace hK := hK.trans hk2.any; clear hk2)
      | refine al_nil ?_ | refine q_then_n ?_ | refine q_then_r ?_ | refine aw_seq ?_ | refine aw_reg ?_
      | refine aw_true rfl ?_ | refine aw_false rfl ?_ | refine aw_skip ?_ | refine aw_ret ?_)
    all_goals exact q_retB (resB_1 rfl (resV_t rfl)) ⟨rfl, hH, hK⟩
end
end Go.Proofs.Ytciciaikajdenaa
