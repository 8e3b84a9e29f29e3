/- N52: CellTrees: a round: bno0. -/
import Derived.Test.YtciciaikajdenaaQNTx2
set_option linter.unusedSimpArgs false
set_option linter.unusedVariables false
namespace Go.Proofs.Ytciciaikajdenaa
open Go.RowKit

section
set_option maxRecDepth 100000 in
set_option maxHeartbeats 16000000 in
theorem round_bno0 {l : List ADo} {r : Int} {locH locO locA j vO vA m : Nat} {B : Int} {H : AHeap} {own : List AWord} {has : List Val} {σ : List AObj} {xk xn ck cn vk vn wk wn wg lv : Int} {vs ws : ByteArray} {vl : List Val} {cw : List AWord} {raw : Bool} (nHO : locH ≠ locO) (nHA : locH ≠ locA) (nOA : locO ≠ locA) (hll : l.length ≤ 200) (hlt : j < l.length) (hH : σ[locH]? = some (ho H)) (hO : σ[locO]? = some (.arr 36 4 vO (wordsR own))) (hA : σ[locA]? = some (.arr 66 4 vA (valR has))) (hB0 : 0 ≤ B) (hB1 : B ≤ 4000 * (j : Int)) (hmo : own.length = m) (hmh : has.length = m) (hmj : m ≤ j) (hr : (dosR l)[j]? = some [DV.v (.int .i64 1), DV.v (.int .i64 xn), DV.v (.int .u8 ck), DV.v (.int .i64 cn), DV.lst 4 (wordsR cw), DV.v (.int .u8 vk), DV.v (.int .i64 vn), DV.v (.string vs), DV.lst 4 (valR vl), DV.v (.int .u8 wk), DV.v (.int .i64 wn), DV.v (.string ws), DV.v (.int .i64 wg), DV.v (.bool raw)]) (hlv : Look 33 H (.v (.int .i64 lv))) (t : TInv r B H own has) (h0 : m = 0) {e : Int} (he : e ≠ 0) (m1 : Mut2 45 [.d (.agg [DV.v (.int .u8 vk), DV.v (.int .i64 vn), DV.v (.string vs), DV.lst 4 (valR vl)])] H (.tup [.agg [DV.v (.int .u8 0), DV.v (.int .i64 0), DV.v (.string ⟨#[]⟩), DV.v (.int .i64 0)], .v (.int .i64 e)]) H) {X : Code} (hX : body8 = some X) :
    AWk Try.prog 246 X (TQ l r locH locO locA (j + 1)) ([1, 5, 7, 8, 9, 10, 41, 42, 43].zip [.d (.lst 14 (dosR l)), .ptr locH 0 0, .d (.fptr worldC), .d (.v (.int .i64 0)), .own locO vO 4 0 m, .own locA vA 4 0 m, .d (.lst 14 (dosR l)), .d (.v (.int .i64 ((dosR l).length : Int))), .d (.v (.int .i64 (j : Int)))]) σ := by
  (try unfold Known at *); (try unfold NewH at *); (try unfold Mut2 at *); (try unfold See2 at *); (try unfold Look at *)
  have e1 := dosR_len l
  have e2 := wordsR_len own
  have e3 := valR_len has
  cases hX
  repeat' (first
      | refine s_op rfl ?_ | (apply s_skipV; (iterate 2 (exact rfl))) | (apply s_skipU; (iterate 3 (exact rfl))) | (apply s_move; (iterate 4 (exact rfl))) | (apply s_fa_p tab_ok; (iterate 5 (exact rfl)))
      | (apply s_fa_f tab_ok; (iterate 6 (exact rfl))) | (apply s_ld_p tab_ok; (iterate 7 (exact rfl))) | (apply s_ld_f tab_ok; (iterate 6 (exact rfl))) | (apply s_ld_w tab_ok; (iterate 5 (exact rfl)); (first | exact valD_len _ | exact wordD_len _)) | (apply s_assign; (iterate 4 (exact rfl)))
      | (apply s_pick_t; (iterate 5 (exact rfl))) | (apply s_pick_f; (iterate 5 (exact rfl))) | (apply s_len tab_ok; (iterate 5 (exact rfl))) | (apply s_lens str_ok; (iterate 4 (exact rfl))) | (apply s_idx tab_ok; (iterate 7 (exact rfl)); (first | exact valR_get (by assumption) | exact wordsR_get (by assumption) | assumption))
      | (apply s_ext; (iterate 5 (exact rfl))) | (apply s_build tabZ_ok; (iterate 5 (exact rfl))) | (apply s_lit tab_ok tabZ_ok; (iterate 10 (exact rfl))) | (apply s_lit1 tab_ok tabZ_ok; (iterate 9 (exact rfl)); (first | exact valD_len _ | exact wordD_len _)) | (apply s_not_t; (iterate 4 (exact rfl)))
      | (apply s_not_f; (iterate 4 (exact rfl))) | (apply s_not; (iterate 4 (exact rfl))) | (apply s_eql_t; (iterate 5 (exact rfl)); omega) | (apply s_eql_f; (iterate 5 (exact rfl)); omega) | (apply s_neq_t; (iterate 5 (exact rfl)); omega)
      | (apply s_neq_f; (iterate 5 (exact rfl)); omega) | (apply s_lss_t; (iterate 5 (exact rfl)); omega) | (apply s_lss_f; (iterate 5 (exact rfl)); omega) | (apply s_gtr_t; (iterate 5 (exact rfl)); omega) | (apply s_gtr_f; (iterate 5 (exact rfl)); omega)
      | (apply s_add64; (iterate 5 (exact rfl)); omega) | (apply s_sub64; (iterate 5 (exact rfl)); omega)
      | (apply s_callS; (iterate 6 (exact rfl)); (first | exact hlv _ _ hH); rintro _ σ2 ⟨rfl, rfl⟩)
      | (apply s_callS; (iterate 6 (exact rfl)); (first | exact m1 _ _ hH); rintro _ σ2 ⟨rfl, hH2, hk2⟩; (try (replace hO := hk2 _ _ (by first | assumption | (apply Ne.symm; assumption)) hO)); (try (replace hA := hk2 _ _ (by first | assumption | (apply Ne.symm; assumption)) hA)); (try (replace hX := hk2 _ _ (by first | assumption | (apply Ne.symm; assumption)) hX)); (try (replace hW := hk2 _ _ (by first | assumption | (apply Ne.symm; assumption)) hW)); (try (replace hY := hk2 _ _ (by first | assumption | (apply Ne.symm; assumption)) hY)); clear hk2; replace hH := hH2; clear hH2)
      | (apply s_wNe_f .zero .zero; (iterate 6 (exact rfl)))
      | (apply s_allocF tabZ_ok (d := 12); (iterate 6 (exact rfl)); intro locX σ hc; have hX := hc.at'; (try (have nHX := hc.ne hH)); (try (replace hH := hc.keep hH)); (try (have nOX := hc.ne hO)); (try (replace hO := hc.keep hO)); (try (have nAX := hc.ne hA)); (try (replace hA := hc.keep hA)); (try (have nWX := hc.ne hW)); (try (replace hW := hc.keep hW)); (try (have nYX := hc.ne hY)); (try (replace hY := hc.keep hY)); clear hc)
      | (apply s_allocF tabZ_ok (d := 15); (iterate 6 (exact rfl)); intro locW σ hc; have hW := hc.at'; (try (have nHW := hc.ne hH)); (try (replace hH := hc.keep hH)); (try (have nOW := hc.ne hO)); (try (replace hO := hc.keep hO)); (try (have nAW := hc.ne hA)); (try (replace hA := hc.keep hA)); (try (have nXW := hc.ne hX)); (try (replace hX := hc.keep hX)); (try (have nYW := hc.ne hY)); (try (replace hY := hc.keep hY)); clear hc)
      | (apply s_allocF tabZ_ok (d := 17); (iterate 6 (exact rfl)); intro locY σ hc; have hY := hc.at'; (try (have nHY := hc.ne hH)); (try (replace hH := hc.keep hH)); (try (have nOY := hc.ne hO)); (try (replace hO := hc.keep hO)); (try (have nAY := hc.ne hA)); (try (replace hA := hc.keep hA)); (try (have nXY := hc.ne hX)); (try (replace hX := hc.keep hX)); (try (have nWY := hc.ne hW)); (try (replace hW := hc.keep hW)); clear hc)
      | (apply s_storeF tab_ok; (iterate 7 (exact rfl)); exact hX; (iterate 2 (exact rfl)); intro σ hc; replace hX := hc.at'; (try (replace hH := hc.keep (by first | assumption | (apply Ne.symm; assumption)) hH)); (try (replace hO := hc.keep (by first | assumption | (apply Ne.symm; assumption)) hO)); (try (replace hA := hc.keep (by first | assumption | (apply Ne.symm; assumption)) hA)); (try (replace hW := hc.keep (by first | assumption | (apply Ne.symm; assumption)) hW)); (try (replace hY := hc.keep (by first | assumption | (apply Ne.symm; assumption)) hY)); clear hc)
      | (apply s_storeF tab_ok; (iterate 7 (exact rfl)); exact hW; (iterate 2 (exact rfl)); intro σ hc; replace hW := hc.at'; (try (replace hH := hc.keep (by first | assumption | (apply Ne.symm; assumption)) hH)); (try (replace hO := hc.keep (by first | assumption | (apply Ne.symm; assumption)) hO)); (try (replace hA := hc.keep (by first | assumption | (apply Ne.symm; assumption)) hA)); (try (replace hX := hc.keep (by first | assumption | (apply Ne.symm; assumption)) hX)); (try (replace hY := hc.keep (by first | assumption | (apply Ne.symm; assumption)) hY)); clear hc)
      | (apply s_storeF tab_ok; (iterate 7 (exact rfl)); exact hY; (iterate 2 (exact rfl)); intro σ hc; replace hY := hc.at'; (try (replace hH := hc.keep (by first | assumption | (apply Ne.symm; assumption)) hH)); (try (replace hO := hc.keep (by first | assumption | (apply Ne.symm; assumption)) hO)); (try (replace hA := hc.keep (by first | assumption | (apply Ne.symm; assumption)) hA)); (try (replace hX := hc.keep (by first | assumption | (apply Ne.symm; assumption)) hX)); (try (replace hW := hc.keep (by first | assumption | (apply Ne.symm; assumption)) hW)); clear hc)
      | (apply s_ldF tab_ok; (iterate 5 (exact rfl)); exact hX; exact rfl)
      | (apply s_ldF tab_ok; (iterate 5 (exact rfl)); exact hW; exact rfl)
      | (apply s_ldF tab_ok; (iterate 5 (exact rfl)); exact hY; exact rfl)
      | refine al_nil ?_ | refine q_then_n ?_ | refine q_blk_n ?_ | refine q_blk_r ?_ | refine q_blk_e ?_
      | refine q_blk_o rfl ?_ | refine q_then_e ?_ | refine aw_block ?_ | refine aw_exit ?_ | refine q_then_r ?_
      | refine aw_seq ?_ | refine aw_reg ?_ | refine aw_true rfl ?_ | refine aw_false rfl ?_ | refine aw_skip ?_
      | refine aw_ret ?_ | refine al_fork ?_ ?_ | refine al_fork3 ?_ ?_ ?_
      | refine aw_draws (id := 23) (trO [0, 1, 4, 5] (.fork 2 (.fork 3 (trO [6, 7, 8, 9, 10] .nil) 6 (.fork 3 (trO [7, 8, 9, 10] .nil) 7 (trO [3, 8, 9, 10] .nil))) 6 (.fork 2 (.fork 3 (trO [7, 8, 9, 10] .nil) 7 (trO [3, 8, 9, 10] .nil)) 7 (trO [2, 3, 8, 9, 10] .nil)))) [2, 3, 6, 7, 8] [3, 8] mixed_ok (by kernel_rfl) ?_
      | refine aw_draws (id := 29) (trO [0, 1, 4, 5, 6, 7] (.fork 2 (.fork 3 (trO [8, 9, 10, 11, 12] .nil) 8 (.fork 3 (trO [9, 10, 11, 12] .nil) 9 (trO [3, 10, 11, 12] .nil))) 8 (.fork 2 (.fork 3 (trO [9, 10, 11, 12] .nil) 9 (trO [3, 10, 11, 12] .nil)) 9 (trO [2, 3, 10, 11, 12] .nil)))) [2, 3, 8, 9, 10] [3, 10] mixed_ok (by kernel_rfl) ?_
      | refine aw_draws (id := 36) (trO [0, 1, 2, 3, 4, 5, 6, 7, 9, 10, 11, 12, 13, 14, 15, 16, 8, 17, 18, 19] .nil) [8, 17] [8, 17] mixed_ok (by kernel_rfl) ?_
      | refine aw_draws (id := 42) (trO [0, 1, 2, 3, 4, 5, 6, 7, 8, 9, 10] .nil) [8] [] mixed_ok (by kernel_rfl) ?_)
  all_goals exact ⟨rfl, _, rfl, vO, vA, m, B, H, own, has, rfl, hH, hO, hA, t, by omega, by omega, by (first | omega | (simp; omega)), by (first | omega | (simp; omega)), by omega, by omega⟩
end
end Go.Proofs.Ytciciaikajdenaa
/- N52: CellTrees: a round: bno. -/
set_option linter.unusedSimpArgs false
set_option linter.unusedVariables false
namespace Go.Proofs.Ytciciaikajdenaa
open Go.RowKit

section
set_option maxRecDepth 100000 in
set_option maxHeartbeats 16000000 in
theorem round_bno {l : List ADo} {r : Int} {locH locO locA j vO vA m : Nat} {B : Int} {H : AHeap} {own : List AWord} {has : List Val} {σ : List AObj} {xk xn ck cn vk vn wk wn wg lv : Int} {vs ws : ByteArray} {vl : List Val} {cw : List AWord} {raw : Bool} (nHO : locH ≠ locO) (nHA : locH ≠ locA) (nOA : locO ≠ locA) (hll : l.length ≤ 200) (hlt : j < l.length) (hH : σ[locH]? = some (ho H)) (hO : σ[locO]? = some (.arr 36 4 vO (wordsR own))) (hA : σ[locA]? = some (.arr 66 4 vA (valR has))) (hB0 : 0 ≤ B) (hB1 : B ≤ 4000 * (j : Int)) (hmo : own.length = m) (hmh : has.length = m) (hmj : m ≤ j) (hr : (dosR l)[j]? = some [DV.v (.int .i64 1), DV.v (.int .i64 xn), DV.v (.int .u8 ck), DV.v (.int .i64 cn), DV.lst 4 (wordsR cw), DV.v (.int .u8 vk), DV.v (.int .i64 vn), DV.v (.string vs), DV.lst 4 (valR vl), DV.v (.int .u8 wk), DV.v (.int .i64 wn), DV.v (.string ws), DV.v (.int .i64 wg), DV.v (.bool raw)]) (hlv : Look 33 H (.v (.int .i64 lv))) (t : TInv r B H own has) (h0 : 0 < m) {i : Nat} {a : Int} (ha : xn.tmod m = a) (ha1 : -(m : Int) < a) (ha2 : a < m) (hi : (a + m).tmod m = (i : Int)) (hil : i < m) {e : Int} (he : e ≠ 0) (m1 : Mut2 45 [.d (.agg [DV.v (.int .u8 vk), DV.v (.int .i64 vn), DV.v (.string vs), DV.lst 4 (valR vl)])] H (.tup [.agg [DV.v (.int .u8 0), DV.v (.int .i64 0), DV.v (.string ⟨#[]⟩), DV.v (.int .i64 0)], .v (.int .i64 e)]) H) {X : Code} (hX : body8 = some X) :
    AWk Try.prog 246 X (TQ l r locH locO locA (j + 1)) ([1, 5, 7, 8, 9, 10, 41, 42, 43].zip [.d (.lst 14 (dosR l)), .ptr locH 0 0, .d (.fptr worldC), .d (.v (.int .i64 0)), .own locO vO 4 0 m, .own locA vA 4 0 m, .d (.lst 14 (dosR l)), .d (.v (.int .i64 ((dosR l).length : Int))), .d (.v (.int .i64 (j : Int)))]) σ := by
  (try unfold Known at *); (try unfold NewH at *); (try unfold Mut2 at *); (try unfold See2 at *); (try unfold Look at *)
  have e1 := dosR_len l
  have e2 := wordsR_len own
  have e3 := valR_len has
  cases hX
  repeat' (first
      | refine s_op rfl ?_ | (apply s_skipV; (iterate 2 (exact rfl))) | (apply s_skipU; (iterate 3 (exact rfl))) | (apply s_move; (iterate 4 (exact rfl))) | (apply s_fa_p tab_ok; (iterate 5 (exact rfl)))
      | (apply s_fa_f tab_ok; (iterate 6 (exact rfl))) | (apply s_ld_p tab_ok; (iterate 7 (exact rfl))) | (apply s_ld_f tab_ok; (iterate 6 (exact rfl))) | (apply s_ld_w tab_ok; (iterate 5 (exact rfl)); (first | exact valD_len _ | exact wordD_len _)) | (apply s_assign; (iterate 4 (exact rfl)))
      | (apply s_pick_t; (iterate 5 (exact rfl))) | (apply s_pick_f; (iterate 5 (exact rfl))) | (apply s_len tab_ok; (iterate 5 (exact rfl))) | (apply s_lens str_ok; (iterate 4 (exact rfl))) | (apply s_idx tab_ok; (iterate 7 (exact rfl)); (first | exact valR_get (by assumption) | exact wordsR_get (by assumption) | assumption))
      | (apply s_ext; (iterate 5 (exact rfl))) | (apply s_build tabZ_ok; (iterate 5 (exact rfl))) | (apply s_lit tab_ok tabZ_ok; (iterate 10 (exact rfl))) | (apply s_lit1 tab_ok tabZ_ok; (iterate 9 (exact rfl)); (first | exact valD_len _ | exact wordD_len _)) | (apply s_not_t; (iterate 4 (exact rfl)))
      | (apply s_not_f; (iterate 4 (exact rfl))) | (apply s_not; (iterate 4 (exact rfl))) | (apply s_eql_t; (iterate 5 (exact rfl)); omega) | (apply s_eql_f; (iterate 5 (exact rfl)); omega) | (apply s_neq_t; (iterate 5 (exact rfl)); omega)
      | (apply s_neq_f; (iterate 5 (exact rfl)); omega) | (apply s_lss_t; (iterate 5 (exact rfl)); omega) | (apply s_lss_f; (iterate 5 (exact rfl)); omega) | (apply s_gtr_t; (iterate 5 (exact rfl)); omega) | (apply s_gtr_f; (iterate 5 (exact rfl)); omega)
      | (apply s_add64; (iterate 5 (exact rfl)); omega) | (apply s_sub64; (iterate 5 (exact rfl)); omega)
      | (apply s_callS; (iterate 6 (exact rfl)); (first | exact hlv _ _ hH); rintro _ σ2 ⟨rfl, rfl⟩)
      | (apply s_remV a; (iterate 5 (exact rfl)); exact ⟨by omega, ha⟩)
      | (apply s_remV (i : Int); (iterate 5 (exact rfl)); exact ⟨by omega, hi⟩)
      | (apply s_callS; (iterate 6 (exact rfl)); (first | exact m1 _ _ hH); rintro _ σ2 ⟨rfl, hH2, hk2⟩; (try (replace hO := hk2 _ _ (by first | assumption | (apply Ne.symm; assumption)) hO)); (try (replace hA := hk2 _ _ (by first | assumption | (apply Ne.symm; assumption)) hA)); (try (replace hX := hk2 _ _ (by first | assumption | (apply Ne.symm; assumption)) hX)); (try (replace hW := hk2 _ _ (by first | assumption | (apply Ne.symm; assumption)) hW)); (try (replace hY := hk2 _ _ (by first | assumption | (apply Ne.symm; assumption)) hY)); clear hk2; replace hH := hH2; clear hH2)
      | (apply s_wNe_f .zero .zero; (iterate 6 (exact rfl)))
      | (apply s_allocF tabZ_ok (d := 12); (iterate 6 (exact rfl)); intro locX σ hc; have hX := hc.at'; (try (have nHX := hc.ne hH)); (try (replace hH := hc.keep hH)); (try (have nOX := hc.ne hO)); (try (replace hO := hc.keep hO)); (try (have nAX := hc.ne hA)); (try (replace hA := hc.keep hA)); (try (have nWX := hc.ne hW)); (try (replace hW := hc.keep hW)); (try (have nYX := hc.ne hY)); (try (replace hY := hc.keep hY)); clear hc)
      | (apply s_allocF tabZ_ok (d := 15); (iterate 6 (exact rfl)); intro locW σ hc; have hW := hc.at'; (try (have nHW := hc.ne hH)); (try (replace hH := hc.keep hH)); (try (have nOW := hc.ne hO)); (try (replace hO := hc.keep hO)); (try (have nAW := hc.ne hA)); (try (replace hA := hc.keep hA)); (try (have nXW := hc.ne hX)); (try (replace hX := hc.keep hX)); (try (have nYW := hc.ne hY)); (try (replace hY := hc.keep hY)); clear hc)
      | (apply s_allocF tabZ_ok (d := 17); (iterate 6 (exact rfl)); intro locY σ hc; have hY := hc.at'; (try (have nHY := hc.ne hH)); (try (replace hH := hc.keep hH)); (try (have nOY := hc.ne hO)); (try (replace hO := hc.keep hO)); (try (have nAY := hc.ne hA)); (try (replace hA := hc.keep hA)); (try (have nXY := hc.ne hX)); (try (replace hX := hc.keep hX)); (try (have nWY := hc.ne hW)); (try (replace hW := hc.keep hW)); clear hc)
      | (apply s_storeF tab_ok; (iterate 7 (exact rfl)); exact hX; (iterate 2 (exact rfl)); intro σ hc; replace hX := hc.at'; (try (replace hH := hc.keep (by first | assumption | (apply Ne.symm; assumption)) hH)); (try (replace hO := hc.keep (by first | assumption | (apply Ne.symm; assumption)) hO)); (try (replace hA := hc.keep (by first | assumption | (apply Ne.symm; assumption)) hA)); (try (replace hW := hc.keep (by first | assumption | (apply Ne.symm; assumption)) hW)); (try (replace hY := hc.keep (by first | assumption | (apply Ne.symm; assumption)) hY)); clear hc)
      | (apply s_storeF tab_ok; (iterate 7 (exact rfl)); exact hW; (iterate 2 (exact rfl)); intro σ hc; replace hW := hc.at'; (try (replace hH := hc.keep (by first | assumption | (apply Ne.symm; assumption)) hH)); (try (replace hO := hc.keep (by first | assumption | (apply Ne.symm; assumption)) hO)); (try (replace hA := hc.keep (by first | assumption | (apply Ne.symm; assumption)) hA)); (try (replace hX := hc.keep (by first | assumption | (apply Ne.symm; assumption)) hX)); (try (replace hY := hc.keep (by first | assumption | (apply Ne.symm; assumption)) hY)); clear hc)
      | (apply s_storeF tab_ok; (iterate 7 (exact rfl)); exact hY; (iterate 2 (exact rfl)); intro σ hc; replace hY := hc.at'; (try (replace hH := hc.keep (by first | assumption | (apply Ne.symm; assumption)) hH)); (try (replace hO := hc.keep (by first | assumption | (apply Ne.symm; assumption)) hO)); (try (replace hA := hc.keep (by first | assumption | (apply Ne.symm; assumption)) hA)); (try (replace hX := hc.keep (by first | assumption | (apply Ne.symm; assumption)) hX)); (try (replace hW := hc.keep (by first | assumption | (apply Ne.symm; assumption)) hW)); clear hc)
      | (apply s_ldF tab_ok; (iterate 5 (exact rfl)); exact hX; exact rfl)
      | (apply s_ldF tab_ok; (iterate 5 (exact rfl)); exact hW; exact rfl)
      | (apply s_ldF tab_ok; (iterate 5 (exact rfl)); exact hY; exact rfl)
      | refine al_nil ?_ | refine q_then_n ?_ | refine q_blk_n ?_ | refine q_blk_r ?_ | refine q_blk_e ?_
      | refine q_blk_o rfl ?_ | refine q_then_e ?_ | refine aw_block ?_ | refine aw_exit ?_ | refine q_then_r ?_
      | refine aw_seq ?_ | refine aw_reg ?_ | refine aw_true rfl ?_ | refine aw_false rfl ?_ | refine aw_skip ?_
      | refine aw_ret ?_ | refine al_fork ?_ ?_ | refine al_fork3 ?_ ?_ ?_
      | refine aw_draws (id := 23) (trO [0, 1, 4, 5] (.fork 2 (.fork 3 (trO [6, 7, 8, 9, 10] .nil) 6 (.fork 3 (trO [7, 8, 9, 10] .nil) 7 (trO [3, 8, 9, 10] .nil))) 6 (.fork 2 (.fork 3 (trO [7, 8, 9, 10] .nil) 7 (trO [3, 8, 9, 10] .nil)) 7 (trO [2, 3, 8, 9, 10] .nil)))) [2, 3, 6, 7, 8] [3, 8] mixed_ok (by kernel_rfl) ?_
      | refine aw_draws (id := 29) (trO [0, 1, 4, 5, 6, 7] (.fork 2 (.fork 3 (trO [8, 9, 10, 11, 12] .nil) 8 (.fork 3 (trO [9, 10, 11, 12] .nil) 9 (trO [3, 10, 11, 12] .nil))) 8 (.fork 2 (.fork 3 (trO [9, 10, 11, 12] .nil) 9 (trO [3, 10, 11, 12] .nil)) 9 (trO [2, 3, 10, 11, 12] .nil)))) [2, 3, 8, 9, 10] [3, 10] mixed_ok (by kernel_rfl) ?_
      | refine aw_draws (id := 36) (trO [0, 1, 2, 3, 4, 5, 6, 7, 9, 10, 11, 12, 13, 14, 15, 16, 8, 17, 18, 19] .nil) [8, 17] [8, 17] mixed_ok (by kernel_rfl) ?_
      | refine aw_draws (id := 42) (trO [0, 1, 2, 3, 4, 5, 6, 7, 8, 9, 10] .nil) [8] [] mixed_ok (by kernel_rfl) ?_)
  all_goals exact ⟨rfl, _, rfl, vO, vA, m, B, H, own, has, rfl, hH, hO, hA, t, by omega, by omega, by (first | omega | (simp; omega)), by (first | omega | (simp; omega)), by omega, by omega⟩
end
end Go.Proofs.Ytciciaikajdenaa
