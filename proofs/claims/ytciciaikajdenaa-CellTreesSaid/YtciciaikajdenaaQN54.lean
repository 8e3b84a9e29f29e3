/- N54: CellTrees: the first loop. -/
import Derived.Test.YtciciaikajdenaaQN53
import Derived.Test.YtciciaikajdenaaQN52nonex2
import Derived.Test.YtciciaikajdenaaQN52bok0x2
import Derived.Test.YtciciaikajdenaaQN52bno0x2
import Derived.Test.YtciciaikajdenaaQN52cok
import Derived.Test.YtciciaikajdenaaQN52c7x2
import Derived.Test.YtciciaikajdenaaQN52dlastx2
set_option linter.unusedSimpArgs false
set_option linter.unusedVariables false
namespace Go.Proofs.Ytciciaikajdenaa
open Go.RowKit

section
noncomputable def trees11 : Option Code := match Try.f8.body with
  | some c => findW 11 c
  | none => none
theorem one_more {a b c : Nat} (h : a < b) : b - (a + 1) < b - a := by omega
set_option maxRecDepth 100000 in
set_option maxHeartbeats 16000000 in
theorem trees_loop {l : List ADo} {r : Int} (hr0 : 0 ≤ r) (hr1 : r ≤ 100000) (hlow : ∀ x ∈ l, x.low) (hlight : Light l) {locH : Nat} {σ : List AObj} (hH : σ[locH]? = some (ho (.new r))) {X : Code} (hX : trees11 = some X) :
    AWk Try.prog 246 X (retQB tab Try.f8 (fun v x => ∃ d, v = AV.d d ∧ d = DV.v (Value.bool true))) [(1, .d (.lst 14 (dosR l))), (5, .ptr locH 0 0), (7, .d (.fptr worldC)), (8, .d (.v (.int .i64 0))), (9, .d .nil), (10, .d .nil)] σ := by
  have e1 := dosR_len l
  have hll := hlight.len
  refine w_adoptF 9 36 4 rfl ?_
  intro locO σ hc
  have hO := hc.at'
  have nHO := hc.ne hH
  replace hH := hc.keep hH
  clear hc
  refine w_adoptF 10 66 4 rfl ?_
  intro locA σ hc
  have hA := hc.at'
  have nHA := hc.ne hH
  have nOA := hc.ne hO
  replace hH := hc.keep hH
  replace hO := hc.keep hO
  clear hc
  cases hX
  repeat' (first
      | refine s_op rfl ?_ | (apply s_skipV; (iterate 2 (exact rfl))) | (apply s_skipU; (iterate 3 (exact rfl))) | (apply s_move; (iterate 4 (exact rfl))) | (apply s_fa_p tab_ok; (iterate 5 (exact rfl)))
      | (apply s_fa_f tab_ok; (iterate 6 (exact rfl))) | (apply s_ld_p tab_ok; (iterate 7 (exact rfl))) | (apply s_ld_f tab_ok; (iterate 6 (exact rfl))) | (apply s_ld_w tab_ok; (iterate 5 (exact rfl)); (first | exact valD_len _ | exact wordD_len _)) | (apply s_assign; (iterate 4 (exact rfl)))
      | (apply s_pick_t; (iterate 5 (exact rfl))) | (apply s_pick_f; (iterate 5 (exact rfl))) | (apply s_len tab_ok; (iterate 5 (exact rfl))) | (apply s_lens str_ok; (iterate 4 (exact rfl))) | (apply s_idx tab_ok; (iterate 7 (exact rfl)); (first | exact valR_get (by assumption) | exact wordsR_get (by assumption) | assumption))
      | (apply s_slice tab_ok; (iterate 8 (exact rfl)); (simp; omega)) | (apply s_ext; (iterate 5 (exact rfl))) | (apply s_build tabZ_ok; (iterate 5 (exact rfl))) | (apply s_alloc tabZ_ok; (iterate 7 (exact rfl))) | (apply s_store tab_ok; (iterate 10 (exact rfl)))
      | (apply s_lit tab_ok tabZ_ok; (iterate 10 (exact rfl))) | (apply s_lit1 tab_ok tabZ_ok; (iterate 9 (exact rfl)); (first | exact valD_len _ | exact wordD_len _)) | (apply s_app tab_ok tabZ_ok; (iterate 13 (exact rfl)); (first | (simp; done) | (simp; omega))) | (apply s_not_t; (iterate 4 (exact rfl))) | (apply s_not_f; (iterate 4 (exact rfl)))
      | (apply s_not; (iterate 4 (exact rfl))) | (apply s_eql_t; (iterate 5 (exact rfl)); omega) | (apply s_eql_f; (iterate 5 (exact rfl)); omega) | (apply s_neq_t; (iterate 5 (exact rfl)); omega) | (apply s_neq_f; (iterate 5 (exact rfl)); omega)
      | (apply s_lss_t; (iterate 5 (exact rfl)); omega) | (apply s_lss_f; (iterate 5 (exact rfl)); omega) | (apply s_gtr_t; (iterate 5 (exact rfl)); omega) | (apply s_gtr_f; (iterate 5 (exact rfl)); omega) | (apply s_add64; (iterate 5 (exact rfl)); omega)
      | (apply s_sub64; (iterate 5 (exact rfl)); omega)
      | refine al_nil ?_ | refine q_then_n ?_ | refine q_blk_n ?_ | refine q_blk_r ?_ | refine q_blk_e ?_
      | refine q_blk_o rfl ?_ | refine q_then_e ?_ | refine aw_block ?_ | refine aw_exit ?_ | refine q_then_r ?_
      | refine aw_seq ?_ | refine aw_reg ?_ | refine aw_true rfl ?_ | refine aw_false rfl ?_ | refine aw_skip ?_
      | refine aw_ret ?_ | refine al_fork ?_ ?_ | refine al_fork3 ?_ ?_ ?_
      | refine aw_draws (id := 23) (trO [0, 1, 4, 5] (.fork 2 (.fork 3 (trO [6, 7, 8, 9, 10] .nil) 6 (.fork 3 (trO [7, 8, 9, 10] .nil) 7 (trO [3, 8, 9, 10] .nil))) 6 (.fork 2 (.fork 3 (trO [7, 8, 9, 10] .nil) 7 (trO [3, 8, 9, 10] .nil)) 7 (trO [2, 3, 8, 9, 10] .nil)))) [2, 3, 6, 7, 8] [3, 8] mixed_ok (by kernel_rfl) ?_
      | refine aw_draws (id := 29) (trO [0, 1, 4, 5, 6, 7] (.fork 2 (.fork 3 (trO [8, 9, 10, 11, 12] .nil) 8 (.fork 3 (trO [9, 10, 11, 12] .nil) 9 (trO [3, 10, 11, 12] .nil))) 8 (.fork 2 (.fork 3 (trO [9, 10, 11, 12] .nil) 9 (trO [3, 10, 11, 12] .nil)) 9 (trO [2, 3, 10, 11, 12] .nil)))) [2, 3, 8, 9, 10] [3, 10] mixed_ok (by kernel_rfl) ?_
      | refine aw_draws (id := 36) (trO [0, 1, 2, 3, 4, 5, 6, 7, 9, 10, 11, 12, 13, 14, 15, 16, 8, 17, 18, 19] .nil) [8, 17] [8, 17] mixed_ok (by kernel_rfl) ?_
      | refine aw_draws (id := 42) (trO [0, 1, 2, 3, 4, 5, 6, 7, 8, 9, 10] .nil) [8] [] mixed_ok (by kernel_rfl) ?_)
  refine w_loop [1, 5, 7, 8, 9, 10, 41, 42, 43] (fun n' vs' σ => ∃ j : Nat, TI l r locH locO locA j vs' σ ∧ n' = l.length - j) rfl ⟨0, ⟨0, 0, 0, 0, .new r, [], [], rfl, hH, hO, hA, tinv_new hr0 hr1, by omega, by omega, rfl, rfl, by omega, by omega⟩, rfl⟩ ?_
  clear hH hO hA
  rintro n' vs' σ ⟨j, ⟨vO, vA, m, B, H, own, has, rfl, hH, hO, hA, t, hB0, hB1, hmo, hmh, hmj, hj⟩, rfl⟩ fr hfr
  cases hfr
  have hlv := live_m H
  have hts := t.slots
  by_cases hlt : j < l.length
  · obtain ⟨x, hx⟩ := getS hlt
    have hxl := (hlow x (List.mem_of_getElem? hx)).v
    have hxm := (hlight.all x (List.mem_of_getElem? hx)).1
    have hr := dosR_get hx
    refine AWk.mono (Q := TQ l r locH locO locA (j + 1)) ?_ (fun e fr' σ' h => by
      obtain ⟨h1, vs', h2, h3⟩ := h
      subst h1
      exact ⟨_, vs', h2, by omega, j + 1, h3, rfl⟩)
    obtain ⟨xk, xn, ⟨ck, cn, cw⟩, ⟨vk, vn, vs, vl⟩, ⟨wk, wn, ws, wg⟩, raw⟩ := x
    replace hxl : Val.low (.mk vk vn vs vl) := hxl
    replace hxm : massV (.mk vk vn vs vl) ≤ 4000 := hxm
    by_cases h0 : m = 0
    · by_cases hk : xk = 1
      · subst hk
        obtain ⟨b1, b2, _⟩ := t.build hB0 hxl hxm
        have m1 := build_m hxl (by omega) t.ok hB0
        generalize buildM H (.mk vk vn vs vl) = M at *
        obtain ⟨⟨⟨qk, qn, qs, qg⟩, e⟩, H2⟩ := M
        by_cases he : e = 0
        · subst he
          exact round_bok0 (xk := 0) nHO nHA nOA hll hlt hH hO hA hB0 hB1 hmo hmh hmj hr hlv h0 (b1 rfl) m1 rfl
        · obtain ⟨z1, z2⟩ := b2 he
          injection z1 with z3 z4 z5 z6
          replace z2 : H2 = H := z2
          subst z3 z4 z5 z6 z2
          exact round_bno0 (xk := 0) nHO nHA nOA hll hlt hH hO hA hB0 hB1 hmo hmh hmj hr hlv t h0 he m1 rfl
      · exact round_none nHO nHA nOA hll hlt hH hO hA hB0 hB1 hmo hmh hmj hr hlv t h0 hk rfl
    · have h0 : 0 < m := by omega
      obtain ⟨i, a, ha, ha1, ha2, hi, hil⟩ := idx_ok xn h0
      obtain ⟨w, hw⟩ := getS (show i < own.length by omega)
      obtain ⟨v, hv⟩ := getS (show i < has.length by omega)
      by_cases hk : xk = 1
      · subst hk
        obtain ⟨b1, b2, _⟩ := t.build hB0 hxl hxm
        have m1 := build_m hxl (by omega) t.ok hB0
        generalize buildM H (.mk vk vn vs vl) = M at *
        obtain ⟨⟨⟨qk, qn, qs, qg⟩, e⟩, H2⟩ := M
        by_cases he : e = 0
        · subst he
          exact round_bok (xk := 0) nHO nHA nOA hll hlt hH hO hA hB0 hB1 hmo hmh hmj hr hlv h0 ha ha1 ha2 hi hil (b1 rfl) m1 rfl
        · obtain ⟨z1, z2⟩ := b2 he
          injection z1 with z3 z4 z5 z6
          replace z2 : H2 = H := z2
          subst z3 z4 z5 z6 z2
          exact round_bno (xk := 0) nHO nHA nOA hll hlt hH hO hA hB0 hB1 hmo hmh hmj hr hlv t h0 ha ha1 ha2 hi hil he m1 rfl
      by_cases hk2 : xk = 2
      · subst hk2
        obtain ⟨b1, b2, come, fl, b3⟩ := t.copy hB0 hv hw
        obtain ⟨q1, q2, q3⟩ := t.vals v (List.mem_of_getElem? hv)
        have m1 := copy_m (w := w) (f := 1000000) t.ok hB0 t.live (by omega) (fun u c2 f2 hu => by
          rw [b3] at hu
          injection hu with hu
          subst hu
          exact ⟨Val.low_kok _ q2, by omega⟩)
        clear b3
        generalize copyM H 1000000 w = M at *
        obtain ⟨⟨⟨yk, yn, ys, yg⟩, e⟩, H2⟩ := M
        obtain ⟨qk, qn, qs, qg⟩ := w
        obtain ⟨pk, pn, ps, pl⟩ := v
        by_cases he : e = 0
        · subst he
          exact round_cok (xk := 0) nHO nHA nOA hll hlt hH hO hA hB0 hB1 hmo hmh hmj hr hlv h0 ha ha1 ha2 hi hil (wordsR_get hw) (valR_get hv) (b1 rfl) m1 rfl
        · obtain ⟨z2, z3⟩ := b2 he
          replace z2 : H2 = H := z2
          replace z3 : e = 7 ∨ e = 240 := z3
          subst z2
          rcases z3 with rfl | rfl
          · exact round_c7 (xk := 0) nHO nHA nOA hll hlt hH hO hA hB0 hB1 hmo hmh hmj hr hlv t h0 ha ha1 ha2 hi hil (wordsR_get hw) (valR_get hv) m1 rfl
          · exact round_c240 (xk := 0) nHO nHA nOA hll hlt hH hO hA hB0 hB1 hmo hmh hmj hr hlv t h0 ha ha1 ha2 hi hil (wordsR_get hw) (valR_get hv) m1 rfl
      by_cases hk3 : xk = 3
      · subst hk3
        obtain ⟨d1, d2, d3, d4, d5, d6⟩ := t.drop hv hw
        obtain ⟨q1, q2, q3⟩ := t.vals v (List.mem_of_getElem? hv)
        have hcm := cells_mass v
        have z1 := size_m (f := 1000000) t.ok t.live (by omega) w
        rw [d1] at z1
        have m1 := drop_m (w := w) (f := 1000000) t.ok t.live (by omega) (fun _ => ⟨by omega, d4⟩)
        rw [d2] at m1
        have h47 := cells_c47 v (by omega)
        have l2 := live_m (dropM H 1000000 w).2
        have hl0 := t.ok.live_eq
        have hl1 := live_len H
        have h2 : ((countLive H.slots : Nat) : Int) = H.live := hl0.symm
        generalize dropM H 1000000 w = M at *
        obtain ⟨qk, qn, qs, qg⟩ := w
        obtain ⟨pk, pn, ps, pl⟩ := v
        by_cases hl2 : i + 1 = m
        · exact round_dlast (xk := 0) nHO nHA nOA hll hlt hH hO hA hB0 hB1 hmo hmh hmj hr hlv h0 ha ha1 ha2 hi hil hl2 (wordsR_get hw) (valR_get hv) ⟨by omega, by omega⟩ ⟨by omega, by omega⟩ d6 (by omega) d5 z1 h47 m1 l2 rfl
        · exact round_dmid (xk := 0) nHO nHA nOA hll hlt hH hO hA hB0 hB1 hmo hmh hmj hr hlv h0 ha ha1 ha2 hi hil (by omega) (wordsR_get hw) (valR_get hv) ⟨by omega, by omega⟩ ⟨by omega, by omega⟩ d6 (by omega) d5 z1 h47 m1 l2 rfl
      exact round_else nHO nHA nOA hll hlt hH hO hA hB0 hB1 hmo hmh hmj hr hlv t h0 hk hk2 hk3 ha ha1 ha2 hi hil rfl
  · have hre := reach_m (f := 1000000) t.ok t.live (by omega) own (by omega)
    rw [t.reach (by omega)] at hre
    have hvv : ∀ (i : Nat) (w : AWord) (v : Val), own[i]? = some w → has[i]? = some v → See2 49 [.d (.agg (wordD w))] H (.tup [.agg (valD v), .v (.int .i64 0)]) := fun i w v hw hv => by
      have h := value_m (f := 1000000) t.ok t.live (by omega) w
      rw [t.value hv hw] at h
      exact h
    have hss : ∀ v ∈ has, RunsP Try.prog 51 [.agg (valD v), .agg (valD v)] (fun v => v = .v (.bool true)) := fun v hv => same_c51 v (t.vals v hv).2.1
    repeat' (first
      | refine s_op rfl ?_ | (apply s_skipV; (iterate 2 (exact rfl))) | (apply s_skipU; (iterate 3 (exact rfl))) | (apply s_move; (iterate 4 (exact rfl))) | (apply s_fa_p tab_ok; (iterate 5 (exact rfl)))
      | (apply s_fa_f tab_ok; (iterate 6 (exact rfl))) | (apply s_ld_p tab_ok; (iterate 7 (exact rfl))) | (apply s_ld_f tab_ok; (iterate 6 (exact rfl))) | (apply s_ld_w tab_ok; (iterate 5 (exact rfl)); (first | exact valD_len _ | exact wordD_len _)) | (apply s_assign; (iterate 4 (exact rfl)))
      | (apply s_pick_t; (iterate 5 (exact rfl))) | (apply s_pick_f; (iterate 5 (exact rfl))) | (apply s_len tab_ok; (iterate 5 (exact rfl))) | (apply s_lens str_ok; (iterate 4 (exact rfl))) | (apply s_idx tab_ok; (iterate 7 (exact rfl)); (first | exact valR_get (by assumption) | exact wordsR_get (by assumption) | assumption))
      | (apply s_slice tab_ok; (iterate 8 (exact rfl)); (simp; omega)) | (apply s_ext; (iterate 5 (exact rfl))) | (apply s_build tabZ_ok; (iterate 5 (exact rfl))) | (apply s_alloc tabZ_ok; (iterate 7 (exact rfl))) | (apply s_store tab_ok; (iterate 10 (exact rfl)))
      | (apply s_lit tab_ok tabZ_ok; (iterate 10 (exact rfl))) | (apply s_lit1 tab_ok tabZ_ok; (iterate 9 (exact rfl)); (first | exact valD_len _ | exact wordD_len _)) | (apply s_app tab_ok tabZ_ok; (iterate 13 (exact rfl)); (first | (simp; done) | (simp; omega))) | (apply s_not_t; (iterate 4 (exact rfl))) | (apply s_not_f; (iterate 4 (exact rfl)))
      | (apply s_not; (iterate 4 (exact rfl))) | (apply s_eql_t; (iterate 5 (exact rfl)); omega) | (apply s_eql_f; (iterate 5 (exact rfl)); omega) | (apply s_neq_t; (iterate 5 (exact rfl)); omega) | (apply s_neq_f; (iterate 5 (exact rfl)); omega)
      | (apply s_lss_t; (iterate 5 (exact rfl)); omega) | (apply s_lss_f; (iterate 5 (exact rfl)); omega) | (apply s_gtr_t; (iterate 5 (exact rfl)); omega) | (apply s_gtr_f; (iterate 5 (exact rfl)); omega) | (apply s_add64; (iterate 5 (exact rfl)); omega)
      | (apply s_sub64; (iterate 5 (exact rfl)); omega)
      | (refine w_keep [5, 7, 8, 9, 10] rfl rfl ?_; exact trees_tail nHO nHA nOA hmo hmh (by omega) hvv hss hre hlv hH hO hA rfl)
      | refine al_nil ?_ | refine q_then_n ?_ | refine q_blk_n ?_ | refine q_blk_r ?_ | refine q_blk_e ?_
      | refine q_blk_o rfl ?_ | refine q_then_e ?_ | refine aw_block ?_ | refine aw_exit ?_ | refine q_then_r ?_
      | refine aw_seq ?_ | refine aw_reg ?_ | refine aw_true rfl ?_ | refine aw_false rfl ?_ | refine aw_skip ?_
      | refine aw_ret ?_ | refine al_fork ?_ ?_ | refine al_fork3 ?_ ?_ ?_
      | refine aw_draws (id := 23) (trO [0, 1, 4, 5] (.fork 2 (.fork 3 (trO [6, 7, 8, 9, 10] .nil) 6 (.fork 3 (trO [7, 8, 9, 10] .nil) 7 (trO [3, 8, 9, 10] .nil))) 6 (.fork 2 (.fork 3 (trO [7, 8, 9, 10] .nil) 7 (trO [3, 8, 9, 10] .nil)) 7 (trO [2, 3, 8, 9, 10] .nil)))) [2, 3, 6, 7, 8] [3, 8] mixed_ok (by kernel_rfl) ?_
      | refine aw_draws (id := 29) (trO [0, 1, 4, 5, 6, 7] (.fork 2 (.fork 3 (trO [8, 9, 10, 11, 12] .nil) 8 (.fork 3 (trO [9, 10, 11, 12] .nil) 9 (trO [3, 10, 11, 12] .nil))) 8 (.fork 2 (.fork 3 (trO [9, 10, 11, 12] .nil) 9 (trO [3, 10, 11, 12] .nil)) 9 (trO [2, 3, 10, 11, 12] .nil)))) [2, 3, 8, 9, 10] [3, 10] mixed_ok (by kernel_rfl) ?_
      | refine aw_draws (id := 36) (trO [0, 1, 2, 3, 4, 5, 6, 7, 9, 10, 11, 12, 13, 14, 15, 16, 8, 17, 18, 19] .nil) [8, 17] [8, 17] mixed_ok (by kernel_rfl) ?_
      | refine aw_draws (id := 42) (trO [0, 1, 2, 3, 4, 5, 6, 7, 8, 9, 10] .nil) [8] [] mixed_ok (by kernel_rfl) ?_)
end
end Go.Proofs.Ytciciaikajdenaa
