/- C27: the document's Witness. -/
import Derived.Test.YtjflembhgjcgkaaXC14C15
import Derived.Test.YtjflembhgjcgkaaC8
set_option linter.unusedSimpArgs false
set_option linter.unusedVariables false
-- ALLUNDEF -- BOXZ
-- DEF LIT0: (apply s_lit0 tab_ok tabZ_ok; (iterate 7 (exact rfl)))
-- DEF ADO: (refine o_adoptF 14 41 8 rfl ?_; intro loc σ hc)
-- DEF AP1: (apply s_appF tab_ok tabZ_ok (rows2 := patR l) (rows3 := patR l) (m := (patR l).length); (iterate 10 (exact rfl)); exact hc.at'; exact src_of (Tab.slIs tab_ok (t := 26) rfl) (rows_d rfl); exact List.nil_append _; (simp; omega); intro σ hc2; have hc3 := fresh_chg hc hc2; clear hc hc2)
-- DEF AP2: (apply s_appF tab_ok tabZ_ok (rows2 := [patD (.mk wk wn wi ws wa wb wc wl)]) (rows3 := patR l ++ [patD (.mk wk wn wi ws wa wb wc wl)]) (m := (patR l).length + 1); (iterate 10 (exact rfl)); exact hc3.at'; exact src_of (Tab.slIs tab_ok (t := 26) rfl) (rows_d rfl); exact rfl; (refine ⟨rfl, ?_, rfl⟩; simp only [List.length_cons, List.length_nil]; omega); intro σ hc4; have hc5 := fresh_chg hc3 hc4; clear hc3 hc4)
-- DEF FRZ: (refine o_freezeF 19 rfl hc5.at' (by simp) ?_; intro σ hc6)
namespace Go.Proofs.Ytjflembhgjcgkaa
open Go.RowKit

def witB (g : Sg) (l : List Pat) (w : Pat) : Bool := (!namedB w && togB g (l ++ [w])) && l.all (fun p => apartB p w)
def okW (b : Bool) (A : Pat → Bool) (l : List Pat) (k : Nat) : Bool := b && (l.take k).all A
theorem all_next {α : Type} {f : α → Bool} {l : List α} {k : Nat} {x : α} (h : l[k]? = some x) : (l.take (k + 1)).all f = ((l.take k).all f && f x) := by
  rw [List.take_add_one, h]; simp

theorem okW_next (b : Bool) {A : Pat → Bool} {l : List Pat} {k : Nat} {x : Pat} (h : l[k]? = some x) : okW b A l (k + 1) = (okW b A l k && A x) := by
  unfold okW
  rw [all_next h, Bool.and_assoc]
theorem okW_0 (b : Bool) (A : Pat → Bool) (l : List Pat) : okW b A l 0 = b := by simp [okW]
section
variable {P : Program} {nt : Nat} {Q : Exit → Fr → List AObj → Prop} {fr : Fr} {σ : List AObj}
/-- Between two parts of a code: what is kept. -/
def midQ (M : Fr → List AObj → Prop) : Exit → Fr → List AObj → Prop := fun e fr σ => e = .normal ∧ M fr σ
theorem w_mid {c d : Code} (M : Fr → List AObj → Prop) (h1 : AWk P nt c (midQ M) fr σ) (h2 : ∀ fr σ, M fr σ → AWk P nt d Q fr σ) : AWk P nt (.seq c d) Q fr σ :=
  aw_seq (h1.mono fun e fr σ ⟨he, hm⟩ => by subst he; exact h2 fr σ hm)
theorem w_mid2 {a b c : Code} (M : Fr → List AObj → Prop) (h1 : AWk P nt a (thenQ (AWk P nt b (midQ M)) (midQ M)) fr σ) (h2 : ∀ fr σ, M fr σ → AWk P nt c Q fr σ) : AWk P nt (.seq a (.seq b c)) Q fr σ :=
  aw_seq (h1.mono fun e fr σ h => by
    cases e <;> first | exact w_mid M h h2 | (have h' : _ ∧ _ := h; cases h'.1))
theorem midQ_here {M : Fr → List AObj → Prop} (h : M fr σ) : midQ M .normal fr σ := ⟨rfl, h⟩
end

set_option maxRecDepth 100000 in
set_option maxHeartbeats 4000000 in
theorem witness_c {g : Sg} (hs : g.Small) {m : Nat} (hm : m ≤ 1000000000) {l : List Pat} {w : Pat} (hl : SmallP m (l ++ [w])) : RunsP Try.prog 27 [.agg (sigD g), patsD l, .agg (patD w)] (fun v => v = .v (.bool (witB g l w))) := by
  have hw : w.small m := hl.each w (by simp)
  have hll : l.length + 1 ≤ m := by have := hl.len; simpa using this
  have h1 := rnamed_c m hm w hw
  have h2 := rtog_c g hs m hm (l ++ [w]) hl
  have e1 := patR_len l
  have h3 : ∀ p ∈ l, RunsP Try.prog 35 [.agg (patD p), .agg (patD w)] (fun r => r = .v (.bool (apartB p w))) := fun p hp => rapart_c m (by omega) p (hl.each p (by simp [hp])) w hw
  unfold witB
  generalize hA : (fun p => apartB p w) = A
  replace h3 : ∀ p ∈ l, RunsP Try.prog 35 [.agg (patD p), .agg (patD w)] (fun r => r = .v (.bool (A p))) := fun p hp => by rw [← hA]; exact h3 p hp
  clear hA
  unfold patsD at h2
  rw [patR_append] at h2
  generalize togB g (l ++ [w]) = b2 at h2
  generalize namedB w = b1 at h1
  clear hl hw
  obtain ⟨wk, wn, wi, ws, wa, wb, wc, wl⟩ := w
  refine enterPB 38 tab_ok Try.func27 rfl (by kernel_rfl) rfl rfl rfl ?_
  refine w_mid2 (fun fr _ => getO [1, 5, 7] fr = some [.d (patsD l), .d (.fptr (patD (.mk wk wn wi ws wa wb wc wl))), .d (.v (.bool (!b1 && b2)))]) ?_ ?_
  · cases b1
    · repeat' (first | refine s_op rfl ?_ | (apply s_move; (iterate 4 (exact rfl))) | (apply s_ld_f tab_ok; (iterate 6 (exact rfl))) | (apply s_assign; (iterate 4 (exact rfl))) | (apply s_pick_t; (iterate 5 (exact rfl))) | (apply s_boxZ; (iterate 5 (exact rfl)); first | exact rfl | exact allD_mapd _) | (apply s_not_f; (iterate 4 (exact rfl))) | (apply s_lit0 tab_ok tabZ_ok; (iterate 7 (exact rfl))) | (apply s_lit tab_ok tabZ_ok; (iterate 10 (exact rfl))) | (refine o_adoptF 14 41 8 rfl ?_; intro loc σ hc) | (apply s_appF tab_ok tabZ_ok (rows2 := patR l) (rows3 := patR l) (m := (patR l).length); (iterate 10 (exact rfl)); exact hc.at'; exact src_of (Tab.slIs tab_ok (t := 26) rfl) (rows_d rfl); exact List.nil_append _; (simp; omega); intro σ hc2; have hc3 := fresh_chg hc hc2; clear hc hc2) | (apply s_appF tab_ok tabZ_ok (rows2 := [patD (.mk wk wn wi ws wa wb wc wl)]) (rows3 := patR l ++ [patD (.mk wk wn wi ws wa wb wc wl)]) (m := (patR l).length + 1); (iterate 10 (exact rfl)); exact hc3.at'; exact src_of (Tab.slIs tab_ok (t := 26) rfl) (rows_d rfl); exact rfl; (refine ⟨rfl, ?_, rfl⟩; simp only [List.length_cons, List.length_nil]; omega); intro σ hc4; have hc5 := fresh_chg hc3 hc4; clear hc3 hc4) | (refine o_freezeF 19 rfl hc5.at' (by simp) ?_; intro σ hc6) | (apply s_call; (iterate 6 (exact rfl)); first | (exact h1; rintro _ rfl) | (exact h2; rintro _ rfl)) | refine al_nil ?_ | refine q_then_n ?_ | refine aw_reg ?_ | refine al_fork ?_ ?_ | refine al_fork3 ?_ ?_ ?_ | refine aw_draws (id := 1) (trO [0, 1, 2, 3, 6] (.fork3 4 (.fork 5 (.fork 7 (trO [8, 9, 10, 11, 12, 13] .nil) 8 (.fork 7 (trO [9, 10, 11, 12, 13] .nil) 9 (trO [7, 10, 11, 12, 13] .nil))) 8 (.fork 5 (.fork 7 (trO [9, 10, 11, 12, 13] .nil) 9 (trO [7, 10, 11, 12, 13] .nil)) 9 (trO [5, 7, 10, 11, 12, 13] .nil))) 5 (.fork3 4 (.fork 7 (trO [8, 9, 10, 11, 12, 13] .nil) 8 (.fork 7 (trO [9, 10, 11, 12, 13] .nil) 9 (trO [7, 10, 11, 12, 13] .nil))) 7 (.fork 4 (trO [8, 9, 10, 11, 12, 13] .nil) 8 (.fork 4 (trO [9, 10, 11, 12, 13] .nil) 9 (.fork 4 (trO [10, 11, 12, 13] .nil) 10 (trO [4, 11, 12, 13] .nil)))) 8 (.fork3 4 (.fork 7 (trO [9, 10, 11, 12, 13] .nil) 9 (trO [7, 10, 11, 12, 13] .nil)) 7 (.fork 4 (trO [9, 10, 11, 12, 13] .nil) 9 (.fork 4 (trO [10, 11, 12, 13] .nil) 10 (trO [4, 11, 12, 13] .nil))) 9 (.fork 4 (trO [7, 10, 11, 12, 13] .nil) 7 (.fork 4 (trO [10, 11, 12, 13] .nil) 10 (trO [4, 11, 12, 13] .nil))))) 8 (.fork3 4 (.fork 5 (.fork 7 (trO [9, 10, 11, 12, 13] .nil) 9 (trO [7, 10, 11, 12, 13] .nil)) 9 (trO [5, 7, 10, 11, 12, 13] .nil)) 5 (.fork3 4 (.fork 7 (trO [9, 10, 11, 12, 13] .nil) 9 (trO [7, 10, 11, 12, 13] .nil)) 7 (.fork 4 (trO [9, 10, 11, 12, 13] .nil) 9 (.fork 4 (trO [10, 11, 12, 13] .nil) 10 (trO [4, 11, 12, 13] .nil))) 9 (.fork 4 (trO [7, 10, 11, 12, 13] .nil) 7 (.fork 4 (trO [10, 11, 12, 13] .nil) 10 (trO [4, 11, 12, 13] .nil)))) 9 (.fork 4 (trO [5, 7, 10, 11, 12, 13] .nil) 5 (.fork 4 (trO [7, 10, 11, 12, 13] .nil) 7 (.fork 4 (trO [10, 11, 12, 13] .nil) 10 (trO [4, 11, 12, 13] .nil))))))) [1, 4, 5, 7, 8, 9, 10, 11] [7, 10] mixed_ok (by kernel_rfl) ?_)
      all_goals exact ⟨rfl, rfl⟩
    · repeat' (first | refine s_op rfl ?_ | (apply s_skipV; (iterate 2 (exact rfl))) | (apply s_move; (iterate 4 (exact rfl))) | (apply s_ld_f tab_ok; (iterate 6 (exact rfl))) | (apply s_assign; (iterate 4 (exact rfl))) | (apply s_pick_f; (iterate 5 (exact rfl))) | (apply s_boxZ; (iterate 5 (exact rfl)); first | exact rfl | exact allD_mapd _) | (apply s_not_t; (iterate 4 (exact rfl))) | (apply s_call; (iterate 6 (exact rfl)); first | (exact h1; rintro _ rfl) | (exact h2; rintro _ rfl)) | refine al_nil ?_ | refine q_then_n ?_ | refine aw_reg ?_ | refine al_fork ?_ ?_ | refine al_fork3 ?_ ?_ ?_ | refine aw_draws (id := 1) (trO [0, 1, 2, 3, 6] (.fork3 4 (.fork 5 (.fork 7 (trO [8, 9, 10, 11, 12, 13] .nil) 8 (.fork 7 (trO [9, 10, 11, 12, 13] .nil) 9 (trO [7, 10, 11, 12, 13] .nil))) 8 (.fork 5 (.fork 7 (trO [9, 10, 11, 12, 13] .nil) 9 (trO [7, 10, 11, 12, 13] .nil)) 9 (trO [5, 7, 10, 11, 12, 13] .nil))) 5 (.fork3 4 (.fork 7 (trO [8, 9, 10, 11, 12, 13] .nil) 8 (.fork 7 (trO [9, 10, 11, 12, 13] .nil) 9 (trO [7, 10, 11, 12, 13] .nil))) 7 (.fork 4 (trO [8, 9, 10, 11, 12, 13] .nil) 8 (.fork 4 (trO [9, 10, 11, 12, 13] .nil) 9 (.fork 4 (trO [10, 11, 12, 13] .nil) 10 (trO [4, 11, 12, 13] .nil)))) 8 (.fork3 4 (.fork 7 (trO [9, 10, 11, 12, 13] .nil) 9 (trO [7, 10, 11, 12, 13] .nil)) 7 (.fork 4 (trO [9, 10, 11, 12, 13] .nil) 9 (.fork 4 (trO [10, 11, 12, 13] .nil) 10 (trO [4, 11, 12, 13] .nil))) 9 (.fork 4 (trO [7, 10, 11, 12, 13] .nil) 7 (.fork 4 (trO [10, 11, 12, 13] .nil) 10 (trO [4, 11, 12, 13] .nil))))) 8 (.fork3 4 (.fork 5 (.fork 7 (trO [9, 10, 11, 12, 13] .nil) 9 (trO [7, 10, 11, 12, 13] .nil)) 9 (trO [5, 7, 10, 11, 12, 13] .nil)) 5 (.fork3 4 (.fork 7 (trO [9, 10, 11, 12, 13] .nil) 9 (trO [7, 10, 11, 12, 13] .nil)) 7 (.fork 4 (trO [9, 10, 11, 12, 13] .nil) 9 (.fork 4 (trO [10, 11, 12, 13] .nil) 10 (trO [4, 11, 12, 13] .nil))) 9 (.fork 4 (trO [7, 10, 11, 12, 13] .nil) 7 (.fork 4 (trO [10, 11, 12, 13] .nil) 10 (trO [4, 11, 12, 13] .nil)))) 9 (.fork 4 (trO [5, 7, 10, 11, 12, 13] .nil) 5 (.fork 4 (trO [7, 10, 11, 12, 13] .nil) 7 (.fork 4 (trO [10, 11, 12, 13] .nil) 10 (trO [4, 11, 12, 13] .nil))))))) [1, 4, 5, 7, 8, 9, 10, 11] [7, 10] mixed_ok (by kernel_rfl) ?_)
      all_goals exact ⟨rfl, rfl⟩
  generalize (!b1 && b2) = b3
  clear h1 h2
  intro fr σ hfr0
  refine w_keep [1, 5, 7] hfr0 rfl ?_
  repeat' (first | refine s_op rfl ?_ | (apply s_assign; (iterate 4 (exact rfl))) | refine al_nil ?_ | refine q_then_n ?_ | refine aw_block ?_ | refine aw_seq ?_ | refine aw_reg ?_)
  refine w_loop [1, 5, 7, 8] (fun n' vs σ => ∃ k : Nat, vs = [.d (patsD l), .d (.fptr (patD (.mk wk wn wi ws wa wb wc wl))), .d (.v (.bool (okW b3 A l k))), .d (.v (.int .i64 (k : Int)))] ∧ k ≤ l.length ∧ n' = l.length - k) rfl ⟨0, ?_, by omega, rfl⟩ ?_
  · rw [okW_0]; rfl
  rintro n' vs σ ⟨k, rfl, hk, rfl⟩ fr hfr
  cases hfr
  by_cases hlt : k < l.length
  · obtain ⟨q, hq⟩ := getS hlt
    have hr := h3 q (List.mem_of_getElem? hq)
    have hnx := okW_next b3 (A := A) hq
    obtain ⟨qk, qn, qi, qs, qa, qb, qc, ql⟩ := q
    cases hb : okW b3 A l k
    · repeat' (first | refine s_op rfl ?_ | (apply s_skipV; (iterate 2 (exact rfl))) | (apply s_move; (iterate 4 (exact rfl))) | (apply s_assign; (iterate 4 (exact rfl))) | (apply s_pick_f; (iterate 5 (exact rfl))) | (apply s_len tab_ok; (iterate 5 (exact rfl))) | (apply s_lss_t; (iterate 5 (exact rfl)); omega) | (apply s_add64; (iterate 5 (exact rfl)); omega) | refine al_nil ?_ | refine q_then_n ?_ | refine q_blk_n ?_ | refine aw_block ?_ | refine aw_seq ?_ | refine aw_reg ?_ | refine aw_true rfl ?_ | refine aw_skip ?_ | refine aw_draws (id := 5) (trO [0, 1, 2, 3, 4, 5, 6, 7, 8, 9] .nil) [7] [] mixed_ok (by kernel_rfl) ?_)
      all_goals exact ⟨_, _, rfl, by omega, k + 1, by rw [hnx, hb]; rfl, by omega, rfl⟩
    · repeat' (first | refine s_op rfl ?_ | (apply s_move; (iterate 4 (exact rfl))) | (apply s_ld_f tab_ok; (iterate 6 (exact rfl))) | (apply s_assign; (iterate 4 (exact rfl))) | (apply s_pick_t; (iterate 5 (exact rfl))) | (apply s_len tab_ok; (iterate 5 (exact rfl))) | (apply s_idx tab_ok; (iterate 7 (exact rfl)); (first | exact patR_get (by assumption) | exact valR_get (by assumption) | exact row_map (by assumption) | assumption)) | (apply s_lss_t; (iterate 5 (exact rfl)); omega) | (apply s_add64; (iterate 5 (exact rfl)); omega) | (apply s_call; (iterate 6 (exact rfl)); first | (exact hr; rintro _ rfl)) | refine al_nil ?_ | refine q_then_n ?_ | refine q_blk_n ?_ | refine aw_block ?_ | refine aw_seq ?_ | refine aw_reg ?_ | refine aw_true rfl ?_ | refine aw_skip ?_ | refine aw_draws (id := 5) (trO [0, 1, 2, 3, 4, 5, 6, 7, 8, 9] .nil) [7] [] mixed_ok (by kernel_rfl) ?_)
      all_goals exact ⟨_, _, rfl, by omega, k + 1, by rw [hnx, hb]; rfl, by omega, rfl⟩
  · repeat' (first | refine s_op rfl ?_ | (apply s_move; (iterate 4 (exact rfl))) | (apply s_assign; (iterate 4 (exact rfl))) | (apply s_len tab_ok; (iterate 5 (exact rfl))) | (apply s_lss_f; (iterate 5 (exact rfl)); omega) | refine al_nil ?_ | refine q_then_n ?_ | refine q_blk_e ?_ | refine q_then_e ?_ | refine aw_exit ?_ | refine aw_seq ?_ | refine aw_reg ?_ | refine aw_false rfl ?_ | refine aw_ret ?_)
    all_goals exact q_retB (resB_1 rfl (resV_t rfl)) ⟨_, rfl, by unfold okW; rw [List.take_of_length_le (by omega)]⟩
end Go.Proofs.Ytjflembhgjcgkaa
