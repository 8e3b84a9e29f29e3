/- C70: has, walk: the law's own helpers of TreeShape. -/
import Derived.Test.YtjflembhgjcgkaaTP11M29
import Derived.Test.YtjflembhgjcgkaaTP11C39x3
import Derived.Test.YtjflembhgjcgkaaTP11Af
set_option linter.unusedSimpArgs false
set_option linter.unusedVariables false
namespace Go.Proofs.Ytjflembhgjcgkaa
open Go.RowKit

def pathRow (p : List Int) : List DV := [intsD p]
def pathsD (l : List (List Int)) : DV := .lst 1 (l.map pathRow)
set_option maxRecDepth 100000 in
set_option maxHeartbeats 8000000 in
theorem has83_c (l : List (List Int)) (p : List Int) (hl : l.length ≤ 9223372036854775807) (hs : ∀ x ∈ l, x.length ≤ 9223372036854775807) (hp : p.length ≤ 9223372036854775807) : RunsP Try.prog 83 [pathsD l, intsD p] (fun v => v = .v (.bool (decide (p ∈ l)))) := by
  have e1 : (l.map pathRow).length = l.length := by simp
  refine enterPB 17 tab_ok Try.func83 rfl (by kernel_rfl) rfl rfl rfl ?_
  repeat' (first
      | refine s_op rfl ?_ | (apply s_move; (iterate 4 (exact rfl))) | (apply s_ld_p tab_ok; (iterate 7 (exact rfl))) | (apply s_ld_f tab_ok; (iterate 6 (exact rfl))) | (apply s_ld_w tab_ok; (iterate 5 (exact rfl)); (first | exact patD_len _ | exact valD_len _ | exact brD_len _ | exact treeD_len _))
      | (apply s_assign; (iterate 4 (exact rfl))) | (apply s_len tab_ok; (iterate 5 (exact rfl))) | (apply s_lens str_ok; (iterate 4 (exact rfl))) | (apply s_idx tab_ok; (iterate 7 (exact rfl)); (first | exact patR_get (by assumption) | exact valR_get (by assumption) | exact row_map (by assumption) | exact brR_get (by assumption) | exact treeR_get (by assumption) | assumption)) | (apply s_lss_t; (iterate 5 (exact rfl)); omega)
      | (apply s_lss_f; (iterate 5 (exact rfl)); omega) | (apply s_add64; (iterate 5 (exact rfl)); omega)
      | refine al_nil ?_ | refine q_then_n ?_ | refine q_blk_n ?_ | refine q_blk_r ?_ | refine q_blk_e ?_
      | refine q_blk_o rfl ?_ | refine q_then_e ?_ | refine aw_block ?_ | refine aw_exit ?_ | refine q_then_r ?_
      | refine aw_seq ?_ | refine aw_reg ?_ | refine aw_true rfl ?_ | refine aw_false rfl ?_ | refine aw_skip ?_
      | refine aw_ret ?_)
  refine w_loop [1, 7, 8, 9] (fun n vs σ => ∃ k : Nat, vs = [.d (intsD p), .d (pathsD l), .d (.v (.int .i64 ((l.map pathRow).length : Int))), .d (.v (.int .i64 (k : Int)))] ∧ k ≤ l.length ∧ n = l.length - k ∧ ∀ i, i < k → ∀ x, l[i]? = some x → x ≠ p) rfl ⟨0, rfl, by omega, rfl, fun i hi => absurd hi (Nat.not_lt_zero i)⟩ ?_
  rintro n vs σ ⟨k, rfl, hk, rfl, hno⟩ fr hfr
  cases hfr
  by_cases hlt : k < l.length
  · obtain ⟨x, hx⟩ := getS hlt
    have hsame := same20_c x p (hs x (List.mem_of_getElem? hx)) hp
    have hxr := row_map (f := pathRow) hx
    by_cases hxp : x = p
    · rw [decide_eq_true hxp] at hsame
      repeat' (first
      | refine s_op rfl ?_ | (apply s_move; (iterate 4 (exact rfl))) | (apply s_ld_p tab_ok; (iterate 7 (exact rfl))) | (apply s_ld_f tab_ok; (iterate 6 (exact rfl))) | (apply s_ld_w tab_ok; (iterate 5 (exact rfl)); (first | exact patD_len _ | exact valD_len _ | exact brD_len _ | exact treeD_len _))
      | (apply s_assign; (iterate 4 (exact rfl))) | (apply s_len tab_ok; (iterate 5 (exact rfl))) | (apply s_lens str_ok; (iterate 4 (exact rfl))) | (apply s_idx tab_ok; (iterate 7 (exact rfl)); (first | exact patR_get (by assumption) | exact valR_get (by assumption) | exact row_map (by assumption) | exact brR_get (by assumption) | exact treeR_get (by assumption) | assumption)) | (apply s_lss_t; (iterate 5 (exact rfl)); omega)
      | (apply s_lss_f; (iterate 5 (exact rfl)); omega) | (apply s_add64; (iterate 5 (exact rfl)); omega)
      | (apply s_idx tab_ok; (iterate 7 (exact rfl)); exact hxr)
      | (apply s_call; (iterate 6 (exact rfl)); first | (exact hsame; rintro _ rfl))
      | refine al_nil ?_ | refine q_then_n ?_ | refine q_blk_n ?_ | refine q_blk_r ?_ | refine q_blk_e ?_
      | refine q_blk_o rfl ?_ | refine q_then_e ?_ | refine aw_block ?_ | refine aw_exit ?_ | refine q_then_r ?_
      | refine aw_seq ?_ | refine aw_reg ?_ | refine aw_true rfl ?_ | refine aw_false rfl ?_ | refine aw_skip ?_
      | refine aw_ret ?_)
      all_goals exact q_retB (resB_1 rfl (resV_t rfl)) ⟨_, rfl, by rw [decide_eq_true (hxp ▸ List.mem_of_getElem? hx)]⟩
    · rw [decide_eq_false hxp] at hsame
      repeat' (first
      | refine s_op rfl ?_ | (apply s_move; (iterate 4 (exact rfl))) | (apply s_ld_p tab_ok; (iterate 7 (exact rfl))) | (apply s_ld_f tab_ok; (iterate 6 (exact rfl))) | (apply s_ld_w tab_ok; (iterate 5 (exact rfl)); (first | exact patD_len _ | exact valD_len _ | exact brD_len _ | exact treeD_len _))
      | (apply s_assign; (iterate 4 (exact rfl))) | (apply s_len tab_ok; (iterate 5 (exact rfl))) | (apply s_lens str_ok; (iterate 4 (exact rfl))) | (apply s_idx tab_ok; (iterate 7 (exact rfl)); (first | exact patR_get (by assumption) | exact valR_get (by assumption) | exact row_map (by assumption) | exact brR_get (by assumption) | exact treeR_get (by assumption) | assumption)) | (apply s_lss_t; (iterate 5 (exact rfl)); omega)
      | (apply s_lss_f; (iterate 5 (exact rfl)); omega) | (apply s_add64; (iterate 5 (exact rfl)); omega)
      | (apply s_idx tab_ok; (iterate 7 (exact rfl)); exact hxr)
      | (apply s_call; (iterate 6 (exact rfl)); first | (exact hsame; rintro _ rfl))
      | refine al_nil ?_ | refine q_then_n ?_ | refine q_blk_n ?_ | refine q_blk_r ?_ | refine q_blk_e ?_
      | refine q_blk_o rfl ?_ | refine q_then_e ?_ | refine aw_block ?_ | refine aw_exit ?_ | refine q_then_r ?_
      | refine aw_seq ?_ | refine aw_reg ?_ | refine aw_true rfl ?_ | refine aw_false rfl ?_ | refine aw_skip ?_
      | refine aw_ret ?_)
      all_goals exact ⟨_, _, rfl, by omega, k + 1, rfl, by omega, rfl, fun i hi y hy => by
        by_cases e : i = k
        · subst e; rw [hx] at hy; injection hy with hy; rw [← hy]; exact hxp
        · exact hno i (by omega) y hy⟩
  · have hnm : p ∉ l := fun h => by
      obtain ⟨i, hi⟩ := List.getElem?_of_mem h
      exact hno i (by have := (List.getElem?_eq_some_iff.1 hi).1; omega) p hi rfl
    repeat' (first
      | refine s_op rfl ?_ | (apply s_move; (iterate 4 (exact rfl))) | (apply s_ld_p tab_ok; (iterate 7 (exact rfl))) | (apply s_ld_f tab_ok; (iterate 6 (exact rfl))) | (apply s_ld_w tab_ok; (iterate 5 (exact rfl)); (first | exact patD_len _ | exact valD_len _ | exact brD_len _ | exact treeD_len _))
      | (apply s_assign; (iterate 4 (exact rfl))) | (apply s_len tab_ok; (iterate 5 (exact rfl))) | (apply s_lens str_ok; (iterate 4 (exact rfl))) | (apply s_idx tab_ok; (iterate 7 (exact rfl)); (first | exact patR_get (by assumption) | exact valR_get (by assumption) | exact row_map (by assumption) | exact brR_get (by assumption) | exact treeR_get (by assumption) | assumption)) | (apply s_lss_t; (iterate 5 (exact rfl)); omega)
      | (apply s_lss_f; (iterate 5 (exact rfl)); omega) | (apply s_add64; (iterate 5 (exact rfl)); omega)
      | refine al_nil ?_ | refine q_then_n ?_ | refine q_blk_n ?_ | refine q_blk_r ?_ | refine q_blk_e ?_
      | refine q_blk_o rfl ?_ | refine q_then_e ?_ | refine aw_block ?_ | refine aw_exit ?_ | refine q_then_r ?_
      | refine aw_seq ?_ | refine aw_reg ?_ | refine aw_true rfl ?_ | refine aw_false rfl ?_ | refine aw_skip ?_
      | refine aw_ret ?_)
    all_goals exact q_retB (resB_1 rfl (resV_t rfl)) ⟨_, rfl, by rw [decide_eq_false hnm]⟩

mutual
def htT : TreeT → Nat
  | .mk _ _ _ _ _ _ _ c e => 1 + (htL c + htL e)
def htL : List TreeT → Nat
  | [] => 0
  | t :: l => htT t + htL l
end
theorem htL_mem : ∀ {l : List TreeT} {t : TreeT}, t ∈ l → htT t ≤ htL l
  | [], t, h => by cases h
  | a :: l, t, h => by
    simp only [htL]
    rcases List.mem_cons.1 h with rfl | h
    · omega
    · have := htL_mem h; omega
theorem htL_len : ∀ l : List TreeT, l.length ≤ htL l
  | [] => Nat.le_refl _
  | .mk .. :: l => by have := htL_len l; simp only [htL, htT, List.length_cons]; omega
noncomputable def putsM (M : List (Int × AV)) (l : List Int) : List (Int × AV) := l.foldl (fun M n => putA n (AV.d (.v (.bool true))) M) M
theorem putsM_append (M : List (Int × AV)) (a b : List Int) : putsM M (a ++ b) = putsM (putsM M a) b := List.foldl_append
theorem armsL_append (a b : List TreeT) : armsL (a ++ b) = armsL a ++ armsL b := by
  induction a with
  | nil => rfl
  | cons x a ih => simp only [List.cons_append, armsL, ih, List.append_assoc]
theorem noneL_append (a b : List TreeT) : noneL (a ++ b) = (noneL a || noneL b) := by
  induction a with
  | nil => rfl
  | cons x a ih => simp only [List.cons_append, noneL, ih, Bool.or_assoc]
theorem downL_append (a b : List TreeT) (s : List (List Int)) : downL (a ++ b) s = (downL a s && downL b s) := by
  induction a with
  | nil => rfl
  | cons x a ih => simp only [List.cons_append, downL, ih, Bool.and_assoc]
theorem armP_ok : Try.prog.underlying 75 = some (.map 3 4) := by kernel_rfl
theorem armK : KeyLaw Try.prog 3 (Value.int .i64) := int_law (by kernel_rfl)

def headW : Code → Option Nat
  | .region i _ _ => some i
  | .seq a _ => headW a
  | _ => none
def findW (n : Nat) : Code → Option Code
  | .seq a b => if headW a = some n then some (.seq a b) else match findW n a with
    | some c => some c
    | none => findW n b
  | .block _ c => findW n c
  | .cond _ a b => match findW n a with
    | some c => some c
    | none => findW n b
  | .loop c => findW n c
  | _ => none

def WalkR (locM : Nat) (b1 b2 : Bool) (M' : List (Int × AV)) : AV → List AObj → Prop := fun v σ' => v = .d (.tup [.v (.bool b1), .v (.bool b2)]) ∧ σ'[locM]? = some (.map (entsV (Value.int .i64) M'))
section
variable {bk bn bi n : Int} {bs : ByteArray} {p : List Int} {c e : List TreeT} {seen : List (List Int)} {M : List (Int × AV)} {σ : List AObj} {locM : Nat}
set_option maxRecDepth 100000 in
set_option maxHeartbeats 8000000 in
theorem walk_arm (hM : σ[locM]? = some (.map (entsV (Value.int .i64) M))) : Runs Try.prog 45 [.d (.agg (treeD (.mk bk bn bi bs 2 n p c e))), .d (pathsD seen), .mp locM] σ (WalkR locM false true (putsM M [n])) := by
  refine enterB 106 tab_ok Try.func45 rfl (by kernel_rfl) rfl rfl rfl ?_
  repeat' (first
      | refine s_op rfl ?_ | (apply s_skipV; (iterate 2 (exact rfl))) | (apply s_skipU; (iterate 3 (exact rfl))) | (apply s_move; (iterate 4 (exact rfl))) | (apply s_fa_p tab_ok; (iterate 5 (exact rfl)))
      | (apply s_fa_f tab_ok; (iterate 6 (exact rfl))) | (apply s_ld_p tab_ok; (iterate 7 (exact rfl))) | (apply s_ld_f tab_ok; (iterate 6 (exact rfl))) | (apply s_ld_w tab_ok; (iterate 5 (exact rfl)); (first | exact patD_len _ | exact valD_len _ | exact brD_len _ | exact treeD_len _)) | (apply s_assign; (iterate 4 (exact rfl)))
      | (apply s_pick_t; (iterate 5 (exact rfl))) | (apply s_pick_f; (iterate 5 (exact rfl))) | (apply s_len tab_ok; (iterate 5 (exact rfl))) | (apply s_lens str_ok; (iterate 4 (exact rfl))) | (apply s_idx tab_ok; (iterate 7 (exact rfl)); (first | exact patR_get (by assumption) | exact valR_get (by assumption) | exact row_map (by assumption) | exact brR_get (by assumption) | exact treeR_get (by assumption) | assumption))
      | (apply s_slice tab_ok; (iterate 8 (exact rfl)); (simp; omega)) | (apply s_ext; (iterate 5 (exact rfl))) | (apply s_alloc tabZ_ok; (iterate 7 (exact rfl))) | (apply s_boxZ; (iterate 5 (exact rfl)); first | exact rfl | exact allD_mapd _) | (apply s_store tab_ok; (iterate 10 (exact rfl)))
      | (apply s_lit tab_ok tabZ_ok; (iterate 10 (exact rfl))) | (apply s_lit1 tab_ok tabZ_ok; (iterate 9 (exact rfl)); (first | exact patD_len _ | exact valD_len _ | exact brD_len _ | exact treeD_len _)) | (apply s_app tab_ok tabZ_ok; (iterate 13 (exact rfl)); (first | (simp; done) | (simp; omega))) | (apply s_not_t; (iterate 4 (exact rfl))) | (apply s_not_f; (iterate 4 (exact rfl)))
      | (apply s_not; (iterate 4 (exact rfl))) | (apply s_eql_t; (iterate 5 (exact rfl)); omega) | (apply s_eql_f; (iterate 5 (exact rfl)); omega) | (apply s_lss_t; (iterate 5 (exact rfl)); omega) | (apply s_lss_f; (iterate 5 (exact rfl)); omega)
      | (apply s_add64; (iterate 5 (exact rfl)); omega) | (apply s_sub64; (iterate 5 (exact rfl)); omega)
      | (apply s_mapUpdateF armK armP_ok n M (putsM M [n]); (iterate 4 (exact rfl)); exact hM; exact rfl; exact rfl; intro σ' hc)
      | refine al_nil ?_ | refine q_then_n ?_ | refine q_blk_n ?_ | refine q_blk_r ?_ | refine q_blk_e ?_
      | refine q_blk_o rfl ?_ | refine q_then_e ?_ | refine aw_block ?_ | refine aw_exit ?_ | refine q_then_r ?_
      | refine aw_seq ?_ | refine aw_reg ?_ | refine aw_true rfl ?_ | refine aw_false rfl ?_ | refine aw_skip ?_
      | refine aw_ret ?_ | refine al_fork ?_ ?_ | refine al_fork3 ?_ ?_ ?_
      | refine aw_draws (id := 8) (trO [1, 3] (.fork 0 (.fork 2 (trO [4, 5, 6, 7] .nil) 4 (.fork 2 (trO [5, 6, 7] .nil) 5 (trO [2, 6, 7] .nil))) 4 (.fork 0 (.fork 2 (trO [5, 6, 7] .nil) 5 (trO [2, 6, 7] .nil)) 5 (trO [0, 2, 6, 7] .nil)))) [0, 2, 4, 5, 6] [2, 6] mixed_ok (by kernel_rfl) ?_)
  all_goals exact q_retB (resB_2 rfl (resV_t rfl) (resV_t rfl) rfl) ⟨rfl, hc.at'⟩
set_option maxRecDepth 100000 in
set_option maxHeartbeats 8000000 in
theorem walk_none (hM : σ[locM]? = some (.map (entsV (Value.int .i64) M))) : Runs Try.prog 45 [.d (.agg (treeD (.mk bk bn bi bs 1 n p c e))), .d (pathsD seen), .mp locM] σ (WalkR locM true true M) := by
  refine enterB 106 tab_ok Try.func45 rfl (by kernel_rfl) rfl rfl rfl ?_
  repeat' (first
      | refine s_op rfl ?_ | (apply s_skipV; (iterate 2 (exact rfl))) | (apply s_skipU; (iterate 3 (exact rfl))) | (apply s_move; (iterate 4 (exact rfl))) | (apply s_fa_p tab_ok; (iterate 5 (exact rfl)))
      | (apply s_fa_f tab_ok; (iterate 6 (exact rfl))) | (apply s_ld_p tab_ok; (iterate 7 (exact rfl))) | (apply s_ld_f tab_ok; (iterate 6 (exact rfl))) | (apply s_ld_w tab_ok; (iterate 5 (exact rfl)); (first | exact patD_len _ | exact valD_len _ | exact brD_len _ | exact treeD_len _)) | (apply s_assign; (iterate 4 (exact rfl)))
      | (apply s_pick_t; (iterate 5 (exact rfl))) | (apply s_pick_f; (iterate 5 (exact rfl))) | (apply s_len tab_ok; (iterate 5 (exact rfl))) | (apply s_lens str_ok; (iterate 4 (exact rfl))) | (apply s_idx tab_ok; (iterate 7 (exact rfl)); (first | exact patR_get (by assumption) | exact valR_get (by assumption) | exact row_map (by assumption) | exact brR_get (by assumption) | exact treeR_get (by assumption) | assumption))
      | (apply s_slice tab_ok; (iterate 8 (exact rfl)); (simp; omega)) | (apply s_ext; (iterate 5 (exact rfl))) | (apply s_alloc tabZ_ok; (iterate 7 (exact rfl))) | (apply s_boxZ; (iterate 5 (exact rfl)); first | exact rfl | exact allD_mapd _) | (apply s_store tab_ok; (iterate 10 (exact rfl)))
      | (apply s_lit tab_ok tabZ_ok; (iterate 10 (exact rfl))) | (apply s_lit1 tab_ok tabZ_ok; (iterate 9 (exact rfl)); (first | exact patD_len _ | exact valD_len _ | exact brD_len _ | exact treeD_len _)) | (apply s_app tab_ok tabZ_ok; (iterate 13 (exact rfl)); (first | (simp; done) | (simp; omega))) | (apply s_not_t; (iterate 4 (exact rfl))) | (apply s_not_f; (iterate 4 (exact rfl)))
      | (apply s_not; (iterate 4 (exact rfl))) | (apply s_eql_t; (iterate 5 (exact rfl)); omega) | (apply s_eql_f; (iterate 5 (exact rfl)); omega) | (apply s_lss_t; (iterate 5 (exact rfl)); omega) | (apply s_lss_f; (iterate 5 (exact rfl)); omega)
      | (apply s_add64; (iterate 5 (exact rfl)); omega) | (apply s_sub64; (iterate 5 (exact rfl)); omega)
      | refine al_nil ?_ | refine q_then_n ?_ | refine q_blk_n ?_ | refine q_blk_r ?_ | refine q_blk_e ?_
      | refine q_blk_o rfl ?_ | refine q_then_e ?_ | refine aw_block ?_ | refine aw_exit ?_ | refine q_then_r ?_
      | refine aw_seq ?_ | refine aw_reg ?_ | refine aw_true rfl ?_ | refine aw_false rfl ?_ | refine aw_skip ?_
      | refine aw_ret ?_ | refine al_fork ?_ ?_ | refine al_fork3 ?_ ?_ ?_
      | refine aw_draws (id := 8) (trO [1, 3] (.fork 0 (.fork 2 (trO [4, 5, 6, 7] .nil) 4 (.fork 2 (trO [5, 6, 7] .nil) 5 (trO [2, 6, 7] .nil))) 4 (.fork 0 (.fork 2 (trO [5, 6, 7] .nil) 5 (trO [2, 6, 7] .nil)) 5 (trO [0, 2, 6, 7] .nil)))) [0, 2, 4, 5, 6] [2, 6] mixed_ok (by kernel_rfl) ?_)
  all_goals exact q_retB (resB_2 rfl (resV_t rfl) (resV_t rfl) rfl) ⟨rfl, hM⟩
noncomputable def w7 : Option Code := match Try.f45.body with
  | some c => findW 7 c
  | none => none
noncomputable def w8 : Option Code := match Try.f45.body with
  | some c => findW 8 c
  | none => none
set_option maxRecDepth 100000 in
set_option maxHeartbeats 8000000 in
theorem walk_step {k : Int} (hsl : seen.length ≤ 1000000000) (hpl : p.length ≤ 9223372036854775807) (hpn : p.length = 0 ↔ p = []) (h1 : RunsP Try.prog 83 [pathsD seen, intsD p.dropLast] (fun v => v = .v (.bool (decide (p.dropLast ∈ seen))))) (h2 : RunsP Try.prog 83 [pathsD seen, intsD p] (fun v => v = .v (.bool (decide (p ∈ seen)))))
    {Q : Exit → Fr → List AObj → Prop} (hnext : ∀ X : Code, w8 = some X → AWk Try.prog 106 X Q [(1, .d (pathsD seen)), (2, .mp locM), (3, .d (.fptr (treeD (.mk bk bn bi bs k n p c e)))), (6, .d (.v (.bool false))), (7, .d (.v (.bool (stepDn k p seen))))] σ) {X : Code} (hX : w7 = some X) :
    AWk Try.prog 106 X Q [(1, .d (pathsD seen)), (2, .mp locM), (3, .d (.fptr (treeD (.mk bk bn bi bs k n p c e)))), (6, .d (.v (.bool false))), (7, .d (.v (.bool false)))] σ := by
  have e1 : (seen.map pathRow).length = seen.length := by simp
  have e2 : (p.map intRow).length = p.length := by simp
  have hdl : (p.map intRow).take (p.length - 1) = (p.dropLast).map intRow := by rw [List.dropLast_eq_take, List.map_take]
  have hmx : (if (0 : Int) > ((p.map intRow).length : Int) - 1 then (0 : Int) else ((p.map intRow).length : Int) - 1).toNat = p.length - 1 := by split <;> omega
  cases hX
  by_cases hk : k = 3
  · subst hk
    by_cases ha : p.length = 0
    · by_cases hb : seen.length = 0
      · have hst : stepDn 3 p seen = true := by
          have hs : seen = [] := List.length_eq_zero_iff.1 hb
          unfold stepDn
          rw [decide_eq_true ha, decide_eq_true hb, hs]
          simp
        have hnm : decide (p ∈ seen) = false := by rw [List.length_eq_zero_iff.1 hb]; simp
        rw [hnm] at h2
        rw [hst] at hnext
        repeat' (first
      | refine s_op rfl ?_ | (apply s_skipV; (iterate 2 (exact rfl))) | (apply s_skipU; (iterate 3 (exact rfl))) | (apply s_move; (iterate 4 (exact rfl))) | (apply s_fa_p tab_ok; (iterate 5 (exact rfl)))
      | (apply s_fa_f tab_ok; (iterate 6 (exact rfl))) | (apply s_ld_p tab_ok; (iterate 7 (exact rfl))) | (apply s_ld_f tab_ok; (iterate 6 (exact rfl))) | (apply s_ld_w tab_ok; (iterate 5 (exact rfl)); (first | exact patD_len _ | exact valD_len _ | exact brD_len _ | exact treeD_len _)) | (apply s_assign; (iterate 4 (exact rfl)))
      | (apply s_pick_t; (iterate 5 (exact rfl))) | (apply s_pick_f; (iterate 5 (exact rfl))) | (apply s_len tab_ok; (iterate 5 (exact rfl))) | (apply s_lens str_ok; (iterate 4 (exact rfl))) | (apply s_idx tab_ok; (iterate 7 (exact rfl)); (first | exact patR_get (by assumption) | exact valR_get (by assumption) | exact row_map (by assumption) | exact brR_get (by assumption) | exact treeR_get (by assumption) | assumption))
      | (apply s_slice tab_ok; (iterate 8 (exact rfl)); (simp; omega)) | (apply s_ext; (iterate 5 (exact rfl))) | (apply s_alloc tabZ_ok; (iterate 7 (exact rfl))) | (apply s_boxZ; (iterate 5 (exact rfl)); first | exact rfl | exact allD_mapd _) | (apply s_store tab_ok; (iterate 10 (exact rfl)))
      | (apply s_lit tab_ok tabZ_ok; (iterate 10 (exact rfl))) | (apply s_lit1 tab_ok tabZ_ok; (iterate 9 (exact rfl)); (first | exact patD_len _ | exact valD_len _ | exact brD_len _ | exact treeD_len _)) | (apply s_app tab_ok tabZ_ok; (iterate 13 (exact rfl)); (first | (simp; done) | (simp; omega))) | (apply s_not_t; (iterate 4 (exact rfl))) | (apply s_not_f; (iterate 4 (exact rfl)))
      | (apply s_not; (iterate 4 (exact rfl))) | (apply s_eql_t; (iterate 5 (exact rfl)); omega) | (apply s_eql_f; (iterate 5 (exact rfl)); omega) | (apply s_lss_t; (iterate 5 (exact rfl)); omega) | (apply s_lss_f; (iterate 5 (exact rfl)); omega)
      | (apply s_add64; (iterate 5 (exact rfl)); omega) | (apply s_sub64; (iterate 5 (exact rfl)); omega)
      | (refine w_keep [1, 2, 3, 6, 7] rfl rfl ?_; exact hnext _ rfl)
      | (apply s_call; (iterate 6 (exact rfl)); first | (exact h2; rintro _ rfl))
      | refine al_nil ?_ | refine q_then_n ?_ | refine q_blk_n ?_ | refine q_blk_r ?_ | refine q_blk_e ?_
      | refine q_blk_o rfl ?_ | refine q_then_e ?_ | refine aw_block ?_ | refine aw_exit ?_ | refine q_then_r ?_
      | refine aw_seq ?_ | refine aw_reg ?_ | refine aw_true rfl ?_ | refine aw_false rfl ?_ | refine aw_skip ?_
      | refine aw_ret ?_ | refine al_fork ?_ ?_ | refine al_fork3 ?_ ?_ ?_
      | refine aw_draws (id := 8) (trO [1, 3] (.fork 0 (.fork 2 (trO [4, 5, 6, 7] .nil) 4 (.fork 2 (trO [5, 6, 7] .nil) 5 (trO [2, 6, 7] .nil))) 4 (.fork 0 (.fork 2 (trO [5, 6, 7] .nil) 5 (trO [2, 6, 7] .nil)) 5 (trO [0, 2, 6, 7] .nil)))) [0, 2, 4, 5, 6] [2, 6] mixed_ok (by kernel_rfl) ?_)
      ·
        cases hb1 : decide (p.dropLast ∈ seen) <;> rw [hb1] at h1
        · have hst : stepDn 3 p seen = false := by unfold stepDn; rw [hb1, decide_eq_false hb]; simp
          rw [hst] at hnext
          repeat' (first
      | refine s_op rfl ?_ | (apply s_skipV; (iterate 2 (exact rfl))) | (apply s_skipU; (iterate 3 (exact rfl))) | (apply s_move; (iterate 4 (exact rfl))) | (apply s_fa_p tab_ok; (iterate 5 (exact rfl)))
      | (apply s_fa_f tab_ok; (iterate 6 (exact rfl))) | (apply s_ld_p tab_ok; (iterate 7 (exact rfl))) | (apply s_ld_f tab_ok; (iterate 6 (exact rfl))) | (apply s_ld_w tab_ok; (iterate 5 (exact rfl)); (first | exact patD_len _ | exact valD_len _ | exact brD_len _ | exact treeD_len _)) | (apply s_assign; (iterate 4 (exact rfl)))
      | (apply s_pick_t; (iterate 5 (exact rfl))) | (apply s_pick_f; (iterate 5 (exact rfl))) | (apply s_len tab_ok; (iterate 5 (exact rfl))) | (apply s_lens str_ok; (iterate 4 (exact rfl))) | (apply s_idx tab_ok; (iterate 7 (exact rfl)); (first | exact patR_get (by assumption) | exact valR_get (by assumption) | exact row_map (by assumption) | exact brR_get (by assumption) | exact treeR_get (by assumption) | assumption))
      | (apply s_ext; (iterate 5 (exact rfl))) | (apply s_alloc tabZ_ok; (iterate 7 (exact rfl))) | (apply s_boxZ; (iterate 5 (exact rfl)); first | exact rfl | exact allD_mapd _) | (apply s_store tab_ok; (iterate 10 (exact rfl))) | (apply s_lit tab_ok tabZ_ok; (iterate 10 (exact rfl)))
      | (apply s_lit1 tab_ok tabZ_ok; (iterate 9 (exact rfl)); (first | exact patD_len _ | exact valD_len _ | exact brD_len _ | exact treeD_len _)) | (apply s_app tab_ok tabZ_ok; (iterate 13 (exact rfl)); (first | (simp; done) | (simp; omega))) | (apply s_not_t; (iterate 4 (exact rfl))) | (apply s_not_f; (iterate 4 (exact rfl))) | (apply s_not; (iterate 4 (exact rfl)))
      | (apply s_eql_t; (iterate 5 (exact rfl)); omega) | (apply s_eql_f; (iterate 5 (exact rfl)); omega) | (apply s_lss_t; (iterate 5 (exact rfl)); omega) | (apply s_lss_f; (iterate 5 (exact rfl)); omega) | (apply s_add64; (iterate 5 (exact rfl)); omega)
      | (apply s_sub64; (iterate 5 (exact rfl)); omega)
      | (refine w_keep [1, 2, 3, 6, 7] rfl rfl ?_; exact hnext _ rfl)
      | (apply s_max; (iterate 5 (exact rfl)))
      | (apply s_sliceE tab_ok (d := 47) (rows' := (p.dropLast).map intRow); (iterate 8 (exact rfl)); (refine ⟨by simp, ?_, ?_⟩ <;> (simp only [Option.getD_some, Option.getD_none] <;> split <;> omega)); (simp only [Option.getD_some, Option.getD_none]; rw [hmx]; simpa using hdl))
      | (apply s_call; (iterate 6 (exact rfl)); first | (exact h1; rintro _ rfl))
      | refine al_nil ?_ | refine q_then_n ?_ | refine q_blk_n ?_ | refine q_blk_r ?_ | refine q_blk_e ?_
      | refine q_blk_o rfl ?_ | refine q_then_e ?_ | refine aw_block ?_ | refine aw_exit ?_ | refine q_then_r ?_
      | refine aw_seq ?_ | refine aw_reg ?_ | refine aw_true rfl ?_ | refine aw_false rfl ?_ | refine aw_skip ?_
      | refine aw_ret ?_ | refine al_fork ?_ ?_ | refine al_fork3 ?_ ?_ ?_
      | refine aw_draws (id := 8) (trO [1, 3] (.fork 0 (.fork 2 (trO [4, 5, 6, 7] .nil) 4 (.fork 2 (trO [5, 6, 7] .nil) 5 (trO [2, 6, 7] .nil))) 4 (.fork 0 (.fork 2 (trO [5, 6, 7] .nil) 5 (trO [2, 6, 7] .nil)) 5 (trO [0, 2, 6, 7] .nil)))) [0, 2, 4, 5, 6] [2, 6] mixed_ok (by kernel_rfl) ?_)
        · cases hb2 : decide (p ∈ seen) <;> rw [hb2] at h2
          · have hst : stepDn 3 p seen = true := by unfold stepDn; rw [hb1, hb2]; simp
            rw [hst] at hnext
            repeat' (first
      | refine s_op rfl ?_ | (apply s_skipV; (iterate 2 (exact rfl))) | (apply s_skipU; (iterate 3 (exact rfl))) | (apply s_move; (iterate 4 (exact rfl))) | (apply s_fa_p tab_ok; (iterate 5 (exact rfl)))
      | (apply s_fa_f tab_ok; (iterate 6 (exact rfl))) | (apply s_ld_p tab_ok; (iterate 7 (exact rfl))) | (apply s_ld_f tab_ok; (iterate 6 (exact rfl))) | (apply s_ld_w tab_ok; (iterate 5 (exact rfl)); (first | exact patD_len _ | exact valD_len _ | exact brD_len _ | exact treeD_len _)) | (apply s_assign; (iterate 4 (exact rfl)))
      | (apply s_pick_t; (iterate 5 (exact rfl))) | (apply s_pick_f; (iterate 5 (exact rfl))) | (apply s_len tab_ok; (iterate 5 (exact rfl))) | (apply s_lens str_ok; (iterate 4 (exact rfl))) | (apply s_idx tab_ok; (iterate 7 (exact rfl)); (first | exact patR_get (by assumption) | exact valR_get (by assumption) | exact row_map (by assumption) | exact brR_get (by assumption) | exact treeR_get (by assumption) | assumption))
      | (apply s_ext; (iterate 5 (exact rfl))) | (apply s_alloc tabZ_ok; (iterate 7 (exact rfl))) | (apply s_boxZ; (iterate 5 (exact rfl)); first | exact rfl | exact allD_mapd _) | (apply s_store tab_ok; (iterate 10 (exact rfl))) | (apply s_lit tab_ok tabZ_ok; (iterate 10 (exact rfl)))
      | (apply s_lit1 tab_ok tabZ_ok; (iterate 9 (exact rfl)); (first | exact patD_len _ | exact valD_len _ | exact brD_len _ | exact treeD_len _)) | (apply s_app tab_ok tabZ_ok; (iterate 13 (exact rfl)); (first | (simp; done) | (simp; omega))) | (apply s_not_t; (iterate 4 (exact rfl))) | (apply s_not_f; (iterate 4 (exact rfl))) | (apply s_not; (iterate 4 (exact rfl)))
      | (apply s_eql_t; (iterate 5 (exact rfl)); omega) | (apply s_eql_f; (iterate 5 (exact rfl)); omega) | (apply s_lss_t; (iterate 5 (exact rfl)); omega) | (apply s_lss_f; (iterate 5 (exact rfl)); omega) | (apply s_add64; (iterate 5 (exact rfl)); omega)
      | (apply s_sub64; (iterate 5 (exact rfl)); omega)
      | (refine w_keep [1, 2, 3, 6, 7] rfl rfl ?_; exact hnext _ rfl)
      | (apply s_max; (iterate 5 (exact rfl)))
      | (apply s_sliceE tab_ok (d := 47) (rows' := (p.dropLast).map intRow); (iterate 8 (exact rfl)); (refine ⟨by simp, ?_, ?_⟩ <;> (simp only [Option.getD_some, Option.getD_none] <;> split <;> omega)); (simp only [Option.getD_some, Option.getD_none]; rw [hmx]; simpa using hdl))
      | (apply s_call; (iterate 6 (exact rfl)); first | (exact h1; rintro _ rfl) | (exact h2; rintro _ rfl))
      | refine al_nil ?_ | refine q_then_n ?_ | refine q_blk_n ?_ | refine q_blk_r ?_ | refine q_blk_e ?_
      | refine q_blk_o rfl ?_ | refine q_then_e ?_ | refine aw_block ?_ | refine aw_exit ?_ | refine q_then_r ?_
      | refine aw_seq ?_ | refine aw_reg ?_ | refine aw_true rfl ?_ | refine aw_false rfl ?_ | refine aw_skip ?_
      | refine aw_ret ?_ | refine al_fork ?_ ?_ | refine al_fork3 ?_ ?_ ?_
      | refine aw_draws (id := 8) (trO [1, 3] (.fork 0 (.fork 2 (trO [4, 5, 6, 7] .nil) 4 (.fork 2 (trO [5, 6, 7] .nil) 5 (trO [2, 6, 7] .nil))) 4 (.fork 0 (.fork 2 (trO [5, 6, 7] .nil) 5 (trO [2, 6, 7] .nil)) 5 (trO [0, 2, 6, 7] .nil)))) [0, 2, 4, 5, 6] [2, 6] mixed_ok (by kernel_rfl) ?_)
          · have hst : stepDn 3 p seen = false := by unfold stepDn; rw [hb1, hb2]; simp
            rw [hst] at hnext
            repeat' (first
      | refine s_op rfl ?_ | (apply s_skipV; (iterate 2 (exact rfl))) | (apply s_skipU; (iterate 3 (exact rfl))) | (apply s_move; (iterate 4 (exact rfl))) | (apply s_fa_p tab_ok; (iterate 5 (exact rfl)))
      | (apply s_fa_f tab_ok; (iterate 6 (exact rfl))) | (apply s_ld_p tab_ok; (iterate 7 (exact rfl))) | (apply s_ld_f tab_ok; (iterate 6 (exact rfl))) | (apply s_ld_w tab_ok; (iterate 5 (exact rfl)); (first | exact patD_len _ | exact valD_len _ | exact brD_len _ | exact treeD_len _)) | (apply s_assign; (iterate 4 (exact rfl)))
      | (apply s_pick_t; (iterate 5 (exact rfl))) | (apply s_pick_f; (iterate 5 (exact rfl))) | (apply s_len tab_ok; (iterate 5 (exact rfl))) | (apply s_lens str_ok; (iterate 4 (exact rfl))) | (apply s_idx tab_ok; (iterate 7 (exact rfl)); (first | exact patR_get (by assumption) | exact valR_get (by assumption) | exact row_map (by assumption) | exact brR_get (by assumption) | exact treeR_get (by assumption) | assumption))
      | (apply s_ext; (iterate 5 (exact rfl))) | (apply s_alloc tabZ_ok; (iterate 7 (exact rfl))) | (apply s_boxZ; (iterate 5 (exact rfl)); first | exact rfl | exact allD_mapd _) | (apply s_store tab_ok; (iterate 10 (exact rfl))) | (apply s_lit tab_ok tabZ_ok; (iterate 10 (exact rfl)))
      | (apply s_lit1 tab_ok tabZ_ok; (iterate 9 (exact rfl)); (first | exact patD_len _ | exact valD_len _ | exact brD_len _ | exact treeD_len _)) | (apply s_app tab_ok tabZ_ok; (iterate 13 (exact rfl)); (first | (simp; done) | (simp; omega))) | (apply s_not_t; (iterate 4 (exact rfl))) | (apply s_not_f; (iterate 4 (exact rfl))) | (apply s_not; (iterate 4 (exact rfl)))
      | (apply s_eql_t; (iterate 5 (exact rfl)); omega) | (apply s_eql_f; (iterate 5 (exact rfl)); omega) | (apply s_lss_t; (iterate 5 (exact rfl)); omega) | (apply s_lss_f; (iterate 5 (exact rfl)); omega) | (apply s_add64; (iterate 5 (exact rfl)); omega)
      | (apply s_sub64; (iterate 5 (exact rfl)); omega)
      | (refine w_keep [1, 2, 3, 6, 7] rfl rfl ?_; exact hnext _ rfl)
      | (apply s_max; (iterate 5 (exact rfl)))
      | (apply s_sliceE tab_ok (d := 47) (rows' := (p.dropLast).map intRow); (iterate 8 (exact rfl)); (refine ⟨by simp, ?_, ?_⟩ <;> (simp only [Option.getD_some, Option.getD_none] <;> split <;> omega)); (simp only [Option.getD_some, Option.getD_none]; rw [hmx]; simpa using hdl))
      | (apply s_call; (iterate 6 (exact rfl)); first | (exact h1; rintro _ rfl) | (exact h2; rintro _ rfl))
      | refine al_nil ?_ | refine q_then_n ?_ | refine q_blk_n ?_ | refine q_blk_r ?_ | refine q_blk_e ?_
      | refine q_blk_o rfl ?_ | refine q_then_e ?_ | refine aw_block ?_ | refine aw_exit ?_ | refine q_then_r ?_
      | refine aw_seq ?_ | refine aw_reg ?_ | refine aw_true rfl ?_ | refine aw_false rfl ?_ | refine aw_skip ?_
      | refine aw_ret ?_ | refine al_fork ?_ ?_ | refine al_fork3 ?_ ?_ ?_
      | refine aw_draws (id := 8) (trO [1, 3] (.fork 0 (.fork 2 (trO [4, 5, 6, 7] .nil) 4 (.fork 2 (trO [5, 6, 7] .nil) 5 (trO [2, 6, 7] .nil))) 4 (.fork 0 (.fork 2 (trO [5, 6, 7] .nil) 5 (trO [2, 6, 7] .nil)) 5 (trO [0, 2, 6, 7] .nil)))) [0, 2, 4, 5, 6] [2, 6] mixed_ok (by kernel_rfl) ?_)
    ·
      cases hb1 : decide (p.dropLast ∈ seen) <;> rw [hb1] at h1
      · have hst : stepDn 3 p seen = false := by unfold stepDn; rw [hb1, decide_eq_false ha]; simp
        rw [hst] at hnext
        repeat' (first
      | refine s_op rfl ?_ | (apply s_skipV; (iterate 2 (exact rfl))) | (apply s_skipU; (iterate 3 (exact rfl))) | (apply s_move; (iterate 4 (exact rfl))) | (apply s_fa_p tab_ok; (iterate 5 (exact rfl)))
      | (apply s_fa_f tab_ok; (iterate 6 (exact rfl))) | (apply s_ld_p tab_ok; (iterate 7 (exact rfl))) | (apply s_ld_f tab_ok; (iterate 6 (exact rfl))) | (apply s_ld_w tab_ok; (iterate 5 (exact rfl)); (first | exact patD_len _ | exact valD_len _ | exact brD_len _ | exact treeD_len _)) | (apply s_assign; (iterate 4 (exact rfl)))
      | (apply s_pick_t; (iterate 5 (exact rfl))) | (apply s_pick_f; (iterate 5 (exact rfl))) | (apply s_len tab_ok; (iterate 5 (exact rfl))) | (apply s_lens str_ok; (iterate 4 (exact rfl))) | (apply s_idx tab_ok; (iterate 7 (exact rfl)); (first | exact patR_get (by assumption) | exact valR_get (by assumption) | exact row_map (by assumption) | exact brR_get (by assumption) | exact treeR_get (by assumption) | assumption))
      | (apply s_ext; (iterate 5 (exact rfl))) | (apply s_alloc tabZ_ok; (iterate 7 (exact rfl))) | (apply s_boxZ; (iterate 5 (exact rfl)); first | exact rfl | exact allD_mapd _) | (apply s_store tab_ok; (iterate 10 (exact rfl))) | (apply s_lit tab_ok tabZ_ok; (iterate 10 (exact rfl)))
      | (apply s_lit1 tab_ok tabZ_ok; (iterate 9 (exact rfl)); (first | exact patD_len _ | exact valD_len _ | exact brD_len _ | exact treeD_len _)) | (apply s_app tab_ok tabZ_ok; (iterate 13 (exact rfl)); (first | (simp; done) | (simp; omega))) | (apply s_not_t; (iterate 4 (exact rfl))) | (apply s_not_f; (iterate 4 (exact rfl))) | (apply s_not; (iterate 4 (exact rfl)))
      | (apply s_eql_t; (iterate 5 (exact rfl)); omega) | (apply s_eql_f; (iterate 5 (exact rfl)); omega) | (apply s_lss_t; (iterate 5 (exact rfl)); omega) | (apply s_lss_f; (iterate 5 (exact rfl)); omega) | (apply s_add64; (iterate 5 (exact rfl)); omega)
      | (apply s_sub64; (iterate 5 (exact rfl)); omega)
      | (refine w_keep [1, 2, 3, 6, 7] rfl rfl ?_; exact hnext _ rfl)
      | (apply s_max; (iterate 5 (exact rfl)))
      | (apply s_sliceE tab_ok (d := 47) (rows' := (p.dropLast).map intRow); (iterate 8 (exact rfl)); (refine ⟨by simp, ?_, ?_⟩ <;> (simp only [Option.getD_some, Option.getD_none] <;> split <;> omega)); (simp only [Option.getD_some, Option.getD_none]; rw [hmx]; simpa using hdl))
      | (apply s_call; (iterate 6 (exact rfl)); first | (exact h1; rintro _ rfl))
      | refine al_nil ?_ | refine q_then_n ?_ | refine q_blk_n ?_ | refine q_blk_r ?_ | refine q_blk_e ?_
      | refine q_blk_o rfl ?_ | refine q_then_e ?_ | refine aw_block ?_ | refine aw_exit ?_ | refine q_then_r ?_
      | refine aw_seq ?_ | refine aw_reg ?_ | refine aw_true rfl ?_ | refine aw_false rfl ?_ | refine aw_skip ?_
      | refine aw_ret ?_ | refine al_fork ?_ ?_ | refine al_fork3 ?_ ?_ ?_
      | refine aw_draws (id := 8) (trO [1, 3] (.fork 0 (.fork 2 (trO [4, 5, 6, 7] .nil) 4 (.fork 2 (trO [5, 6, 7] .nil) 5 (trO [2, 6, 7] .nil))) 4 (.fork 0 (.fork 2 (trO [5, 6, 7] .nil) 5 (trO [2, 6, 7] .nil)) 5 (trO [0, 2, 6, 7] .nil)))) [0, 2, 4, 5, 6] [2, 6] mixed_ok (by kernel_rfl) ?_)
      · cases hb2 : decide (p ∈ seen) <;> rw [hb2] at h2
        · have hst : stepDn 3 p seen = true := by unfold stepDn; rw [hb1, hb2]; simp
          rw [hst] at hnext
          repeat' (first
      | refine s_op rfl ?_ | (apply s_skipV; (iterate 2 (exact rfl))) | (apply s_skipU; (iterate 3 (exact rfl))) | (apply s_move; (iterate 4 (exact rfl))) | (apply s_fa_p tab_ok; (iterate 5 (exact rfl)))
      | (apply s_fa_f tab_ok; (iterate 6 (exact rfl))) | (apply s_ld_p tab_ok; (iterate 7 (exact rfl))) | (apply s_ld_f tab_ok; (iterate 6 (exact rfl))) | (apply s_ld_w tab_ok; (iterate 5 (exact rfl)); (first | exact patD_len _ | exact valD_len _ | exact brD_len _ | exact treeD_len _)) | (apply s_assign; (iterate 4 (exact rfl)))
      | (apply s_pick_t; (iterate 5 (exact rfl))) | (apply s_pick_f; (iterate 5 (exact rfl))) | (apply s_len tab_ok; (iterate 5 (exact rfl))) | (apply s_lens str_ok; (iterate 4 (exact rfl))) | (apply s_idx tab_ok; (iterate 7 (exact rfl)); (first | exact patR_get (by assumption) | exact valR_get (by assumption) | exact row_map (by assumption) | exact brR_get (by assumption) | exact treeR_get (by assumption) | assumption))
      | (apply s_ext; (iterate 5 (exact rfl))) | (apply s_alloc tabZ_ok; (iterate 7 (exact rfl))) | (apply s_boxZ; (iterate 5 (exact rfl)); first | exact rfl | exact allD_mapd _) | (apply s_store tab_ok; (iterate 10 (exact rfl))) | (apply s_lit tab_ok tabZ_ok; (iterate 10 (exact rfl)))
      | (apply s_lit1 tab_ok tabZ_ok; (iterate 9 (exact rfl)); (first | exact patD_len _ | exact valD_len _ | exact brD_len _ | exact treeD_len _)) | (apply s_app tab_ok tabZ_ok; (iterate 13 (exact rfl)); (first | (simp; done) | (simp; omega))) | (apply s_not_t; (iterate 4 (exact rfl))) | (apply s_not_f; (iterate 4 (exact rfl))) | (apply s_not; (iterate 4 (exact rfl)))
      | (apply s_eql_t; (iterate 5 (exact rfl)); omega) | (apply s_eql_f; (iterate 5 (exact rfl)); omega) | (apply s_lss_t; (iterate 5 (exact rfl)); omega) | (apply s_lss_f; (iterate 5 (exact rfl)); omega) | (apply s_add64; (iterate 5 (exact rfl)); omega)
      | (apply s_sub64; (iterate 5 (exact rfl)); omega)
      | (refine w_keep [1, 2, 3, 6, 7] rfl rfl ?_; exact hnext _ rfl)
      | (apply s_max; (iterate 5 (exact rfl)))
      | (apply s_sliceE tab_ok (d := 47) (rows' := (p.dropLast).map intRow); (iterate 8 (exact rfl)); (refine ⟨by simp, ?_, ?_⟩ <;> (simp only [Option.getD_some, Option.getD_none] <;> split <;> omega)); (simp only [Option.getD_some, Option.getD_none]; rw [hmx]; simpa using hdl))
      | (apply s_call; (iterate 6 (exact rfl)); first | (exact h1; rintro _ rfl) | (exact h2; rintro _ rfl))
      | refine al_nil ?_ | refine q_then_n ?_ | refine q_blk_n ?_ | refine q_blk_r ?_ | refine q_blk_e ?_
      | refine q_blk_o rfl ?_ | refine q_then_e ?_ | refine aw_block ?_ | refine aw_exit ?_ | refine q_then_r ?_
      | refine aw_seq ?_ | refine aw_reg ?_ | refine aw_true rfl ?_ | refine aw_false rfl ?_ | refine aw_skip ?_
      | refine aw_ret ?_ | refine al_fork ?_ ?_ | refine al_fork3 ?_ ?_ ?_
      | refine aw_draws (id := 8) (trO [1, 3] (.fork 0 (.fork 2 (trO [4, 5, 6, 7] .nil) 4 (.fork 2 (trO [5, 6, 7] .nil) 5 (trO [2, 6, 7] .nil))) 4 (.fork 0 (.fork 2 (trO [5, 6, 7] .nil) 5 (trO [2, 6, 7] .nil)) 5 (trO [0, 2, 6, 7] .nil)))) [0, 2, 4, 5, 6] [2, 6] mixed_ok (by kernel_rfl) ?_)
        · have hst : stepDn 3 p seen = false := by unfold stepDn; rw [hb1, hb2]; simp
          rw [hst] at hnext
          repeat' (first
      | refine s_op rfl ?_ | (apply s_skipV; (iterate 2 (exact rfl))) | (apply s_skipU; (iterate 3 (exact rfl))) | (apply s_move; (iterate 4 (exact rfl))) | (apply s_fa_p tab_ok; (iterate 5 (exact rfl)))
      | (apply s_fa_f tab_ok; (iterate 6 (exact rfl))) | (apply s_ld_p tab_ok; (iterate 7 (exact rfl))) | (apply s_ld_f tab_ok; (iterate 6 (exact rfl))) | (apply s_ld_w tab_ok; (iterate 5 (exact rfl)); (first | exact patD_len _ | exact valD_len _ | exact brD_len _ | exact treeD_len _)) | (apply s_assign; (iterate 4 (exact rfl)))
      | (apply s_pick_t; (iterate 5 (exact rfl))) | (apply s_pick_f; (iterate 5 (exact rfl))) | (apply s_len tab_ok; (iterate 5 (exact rfl))) | (apply s_lens str_ok; (iterate 4 (exact rfl))) | (apply s_idx tab_ok; (iterate 7 (exact rfl)); (first | exact patR_get (by assumption) | exact valR_get (by assumption) | exact row_map (by assumption) | exact brR_get (by assumption) | exact treeR_get (by assumption) | assumption))
      | (apply s_ext; (iterate 5 (exact rfl))) | (apply s_alloc tabZ_ok; (iterate 7 (exact rfl))) | (apply s_boxZ; (iterate 5 (exact rfl)); first | exact rfl | exact allD_mapd _) | (apply s_store tab_ok; (iterate 10 (exact rfl))) | (apply s_lit tab_ok tabZ_ok; (iterate 10 (exact rfl)))
      | (apply s_lit1 tab_ok tabZ_ok; (iterate 9 (exact rfl)); (first | exact patD_len _ | exact valD_len _ | exact brD_len _ | exact treeD_len _)) | (apply s_app tab_ok tabZ_ok; (iterate 13 (exact rfl)); (first | (simp; done) | (simp; omega))) | (apply s_not_t; (iterate 4 (exact rfl))) | (apply s_not_f; (iterate 4 (exact rfl))) | (apply s_not; (iterate 4 (exact rfl)))
      | (apply s_eql_t; (iterate 5 (exact rfl)); omega) | (apply s_eql_f; (iterate 5 (exact rfl)); omega) | (apply s_lss_t; (iterate 5 (exact rfl)); omega) | (apply s_lss_f; (iterate 5 (exact rfl)); omega) | (apply s_add64; (iterate 5 (exact rfl)); omega)
      | (apply s_sub64; (iterate 5 (exact rfl)); omega)
      | (refine w_keep [1, 2, 3, 6, 7] rfl rfl ?_; exact hnext _ rfl)
      | (apply s_max; (iterate 5 (exact rfl)))
      | (apply s_sliceE tab_ok (d := 47) (rows' := (p.dropLast).map intRow); (iterate 8 (exact rfl)); (refine ⟨by simp, ?_, ?_⟩ <;> (simp only [Option.getD_some, Option.getD_none] <;> split <;> omega)); (simp only [Option.getD_some, Option.getD_none]; rw [hmx]; simpa using hdl))
      | (apply s_call; (iterate 6 (exact rfl)); first | (exact h1; rintro _ rfl) | (exact h2; rintro _ rfl))
      | refine al_nil ?_ | refine q_then_n ?_ | refine q_blk_n ?_ | refine q_blk_r ?_ | refine q_blk_e ?_
      | refine q_blk_o rfl ?_ | refine q_then_e ?_ | refine aw_block ?_ | refine aw_exit ?_ | refine q_then_r ?_
      | refine aw_seq ?_ | refine aw_reg ?_ | refine aw_true rfl ?_ | refine aw_false rfl ?_ | refine aw_skip ?_
      | refine aw_ret ?_ | refine al_fork ?_ ?_ | refine al_fork3 ?_ ?_ ?_
      | refine aw_draws (id := 8) (trO [1, 3] (.fork 0 (.fork 2 (trO [4, 5, 6, 7] .nil) 4 (.fork 2 (trO [5, 6, 7] .nil) 5 (trO [2, 6, 7] .nil))) 4 (.fork 0 (.fork 2 (trO [5, 6, 7] .nil) 5 (trO [2, 6, 7] .nil)) 5 (trO [0, 2, 6, 7] .nil)))) [0, 2, 4, 5, 6] [2, 6] mixed_ok (by kernel_rfl) ?_)
  · have hst : stepDn k p seen = false := by unfold stepDn; rw [decide_eq_false hk]; simp
    rw [hst] at hnext
    repeat' (first
      | refine s_op rfl ?_ | (apply s_skipV; (iterate 2 (exact rfl))) | (apply s_skipU; (iterate 3 (exact rfl))) | (apply s_move; (iterate 4 (exact rfl))) | (apply s_fa_p tab_ok; (iterate 5 (exact rfl)))
      | (apply s_fa_f tab_ok; (iterate 6 (exact rfl))) | (apply s_ld_p tab_ok; (iterate 7 (exact rfl))) | (apply s_ld_f tab_ok; (iterate 6 (exact rfl))) | (apply s_ld_w tab_ok; (iterate 5 (exact rfl)); (first | exact patD_len _ | exact valD_len _ | exact brD_len _ | exact treeD_len _)) | (apply s_assign; (iterate 4 (exact rfl)))
      | (apply s_pick_t; (iterate 5 (exact rfl))) | (apply s_pick_f; (iterate 5 (exact rfl))) | (apply s_len tab_ok; (iterate 5 (exact rfl))) | (apply s_lens str_ok; (iterate 4 (exact rfl))) | (apply s_idx tab_ok; (iterate 7 (exact rfl)); (first | exact patR_get (by assumption) | exact valR_get (by assumption) | exact row_map (by assumption) | exact brR_get (by assumption) | exact treeR_get (by assumption) | assumption))
      | (apply s_slice tab_ok; (iterate 8 (exact rfl)); (simp; omega)) | (apply s_ext; (iterate 5 (exact rfl))) | (apply s_alloc tabZ_ok; (iterate 7 (exact rfl))) | (apply s_boxZ; (iterate 5 (exact rfl)); first | exact rfl | exact allD_mapd _) | (apply s_store tab_ok; (iterate 10 (exact rfl)))
      | (apply s_lit tab_ok tabZ_ok; (iterate 10 (exact rfl))) | (apply s_lit1 tab_ok tabZ_ok; (iterate 9 (exact rfl)); (first | exact patD_len _ | exact valD_len _ | exact brD_len _ | exact treeD_len _)) | (apply s_app tab_ok tabZ_ok; (iterate 13 (exact rfl)); (first | (simp; done) | (simp; omega))) | (apply s_not_t; (iterate 4 (exact rfl))) | (apply s_not_f; (iterate 4 (exact rfl)))
      | (apply s_not; (iterate 4 (exact rfl))) | (apply s_eql_t; (iterate 5 (exact rfl)); omega) | (apply s_eql_f; (iterate 5 (exact rfl)); omega) | (apply s_lss_t; (iterate 5 (exact rfl)); omega) | (apply s_lss_f; (iterate 5 (exact rfl)); omega)
      | (apply s_add64; (iterate 5 (exact rfl)); omega) | (apply s_sub64; (iterate 5 (exact rfl)); omega)
      | (refine w_keep [1, 2, 3, 6, 7] rfl rfl ?_; exact hnext _ rfl)
      | refine al_nil ?_ | refine q_then_n ?_ | refine q_blk_n ?_ | refine q_blk_r ?_ | refine q_blk_e ?_
      | refine q_blk_o rfl ?_ | refine q_then_e ?_ | refine aw_block ?_ | refine aw_exit ?_ | refine q_then_r ?_
      | refine aw_seq ?_ | refine aw_reg ?_ | refine aw_true rfl ?_ | refine aw_false rfl ?_ | refine aw_skip ?_
      | refine aw_ret ?_ | refine al_fork ?_ ?_ | refine al_fork3 ?_ ?_ ?_
      | refine aw_draws (id := 8) (trO [1, 3] (.fork 0 (.fork 2 (trO [4, 5, 6, 7] .nil) 4 (.fork 2 (trO [5, 6, 7] .nil) 5 (trO [2, 6, 7] .nil))) 4 (.fork 0 (.fork 2 (trO [5, 6, 7] .nil) 5 (trO [2, 6, 7] .nil)) 5 (trO [0, 2, 6, 7] .nil)))) [0, 2, 4, 5, 6] [2, 6] mixed_ok (by kernel_rfl) ?_)
noncomputable def w15 : Option Code := match Try.f45.body with
  | some c => findW 15 c
  | none => none
noncomputable def w10 : Option Code := match Try.f45.body with
  | some c => findW 10 c
  | none => none
set_option maxRecDepth 100000 in
set_option maxHeartbeats 8000000 in
theorem walk_loop2 {B : Bool} {all : List TreeT} (hal : all.length ≤ 2000000000)
    (hkid : ∀ u ∈ all, ∀ (M : List (Int × AV)) (σ : List AObj), σ[locM]? = some (.map (entsV (Value.int .i64) M)) → Runs Try.prog 45 [.d (.agg (treeD u)), .d (pathsD (seen ++ [p])), .mp locM] σ (WalkR locM (noneT u) (downT u (seen ++ [p])) (putsM M (armsT u))))
    (hM : σ[locM]? = some (.map (entsV (Value.int .i64) M))) {X : Code} (hX : w15 = some X) :
    AWk Try.prog 106 X (retQB tab Try.f45 (WalkR locM (noneL all) (B && downL all (seen ++ [p])) (putsM M (armsL all)))) [(2, .mp locM), (6, .d (.v (.bool false))), (7, .d (.v (.bool B))), (8, .d (pathsD (seen ++ [p]))), (9, .d (.lst 5 (treeR all)))] σ := by
  have e5 := treeR_len all
  cases hX
  repeat' (first
      | refine s_op rfl ?_ | (apply s_skipV; (iterate 2 (exact rfl))) | (apply s_skipU; (iterate 3 (exact rfl))) | (apply s_move; (iterate 4 (exact rfl))) | (apply s_fa_p tab_ok; (iterate 5 (exact rfl)))
      | (apply s_fa_f tab_ok; (iterate 6 (exact rfl))) | (apply s_ld_p tab_ok; (iterate 7 (exact rfl))) | (apply s_ld_f tab_ok; (iterate 6 (exact rfl))) | (apply s_ld_w tab_ok; (iterate 5 (exact rfl)); (first | exact patD_len _ | exact valD_len _ | exact brD_len _ | exact treeD_len _)) | (apply s_assign; (iterate 4 (exact rfl)))
      | (apply s_pick_t; (iterate 5 (exact rfl))) | (apply s_pick_f; (iterate 5 (exact rfl))) | (apply s_len tab_ok; (iterate 5 (exact rfl))) | (apply s_lens str_ok; (iterate 4 (exact rfl))) | (apply s_idx tab_ok; (iterate 7 (exact rfl)); (first | exact patR_get (by assumption) | exact valR_get (by assumption) | exact row_map (by assumption) | exact brR_get (by assumption) | exact treeR_get (by assumption) | assumption))
      | (apply s_slice tab_ok; (iterate 8 (exact rfl)); (simp; omega)) | (apply s_ext; (iterate 5 (exact rfl))) | (apply s_alloc tabZ_ok; (iterate 7 (exact rfl))) | (apply s_boxZ; (iterate 5 (exact rfl)); first | exact rfl | exact allD_mapd _) | (apply s_store tab_ok; (iterate 10 (exact rfl)))
      | (apply s_lit tab_ok tabZ_ok; (iterate 10 (exact rfl))) | (apply s_lit1 tab_ok tabZ_ok; (iterate 9 (exact rfl)); (first | exact patD_len _ | exact valD_len _ | exact brD_len _ | exact treeD_len _)) | (apply s_app tab_ok tabZ_ok; (iterate 13 (exact rfl)); (first | (simp; done) | (simp; omega))) | (apply s_not_t; (iterate 4 (exact rfl))) | (apply s_not_f; (iterate 4 (exact rfl)))
      | (apply s_not; (iterate 4 (exact rfl))) | (apply s_eql_t; (iterate 5 (exact rfl)); omega) | (apply s_eql_f; (iterate 5 (exact rfl)); omega) | (apply s_lss_t; (iterate 5 (exact rfl)); omega) | (apply s_lss_f; (iterate 5 (exact rfl)); omega)
      | (apply s_add64; (iterate 5 (exact rfl)); omega) | (apply s_sub64; (iterate 5 (exact rfl)); omega)
      | refine al_nil ?_ | refine q_then_n ?_ | refine q_blk_n ?_ | refine q_blk_r ?_ | refine q_blk_e ?_
      | refine q_blk_o rfl ?_ | refine q_then_e ?_ | refine aw_block ?_ | refine aw_exit ?_ | refine q_then_r ?_
      | refine aw_seq ?_ | refine aw_reg ?_ | refine aw_true rfl ?_ | refine aw_false rfl ?_ | refine aw_skip ?_
      | refine aw_ret ?_ | refine al_fork ?_ ?_ | refine al_fork3 ?_ ?_ ?_
      | refine aw_draws (id := 8) (trO [1, 3] (.fork 0 (.fork 2 (trO [4, 5, 6, 7] .nil) 4 (.fork 2 (trO [5, 6, 7] .nil) 5 (trO [2, 6, 7] .nil))) 4 (.fork 0 (.fork 2 (trO [5, 6, 7] .nil) 5 (trO [2, 6, 7] .nil)) 5 (trO [0, 2, 6, 7] .nil)))) [0, 2, 4, 5, 6] [2, 6] mixed_ok (by kernel_rfl) ?_)
  refine w_loop [2, 6, 7, 8, 82, 83, 84] (fun n' vs σ => ∃ i : Nat, vs = [.mp locM, .d (.v (.bool (noneL (all.take i)))), .d (.v (.bool (B && downL (all.take i) (seen ++ [p])))), .d (pathsD (seen ++ [p])), .d (.lst 5 (treeR all)), .d (.v (.int .i64 ((treeR all).length : Int))), .d (.v (.int .i64 (i : Int)))] ∧ σ[locM]? = some (.map (entsV (Value.int .i64) (putsM M (armsL (all.take i))))) ∧ i ≤ all.length ∧ n' = all.length - i) rfl ⟨0, by simp [noneL, downL], hM, by omega, rfl⟩ ?_
  clear hM
  rintro n' vs σ ⟨i, rfl, hM, hi, rfl⟩ fr hfr
  cases hfr
  by_cases hil : i < all.length
  · obtain ⟨u, hu⟩ := getS hil
    have ht : all.take (i + 1) = all.take i ++ [u] := by rw [List.take_add_one, hu]; rfl
    have hcall := hkid u (List.mem_of_getElem? hu) _ _ hM
    have n1 : noneL (all.take (i + 1)) = (noneL (all.take i) || noneT u) := by rw [ht, noneL_append]; simp [noneL]
    have n2 : (B && downL (all.take (i + 1)) (seen ++ [p])) = ((B && downL (all.take i) (seen ++ [p])) && downT u (seen ++ [p])) := by rw [ht, downL_append]; simp [downL, Bool.and_assoc]
    have n3 : putsM M (armsL (all.take (i + 1))) = putsM (putsM M (armsL (all.take i))) (armsT u) := by rw [ht, armsL_append, putsM_append]; simp [armsL]
    have hcall := fun σ (h : σ[locM]? = some (.map (entsV (Value.int .i64) (putsM M (armsL (all.take i)))))) => hkid u (List.mem_of_getElem? hu) _ σ h
    have hur := treeR_get hu
    generalize noneL (all.take i) = x1 at *
    generalize (B && downL (all.take i) (seen ++ [p])) = x2 at *
    generalize noneT u = y1 at *
    generalize downT u (seen ++ [p]) = y2 at *
    generalize putsM (putsM M (armsL (all.take i))) (armsT u) = M2 at *
    obtain ⟨uk, un, ui, us, ukk, unn, up, uc, ue⟩ := u
    cases x1 <;> cases x2 <;> cases y1 <;> cases y2
    all_goals
      repeat' (first
      | refine s_op rfl ?_ | (apply s_skipV; (iterate 2 (exact rfl))) | (apply s_skipU; (iterate 3 (exact rfl))) | (apply s_move; (iterate 4 (exact rfl))) | (apply s_fa_p tab_ok; (iterate 5 (exact rfl)))
      | (apply s_fa_f tab_ok; (iterate 6 (exact rfl))) | (apply s_ld_p tab_ok; (iterate 7 (exact rfl))) | (apply s_ld_f tab_ok; (iterate 6 (exact rfl))) | (apply s_ld_w tab_ok; (iterate 5 (exact rfl)); (first | exact patD_len _ | exact valD_len _ | exact brD_len _ | exact treeD_len _)) | (apply s_assign; (iterate 4 (exact rfl)))
      | (apply s_pick_t; (iterate 5 (exact rfl))) | (apply s_pick_f; (iterate 5 (exact rfl))) | (apply s_len tab_ok; (iterate 5 (exact rfl))) | (apply s_lens str_ok; (iterate 4 (exact rfl))) | (apply s_idx tab_ok; (iterate 7 (exact rfl)); (first | exact patR_get (by assumption) | exact valR_get (by assumption) | exact row_map (by assumption) | exact brR_get (by assumption) | exact treeR_get (by assumption) | assumption))
      | (apply s_slice tab_ok; (iterate 8 (exact rfl)); (simp; omega)) | (apply s_ext; (iterate 5 (exact rfl))) | (apply s_boxZ; (iterate 5 (exact rfl)); first | exact rfl | exact allD_mapd _) | (apply s_lit tab_ok tabZ_ok; (iterate 10 (exact rfl))) | (apply s_lit1 tab_ok tabZ_ok; (iterate 9 (exact rfl)); (first | exact patD_len _ | exact valD_len _ | exact brD_len _ | exact treeD_len _))
      | (apply s_app tab_ok tabZ_ok; (iterate 13 (exact rfl)); (first | (simp; done) | (simp; omega))) | (apply s_not_t; (iterate 4 (exact rfl))) | (apply s_not_f; (iterate 4 (exact rfl))) | (apply s_not; (iterate 4 (exact rfl))) | (apply s_eql_t; (iterate 5 (exact rfl)); omega)
      | (apply s_eql_f; (iterate 5 (exact rfl)); omega) | (apply s_lss_t; (iterate 5 (exact rfl)); omega) | (apply s_lss_f; (iterate 5 (exact rfl)); omega) | (apply s_add64; (iterate 5 (exact rfl)); omega) | (apply s_sub64; (iterate 5 (exact rfl)); omega)
      | (apply s_allocF tabZ_ok (d := 13); (iterate 6 (exact rfl)); intro locY σ hc; have hY := hc.at'; have nMY := hc.ne hM; replace hM := hc.keep hM; clear hc)
      | (apply s_storeF tab_ok; (iterate 7 (exact rfl)); exact hY; (iterate 2 (exact rfl)); intro σ hc; replace hY := hc.at'; replace hM := hc.keep (by first | assumption | (apply Ne.symm; assumption) | omega) hM; clear hc)
      | (apply s_ldF tab_ok; (iterate 5 (exact rfl)); exact hY; exact rfl)
      | (apply s_idx tab_ok; (iterate 7 (exact rfl)); exact hur)
      | (apply s_callS; (iterate 6 (exact rfl)); exact hcall _ hM; rintro _ σ3 ⟨rfl, hM3⟩; replace hM := hM3; clear hM3)
      | refine al_nil ?_ | refine q_then_n ?_ | refine q_blk_n ?_ | refine q_blk_r ?_ | refine q_blk_e ?_
      | refine q_blk_o rfl ?_ | refine q_then_e ?_ | refine aw_block ?_ | refine aw_exit ?_ | refine q_then_r ?_
      | refine aw_seq ?_ | refine aw_reg ?_ | refine aw_true rfl ?_ | refine aw_false rfl ?_ | refine aw_skip ?_
      | refine aw_ret ?_ | refine al_fork ?_ ?_ | refine al_fork3 ?_ ?_ ?_
      | refine aw_draws (id := 8) (trO [1, 3] (.fork 0 (.fork 2 (trO [4, 5, 6, 7] .nil) 4 (.fork 2 (trO [5, 6, 7] .nil) 5 (trO [2, 6, 7] .nil))) 4 (.fork 0 (.fork 2 (trO [5, 6, 7] .nil) 5 (trO [2, 6, 7] .nil)) 5 (trO [0, 2, 6, 7] .nil)))) [0, 2, 4, 5, 6] [2, 6] mixed_ok (by kernel_rfl) ?_)
      all_goals exact ⟨_, _, rfl, by omega, i + 1, by rw [n1, n2]; rfl, by rw [n3]; exact hM, by omega, rfl⟩
  · rw [List.take_of_length_le (by omega)] at hM
    rw [List.take_of_length_le (by omega)]
    repeat' (first
      | refine s_op rfl ?_ | (apply s_skipV; (iterate 2 (exact rfl))) | (apply s_skipU; (iterate 3 (exact rfl))) | (apply s_move; (iterate 4 (exact rfl))) | (apply s_fa_p tab_ok; (iterate 5 (exact rfl)))
      | (apply s_fa_f tab_ok; (iterate 6 (exact rfl))) | (apply s_ld_p tab_ok; (iterate 7 (exact rfl))) | (apply s_ld_f tab_ok; (iterate 6 (exact rfl))) | (apply s_ld_w tab_ok; (iterate 5 (exact rfl)); (first | exact patD_len _ | exact valD_len _ | exact brD_len _ | exact treeD_len _)) | (apply s_assign; (iterate 4 (exact rfl)))
      | (apply s_pick_t; (iterate 5 (exact rfl))) | (apply s_pick_f; (iterate 5 (exact rfl))) | (apply s_len tab_ok; (iterate 5 (exact rfl))) | (apply s_lens str_ok; (iterate 4 (exact rfl))) | (apply s_idx tab_ok; (iterate 7 (exact rfl)); (first | exact patR_get (by assumption) | exact valR_get (by assumption) | exact row_map (by assumption) | exact brR_get (by assumption) | exact treeR_get (by assumption) | assumption))
      | (apply s_slice tab_ok; (iterate 8 (exact rfl)); (simp; omega)) | (apply s_ext; (iterate 5 (exact rfl))) | (apply s_alloc tabZ_ok; (iterate 7 (exact rfl))) | (apply s_boxZ; (iterate 5 (exact rfl)); first | exact rfl | exact allD_mapd _) | (apply s_store tab_ok; (iterate 10 (exact rfl)))
      | (apply s_lit tab_ok tabZ_ok; (iterate 10 (exact rfl))) | (apply s_lit1 tab_ok tabZ_ok; (iterate 9 (exact rfl)); (first | exact patD_len _ | exact valD_len _ | exact brD_len _ | exact treeD_len _)) | (apply s_app tab_ok tabZ_ok; (iterate 13 (exact rfl)); (first | (simp; done) | (simp; omega))) | (apply s_not_t; (iterate 4 (exact rfl))) | (apply s_not_f; (iterate 4 (exact rfl)))
      | (apply s_not; (iterate 4 (exact rfl))) | (apply s_eql_t; (iterate 5 (exact rfl)); omega) | (apply s_eql_f; (iterate 5 (exact rfl)); omega) | (apply s_lss_t; (iterate 5 (exact rfl)); omega) | (apply s_lss_f; (iterate 5 (exact rfl)); omega)
      | (apply s_add64; (iterate 5 (exact rfl)); omega) | (apply s_sub64; (iterate 5 (exact rfl)); omega)
      | refine al_nil ?_ | refine q_then_n ?_ | refine q_blk_n ?_ | refine q_blk_r ?_ | refine q_blk_e ?_
      | refine q_blk_o rfl ?_ | refine q_then_e ?_ | refine aw_block ?_ | refine aw_exit ?_ | refine q_then_r ?_
      | refine aw_seq ?_ | refine aw_reg ?_ | refine aw_true rfl ?_ | refine aw_false rfl ?_ | refine aw_skip ?_
      | refine aw_ret ?_ | refine al_fork ?_ ?_ | refine al_fork3 ?_ ?_ ?_
      | refine aw_draws (id := 8) (trO [1, 3] (.fork 0 (.fork 2 (trO [4, 5, 6, 7] .nil) 4 (.fork 2 (trO [5, 6, 7] .nil) 5 (trO [2, 6, 7] .nil))) 4 (.fork 0 (.fork 2 (trO [5, 6, 7] .nil) 5 (trO [2, 6, 7] .nil)) 5 (trO [0, 2, 6, 7] .nil)))) [0, 2, 4, 5, 6] [2, 6] mixed_ok (by kernel_rfl) ?_)
    all_goals exact q_retB (resB_2 rfl (resV_t rfl) (resV_t rfl) rfl) ⟨rfl, hM⟩
set_option maxRecDepth 100000 in
set_option maxHeartbeats 8000000 in
theorem walk_loop1 {k : Int} {B : Bool} {locB ver0 : Nat} (hel : e.length ≤ 1000000000) (hcl : c.length ≤ 1000000000) {Q : Exit → Fr → List AObj → Prop}
    (hnext : ∀ (σ : List AObj) (Y : Code), σ[locM]? = some (.map (entsV (Value.int .i64) M)) → w15 = some Y → AWk Try.prog 106 Y Q [(2, .mp locM), (6, .d (.v (.bool false))), (7, .d (.v (.bool B))), (8, .d (pathsD (seen ++ [p]))), (9, .d (.lst 5 (treeR (e ++ c))))] σ)
    (hB : σ[locB]? = some (.arr 33 5 ver0 (treeR e))) (hM : σ[locM]? = some (.map (entsV (Value.int .i64) M))) {X : Code} (hX : w10 = some X) :
    AWk Try.prog 106 X Q [(2, .mp locM), (3, .d (.fptr (treeD (.mk bk bn bi bs k n p c e)))), (6, .d (.v (.bool false))), (7, .d (.v (.bool B))), (8, .d (pathsD (seen ++ [p]))), (9, .own locB ver0 5 0 (treeR e).length)] σ := by
  have nMB : locM ≠ locB := fun h => by rw [h, hB] at hM; cases hM
  have e2 := treeR_len e
  have e3 := brR_len c
  cases hX
  repeat' (first
      | refine s_op rfl ?_ | (apply s_skipV; (iterate 2 (exact rfl))) | (apply s_skipU; (iterate 3 (exact rfl))) | (apply s_move; (iterate 4 (exact rfl))) | (apply s_fa_p tab_ok; (iterate 5 (exact rfl)))
      | (apply s_fa_f tab_ok; (iterate 6 (exact rfl))) | (apply s_ld_p tab_ok; (iterate 7 (exact rfl))) | (apply s_ld_f tab_ok; (iterate 6 (exact rfl))) | (apply s_ld_w tab_ok; (iterate 5 (exact rfl)); (first | exact patD_len _ | exact valD_len _ | exact brD_len _ | exact treeD_len _)) | (apply s_assign; (iterate 4 (exact rfl)))
      | (apply s_pick_t; (iterate 5 (exact rfl))) | (apply s_pick_f; (iterate 5 (exact rfl))) | (apply s_len tab_ok; (iterate 5 (exact rfl))) | (apply s_lens str_ok; (iterate 4 (exact rfl))) | (apply s_idx tab_ok; (iterate 7 (exact rfl)); (first | exact patR_get (by assumption) | exact valR_get (by assumption) | exact row_map (by assumption) | exact brR_get (by assumption) | exact treeR_get (by assumption) | assumption))
      | (apply s_slice tab_ok; (iterate 8 (exact rfl)); (simp; omega)) | (apply s_ext; (iterate 5 (exact rfl))) | (apply s_alloc tabZ_ok; (iterate 7 (exact rfl))) | (apply s_boxZ; (iterate 5 (exact rfl)); first | exact rfl | exact allD_mapd _) | (apply s_store tab_ok; (iterate 10 (exact rfl)))
      | (apply s_lit tab_ok tabZ_ok; (iterate 10 (exact rfl))) | (apply s_lit1 tab_ok tabZ_ok; (iterate 9 (exact rfl)); (first | exact patD_len _ | exact valD_len _ | exact brD_len _ | exact treeD_len _)) | (apply s_app tab_ok tabZ_ok; (iterate 13 (exact rfl)); (first | (simp; done) | (simp; omega))) | (apply s_not_t; (iterate 4 (exact rfl))) | (apply s_not_f; (iterate 4 (exact rfl)))
      | (apply s_not; (iterate 4 (exact rfl))) | (apply s_eql_t; (iterate 5 (exact rfl)); omega) | (apply s_eql_f; (iterate 5 (exact rfl)); omega) | (apply s_lss_t; (iterate 5 (exact rfl)); omega) | (apply s_lss_f; (iterate 5 (exact rfl)); omega)
      | (apply s_add64; (iterate 5 (exact rfl)); omega) | (apply s_sub64; (iterate 5 (exact rfl)); omega)
      | refine al_nil ?_ | refine q_then_n ?_ | refine q_blk_n ?_ | refine q_blk_r ?_ | refine q_blk_e ?_
      | refine q_blk_o rfl ?_ | refine q_then_e ?_ | refine aw_block ?_ | refine aw_exit ?_ | refine q_then_r ?_
      | refine aw_seq ?_ | refine aw_reg ?_ | refine aw_true rfl ?_ | refine aw_false rfl ?_ | refine aw_skip ?_
      | refine aw_ret ?_ | refine al_fork ?_ ?_ | refine al_fork3 ?_ ?_ ?_
      | refine aw_draws (id := 8) (trO [1, 3] (.fork 0 (.fork 2 (trO [4, 5, 6, 7] .nil) 4 (.fork 2 (trO [5, 6, 7] .nil) 5 (trO [2, 6, 7] .nil))) 4 (.fork 0 (.fork 2 (trO [5, 6, 7] .nil) 5 (trO [2, 6, 7] .nil)) 5 (trO [0, 2, 6, 7] .nil)))) [0, 2, 4, 5, 6] [2, 6] mixed_ok (by kernel_rfl) ?_)
  refine w_loop [2, 6, 7, 8, 9, 70, 71, 72] (fun n' vs σ => ∃ j ver m : Nat, vs = [.mp locM, .d (.v (.bool false)), .d (.v (.bool B)), .d (pathsD (seen ++ [p])), .own locB ver 5 0 m, .d (.lst 9 (brR c)), .d (.v (.int .i64 ((brR c).length : Int))), .d (.v (.int .i64 (j : Int)))] ∧ σ[locB]? = some (.arr 33 5 ver (treeR (e ++ c.take j))) ∧ σ[locM]? = some (.map (entsV (Value.int .i64) M)) ∧ m = e.length + j ∧ j ≤ c.length ∧ n' = c.length - j) rfl ⟨0, _, _, rfl, by simpa using hB, hM, by omega, by omega, rfl⟩ ?_
  clear hB hM
  rintro n' vs σ ⟨j, ver, m, rfl, hB, hM, hm, hj, rfl⟩ fr hfr
  cases hfr
  have htl : (c.take j).length = j := by rw [List.length_take]; omega
  have e4 := treeR_len (e ++ c.take j)
  rw [List.length_append, htl] at e4
  by_cases hlt : j < c.length
  · obtain ⟨⟨uk, un, ui, us, ukk, unn, up, uc, ue⟩, hu⟩ := getS hlt
    have ht : c.take (j + 1) = c.take j ++ [.mk uk un ui us ukk unn up uc ue] := by rw [List.take_add_one, hu]; rfl
    have hur := brR_get hu
    repeat' (first
      | refine s_op rfl ?_ | (apply s_skipV; (iterate 2 (exact rfl))) | (apply s_skipU; (iterate 3 (exact rfl))) | (apply s_move; (iterate 4 (exact rfl))) | (apply s_fa_p tab_ok; (iterate 5 (exact rfl)))
      | (apply s_fa_f tab_ok; (iterate 6 (exact rfl))) | (apply s_ld_p tab_ok; (iterate 7 (exact rfl))) | (apply s_ld_f tab_ok; (iterate 6 (exact rfl))) | (apply s_ld_w tab_ok; (iterate 5 (exact rfl)); (first | exact patD_len _ | exact valD_len _ | exact brD_len _ | exact treeD_len _)) | (apply s_assign; (iterate 4 (exact rfl)))
      | (apply s_pick_t; (iterate 5 (exact rfl))) | (apply s_pick_f; (iterate 5 (exact rfl))) | (apply s_len tab_ok; (iterate 5 (exact rfl))) | (apply s_lens str_ok; (iterate 4 (exact rfl))) | (apply s_idx tab_ok; (iterate 7 (exact rfl)); (first | exact patR_get (by assumption) | exact valR_get (by assumption) | exact row_map (by assumption) | exact brR_get (by assumption) | exact treeR_get (by assumption) | assumption))
      | (apply s_slice tab_ok; (iterate 8 (exact rfl)); (simp; omega)) | (apply s_ext; (iterate 5 (exact rfl))) | (apply s_boxZ; (iterate 5 (exact rfl)); first | exact rfl | exact allD_mapd _) | (apply s_lit tab_ok tabZ_ok; (iterate 10 (exact rfl))) | (apply s_lit1 tab_ok tabZ_ok; (iterate 9 (exact rfl)); (first | exact patD_len _ | exact valD_len _ | exact brD_len _ | exact treeD_len _))
      | (apply s_not_t; (iterate 4 (exact rfl))) | (apply s_not_f; (iterate 4 (exact rfl))) | (apply s_not; (iterate 4 (exact rfl))) | (apply s_eql_t; (iterate 5 (exact rfl)); omega) | (apply s_eql_f; (iterate 5 (exact rfl)); omega)
      | (apply s_lss_t; (iterate 5 (exact rfl)); omega) | (apply s_lss_f; (iterate 5 (exact rfl)); omega) | (apply s_add64; (iterate 5 (exact rfl)); omega) | (apply s_sub64; (iterate 5 (exact rfl)); omega)
      | (apply s_allocF tabZ_ok (d := 11); (iterate 6 (exact rfl)); intro locX σ hc; have hX := hc.at'; have nBX := hc.ne hB; replace hB := hc.keep hB; have nMX := hc.ne hM; replace hM := hc.keep hM; clear hc)
      | (apply s_storeF tab_ok; (iterate 7 (exact rfl)); exact hX; (iterate 2 (exact rfl)); intro σ hc; replace hX := hc.at'; replace hB := hc.keep (by first | assumption | (apply Ne.symm; assumption) | omega) hB; replace hM := hc.keep (by first | assumption | (apply Ne.symm; assumption) | omega) hM; clear hc; refine s_freezeP 11 rfl hX rfl ?_; intro σ hc; replace hB := hc.keep (by first | assumption | (apply Ne.symm; assumption) | omega) hB; replace hM := hc.keep (by first | assumption | (apply Ne.symm; assumption) | omega) hM; clear hc hX)
      | (apply s_idx tab_ok; (iterate 7 (exact rfl)); exact hur)
      | (apply s_appF tab_ok tabZ_ok (d := 80) (rows2 := [treeD (.mk uk un ui us ukk unn up uc ue)]) (rows3 := treeR (e ++ c.take (j + 1))) (m := e.length + (j + 1)); (iterate 10 (exact rfl)); exact hB; exact src_of (Tab.slIs tab_ok (t := 31) rfl) (rows_d rfl); (rw [ht, ← List.append_assoc, treeR_append (e ++ c.take j)]; rfl); (refine ⟨?_, ?_, ?_⟩ <;> first | omega | (simp only [List.length_cons, List.length_nil] <;> omega)); intro σ hc; replace hB := hc.at'; replace hM := hc.keep (by first | assumption | (apply Ne.symm; assumption) | omega) hM; clear hc)
      | refine al_nil ?_ | refine q_then_n ?_ | refine q_blk_n ?_ | refine q_blk_r ?_ | refine q_blk_e ?_
      | refine q_blk_o rfl ?_ | refine q_then_e ?_ | refine aw_block ?_ | refine aw_exit ?_ | refine q_then_r ?_
      | refine aw_seq ?_ | refine aw_reg ?_ | refine aw_true rfl ?_ | refine aw_false rfl ?_ | refine aw_skip ?_
      | refine aw_ret ?_ | refine al_fork ?_ ?_ | refine al_fork3 ?_ ?_ ?_
      | refine aw_draws (id := 8) (trO [1, 3] (.fork 0 (.fork 2 (trO [4, 5, 6, 7] .nil) 4 (.fork 2 (trO [5, 6, 7] .nil) 5 (trO [2, 6, 7] .nil))) 4 (.fork 0 (.fork 2 (trO [5, 6, 7] .nil) 5 (trO [2, 6, 7] .nil)) 5 (trO [0, 2, 6, 7] .nil)))) [0, 2, 4, 5, 6] [2, 6] mixed_ok (by kernel_rfl) ?_)
    all_goals exact ⟨_, _, rfl, by omega, j + 1, _, _, rfl, hB, hM, rfl, by omega, rfl⟩
  · rw [List.take_of_length_le (by omega)] at hB e4
    repeat' (first
      | refine s_op rfl ?_ | (apply s_skipV; (iterate 2 (exact rfl))) | (apply s_skipU; (iterate 3 (exact rfl))) | (apply s_move; (iterate 4 (exact rfl))) | (apply s_fa_p tab_ok; (iterate 5 (exact rfl)))
      | (apply s_fa_f tab_ok; (iterate 6 (exact rfl))) | (apply s_ld_p tab_ok; (iterate 7 (exact rfl))) | (apply s_ld_f tab_ok; (iterate 6 (exact rfl))) | (apply s_ld_w tab_ok; (iterate 5 (exact rfl)); (first | exact patD_len _ | exact valD_len _ | exact brD_len _ | exact treeD_len _)) | (apply s_assign; (iterate 4 (exact rfl)))
      | (apply s_pick_t; (iterate 5 (exact rfl))) | (apply s_pick_f; (iterate 5 (exact rfl))) | (apply s_len tab_ok; (iterate 5 (exact rfl))) | (apply s_lens str_ok; (iterate 4 (exact rfl))) | (apply s_idx tab_ok; (iterate 7 (exact rfl)); (first | exact patR_get (by assumption) | exact valR_get (by assumption) | exact row_map (by assumption) | exact brR_get (by assumption) | exact treeR_get (by assumption) | assumption))
      | (apply s_slice tab_ok; (iterate 8 (exact rfl)); (simp; omega)) | (apply s_ext; (iterate 5 (exact rfl))) | (apply s_alloc tabZ_ok; (iterate 7 (exact rfl))) | (apply s_boxZ; (iterate 5 (exact rfl)); first | exact rfl | exact allD_mapd _) | (apply s_store tab_ok; (iterate 10 (exact rfl)))
      | (apply s_lit tab_ok tabZ_ok; (iterate 10 (exact rfl))) | (apply s_lit1 tab_ok tabZ_ok; (iterate 9 (exact rfl)); (first | exact patD_len _ | exact valD_len _ | exact brD_len _ | exact treeD_len _)) | (apply s_app tab_ok tabZ_ok; (iterate 13 (exact rfl)); (first | (simp; done) | (simp; omega))) | (apply s_not_t; (iterate 4 (exact rfl))) | (apply s_not_f; (iterate 4 (exact rfl)))
      | (apply s_not; (iterate 4 (exact rfl))) | (apply s_eql_t; (iterate 5 (exact rfl)); omega) | (apply s_eql_f; (iterate 5 (exact rfl)); omega) | (apply s_lss_t; (iterate 5 (exact rfl)); omega) | (apply s_lss_f; (iterate 5 (exact rfl)); omega)
      | (apply s_add64; (iterate 5 (exact rfl)); omega) | (apply s_sub64; (iterate 5 (exact rfl)); omega)
      | (refine w_freezeF 9 rfl hB (by omega) ?_; intro σ hc; replace hM := hc.keep (by first | assumption | (apply Ne.symm; assumption) | omega) hM; clear hc hB; refine w_keep [2, 6, 7, 8, 9] rfl rfl ?_; exact hnext _ _ hM rfl)
      | refine al_nil ?_ | refine q_then_n ?_ | refine q_blk_n ?_ | refine q_blk_r ?_ | refine q_blk_e ?_
      | refine q_blk_o rfl ?_ | refine q_then_e ?_ | refine aw_block ?_ | refine aw_exit ?_ | refine q_then_r ?_
      | refine aw_seq ?_ | refine aw_reg ?_ | refine aw_true rfl ?_ | refine aw_false rfl ?_ | refine aw_skip ?_
      | refine aw_ret ?_ | refine al_fork ?_ ?_ | refine al_fork3 ?_ ?_ ?_
      | refine aw_draws (id := 8) (trO [1, 3] (.fork 0 (.fork 2 (trO [4, 5, 6, 7] .nil) 4 (.fork 2 (trO [5, 6, 7] .nil) 5 (trO [2, 6, 7] .nil))) 4 (.fork 0 (.fork 2 (trO [5, 6, 7] .nil) 5 (trO [2, 6, 7] .nil)) 5 (trO [0, 2, 6, 7] .nil)))) [0, 2, 4, 5, 6] [2, 6] mixed_ok (by kernel_rfl) ?_)
set_option maxRecDepth 100000 in
set_option maxHeartbeats 8000000 in
theorem walk_rest {k : Int} {B : Bool} (hsl : seen.length ≤ 1000000000) (hel : e.length ≤ 1000000000) (hcl : c.length ≤ 1000000000)
    (hkid : ∀ u ∈ e ++ c, ∀ (M : List (Int × AV)) (σ : List AObj), σ[locM]? = some (.map (entsV (Value.int .i64) M)) → Runs Try.prog 45 [.d (.agg (treeD u)), .d (pathsD (seen ++ [p])), .mp locM] σ (WalkR locM (noneT u) (downT u (seen ++ [p])) (putsM M (armsT u))))
    (hM : σ[locM]? = some (.map (entsV (Value.int .i64) M))) {X : Code} (hX : w8 = some X) :
    AWk Try.prog 106 X (retQB tab Try.f45 (WalkR locM (noneL (e ++ c)) (B && downL (e ++ c) (seen ++ [p])) (putsM M (armsL (e ++ c))))) [(1, .d (pathsD seen)), (2, .mp locM), (3, .d (.fptr (treeD (.mk bk bn bi bs k n p c e)))), (6, .d (.v (.bool false))), (7, .d (.v (.bool B)))] σ := by
  have e1 : (seen.map pathRow).length = seen.length := by simp
  have e2 := treeR_len e
  have e3 := brR_len c
  cases hX
  repeat' (first
      | refine s_op rfl ?_ | (apply s_skipV; (iterate 2 (exact rfl))) | (apply s_skipU; (iterate 3 (exact rfl))) | (apply s_move; (iterate 4 (exact rfl))) | (apply s_fa_p tab_ok; (iterate 5 (exact rfl)))
      | (apply s_fa_f tab_ok; (iterate 6 (exact rfl))) | (apply s_ld_p tab_ok; (iterate 7 (exact rfl))) | (apply s_ld_f tab_ok; (iterate 6 (exact rfl))) | (apply s_ld_w tab_ok; (iterate 5 (exact rfl)); (first | exact patD_len _ | exact valD_len _ | exact brD_len _ | exact treeD_len _)) | (apply s_assign; (iterate 4 (exact rfl)))
      | (apply s_pick_t; (iterate 5 (exact rfl))) | (apply s_pick_f; (iterate 5 (exact rfl))) | (apply s_len tab_ok; (iterate 5 (exact rfl))) | (apply s_lens str_ok; (iterate 4 (exact rfl))) | (apply s_idx tab_ok; (iterate 7 (exact rfl)); (first | exact patR_get (by assumption) | exact valR_get (by assumption) | exact row_map (by assumption) | exact brR_get (by assumption) | exact treeR_get (by assumption) | assumption))
      | (apply s_slice tab_ok; (iterate 8 (exact rfl)); (simp; omega)) | (apply s_ext; (iterate 5 (exact rfl))) | (apply s_alloc tabZ_ok; (iterate 7 (exact rfl))) | (apply s_boxZ; (iterate 5 (exact rfl)); first | exact rfl | exact allD_mapd _) | (apply s_store tab_ok; (iterate 10 (exact rfl)))
      | (apply s_not_t; (iterate 4 (exact rfl))) | (apply s_not_f; (iterate 4 (exact rfl))) | (apply s_not; (iterate 4 (exact rfl))) | (apply s_eql_t; (iterate 5 (exact rfl)); omega) | (apply s_eql_f; (iterate 5 (exact rfl)); omega)
      | (apply s_lss_t; (iterate 5 (exact rfl)); omega) | (apply s_lss_f; (iterate 5 (exact rfl)); omega) | (apply s_add64; (iterate 5 (exact rfl)); omega) | (apply s_sub64; (iterate 5 (exact rfl)); omega)
      | (apply s_litO tab_ok tabZ_ok (d := 58) (m := 0); (iterate 12 (exact rfl)); intro locA σ hc; have hA := hc.at'; have nMA := hc.ne hM; replace hM := hc.keep hM; clear hc)
      | (apply s_appF tab_ok tabZ_ok (d := 60) (rows2 := seen.map pathRow) (rows3 := seen.map pathRow) (m := (seen.map pathRow).length); (iterate 10 (exact rfl)); exact hA; exact src_of (Tab.slIs tab_ok (t := 136) rfl) (rows_d rfl); exact rfl; (refine ⟨rfl, ?_, ?_⟩ <;> omega); intro σ hc; replace hA := hc.at'; replace hM := hc.keep (by first | assumption | (apply Ne.symm; assumption) | omega) hM; clear hc)
      | (apply s_lit tab_ok tabZ_ok (d := 63); (iterate 10 (exact rfl)))
      | (apply s_appF tab_ok tabZ_ok (d := 64) (rows2 := [pathRow p]) (rows3 := (seen ++ [p]).map pathRow) (m := (seen.map pathRow).length + 1); (iterate 10 (exact rfl)); exact hA; exact src_of (Tab.slIs tab_ok (t := 136) rfl) (rows_d rfl); (simp only [List.map_append, List.map_cons, List.map_nil]); (refine ⟨rfl, ?_, rfl⟩; simp only [List.length_cons, List.length_nil]; omega); intro σ hc; replace hA := hc.at'; replace hM := hc.keep (by first | assumption | (apply Ne.symm; assumption) | omega) hM; clear hc)
      | (refine w_freezeF 8 rfl hA (by simp) ?_; intro σ hc; replace hM := hc.keep (by first | assumption | (apply Ne.symm; assumption) | omega) hM; clear hc hA)
      | (apply s_litO tab_ok tabZ_ok (d := 65) (m := 0); (iterate 12 (exact rfl)); intro locB σ hc; have hB := hc.at'; have nMB := hc.ne hM; replace hM := hc.keep hM; clear hc)
      | (apply s_appF tab_ok tabZ_ok (d := 68) (rows2 := treeR e) (rows3 := treeR e) (m := (treeR e).length); (iterate 10 (exact rfl)); exact hB; exact src_of (Tab.slIs tab_ok (t := 31) rfl) (rows_d rfl); exact rfl; (refine ⟨rfl, ?_, ?_⟩ <;> omega); intro σ hc; replace hB := hc.at'; replace hM := hc.keep (by first | assumption | (apply Ne.symm; assumption) | omega) hM; clear hc)
      | (refine w_keep [2, 3, 6, 7, 8, 9] rfl rfl ?_; exact walk_loop1 hel hcl (fun σ Y hM hY => walk_loop2 (by rw [List.length_append]; omega) hkid hM hY) hB hM rfl)
      | refine al_nil ?_ | refine q_then_n ?_ | refine q_blk_n ?_ | refine q_blk_r ?_ | refine q_blk_e ?_
      | refine q_blk_o rfl ?_ | refine q_then_e ?_ | refine aw_block ?_ | refine aw_exit ?_ | refine q_then_r ?_
      | refine aw_seq ?_ | refine aw_reg ?_ | refine aw_true rfl ?_ | refine aw_false rfl ?_ | refine aw_skip ?_
      | refine aw_ret ?_ | refine al_fork ?_ ?_ | refine al_fork3 ?_ ?_ ?_
      | refine aw_draws (id := 8) (trO [1, 3] (.fork 0 (.fork 2 (trO [4, 5, 6, 7] .nil) 4 (.fork 2 (trO [5, 6, 7] .nil) 5 (trO [2, 6, 7] .nil))) 4 (.fork 0 (.fork 2 (trO [5, 6, 7] .nil) 5 (trO [2, 6, 7] .nil)) 5 (trO [0, 2, 6, 7] .nil)))) [0, 2, 4, 5, 6] [2, 6] mixed_ok (by kernel_rfl) ?_)
end
end Go.Proofs.Ytjflembhgjcgkaa
