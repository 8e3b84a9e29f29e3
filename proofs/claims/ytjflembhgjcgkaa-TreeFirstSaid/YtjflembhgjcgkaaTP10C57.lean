/- C57: the law's walk: TreeFirst. -/
import Derived.Test.YtjflembhgjcgkaaTP10C56
import Derived.Test.YtjflembhgjcgkaaTP10M21
import Derived.Test.YtjflembhgjcgkaaTP10C50
import Derived.Test.YtjflembhgjcgkaaTP10XC51C52
import Derived.Test.YtjflembhgjcgkaaTP10XM19C46C55
set_option linter.unusedSimpArgs false
set_option linter.unusedVariables false
namespace Go.Proofs.Ytjflembhgjcgkaa
open Go.RowKit

theorem buildT_err {g : Sg} {l : List Pat} : (buildT g l (mayZ g l)).2 ≠ 0 → (buildT g l (mayZ g l)).1 = bare 0 0 [] [] [] := by
  unfold buildT
  split
  · exact fun _ => rfl
  · simp only
    split
    · exact fun _ => rfl
    · exact fun h => absurd rfl h
theorem buildT_ok {g : Sg} {l : List Pat} : (buildT g l (mayZ g l)).2 = 0 → servesB g = true ∧ togB g l = true ∧ 0 ≤ (buildF g 2002 2000 (rowsOf 0 l)).2 ∧ (buildT g l (mayZ g l)).1 = (buildF g 2002 2000 (rowsOf 0 l)).1 := by
  unfold buildT
  split
  · exact fun h => by contradiction
  · rename_i h0
    simp only
    split
    · intro h; cases h
    · rename_i h1
      intro _
      have h2 : servesB g = true ∧ togB g l = true := by
        unfold mayZ at h0
        split at h0
        · assumption
        · exact absurd (by decide) h0
      exact ⟨h2.1, h2.2, by omega, rfl⟩

noncomputable def X10 : Option Code := match Try.f10.body with
  | some c => findG 10 c
  | none => none
noncomputable def X18 : Option Code := match Try.f10.body with
  | some c => findG 18 c
  | none => none
def carryT (g : Sg) (l : List Pat) (t : TreeT) (vals : List Val) (j : Nat) : List AV := [.d (patsD l), .d (.fptr (sigD g)), .d (.fptr (treeD t)), .d (.lst 4 (valR vals)), .d (.v (.int .i64 ((valR vals).length : Int))), .d (.v (.int .i64 (j : Int)))]
/-- What a round leaves. -/
def RQ (g : Sg) (l : List Pat) (t : TreeT) (vals : List Val) (j : Nat) : Exit → Fr → List AObj → Prop := fun e fr σ =>
  ((e = .normal ∨ e = .exit 1) ∧ getO [1, 3, 7, 45, 46, 47] fr = some (carryT g l t vals j)) ∨ (e = .ret ∧ retQB tab Try.f10 (fun v _ => ∃ d, v = .d d ∧ d = .v (.bool true)) .ret fr σ)
theorem rq_n {g : Sg} {l : List Pat} {t : TreeT} {vals : List Val} {j : Nat} {fr : Fr} {σ : List AObj} (h : getO [1, 3, 7, 45, 46, 47] fr = some (carryT g l t vals j)) : RQ g l t vals j .normal fr σ := .inl ⟨.inl rfl, h⟩
theorem rq_x {g : Sg} {l : List Pat} {t : TreeT} {vals : List Val} {j : Nat} {fr : Fr} {σ : List AObj} (h : getO [1, 3, 7, 45, 46, 47] fr = some (carryT g l t vals j)) : RQ g l t vals j (.exit 1) fr σ := .inl ⟨.inr rfl, h⟩
theorem rq_r {g : Sg} {l : List Pat} {t : TreeT} {vals : List Val} {j : Nat} {fr : Fr} {σ : List AObj} (h : fget fr 6 = .d (.v (.bool true))) : RQ g l t vals j .ret fr σ := .inr ⟨rfl, q_retB (resB_1 rfl (resV_t h)) ⟨_, rfl, rfl⟩⟩
section
variable {g : Sg} {l : List Pat} {t : TreeT} {vals : List Val} {j : Nat} {σ : List AObj}
set_option maxRecDepth 100000 in
set_option maxHeartbeats 16000000 in
theorem first_no {v : Val} {n : Int} {X : Code} (hX : X18 = some X) :
    AWk Try.prog 122 X (RQ g l t vals j) [(1, .d (patsD l)), (3, .d (.fptr (sigD g))), (7, .d (.fptr (treeD t))), (10, .d (.fptr (valD v))), (11, .d (.v (.int .i64 n))), (12, .d (.v (.bool false))), (45, .d (.lst 4 (valR vals))), (46, .d (.v (.int .i64 ((valR vals).length : Int)))), (47, .d (.v (.int .i64 (j : Int))))] σ := by
  cases hX
  repeat' (first
      | refine s_op rfl ?_ | (apply s_skipV; (iterate 2 (exact rfl))) | (apply s_skipU; (iterate 3 (exact rfl))) | (apply s_move; (iterate 4 (exact rfl))) | (apply s_fa_p tab_ok; (iterate 5 (exact rfl)))
      | (apply s_fa_f tab_ok; (iterate 6 (exact rfl))) | (apply s_ld_p tab_ok; (iterate 7 (exact rfl))) | (apply s_ld_f tab_ok; (iterate 6 (exact rfl))) | (apply s_ld_w tab_ok; (iterate 5 (exact rfl)); (first | exact patD_len _ | exact valD_len _ | exact brD_len _ | exact treeD_len _ | exact bindD_len _)) | (apply s_assign; (iterate 4 (exact rfl)))
      | (apply s_pick_t; (iterate 5 (exact rfl))) | (apply s_pick_f; (iterate 5 (exact rfl))) | (apply s_len tab_ok; (iterate 5 (exact rfl))) | (apply s_lens str_ok; (iterate 4 (exact rfl))) | (apply s_idx tab_ok; (iterate 7 (exact rfl)); (first | exact patR_get (by assumption) | exact valR_get (by assumption) | exact row_map (by assumption) | exact brR_get (by assumption) | exact treeR_get (by assumption) | assumption))
      | (apply s_ext; (iterate 5 (exact rfl))) | (apply s_alloc tabZ_ok; (iterate 7 (exact rfl))) | (apply s_boxZ; (iterate 5 (exact rfl)); first | exact rfl | exact allD_mapd _) | (apply s_store tab_ok; (iterate 10 (exact rfl))) | (apply s_not_t; (iterate 4 (exact rfl)))
      | (apply s_not_f; (iterate 4 (exact rfl))) | (apply s_not; (iterate 4 (exact rfl))) | (apply s_eql_t; (iterate 5 (exact rfl)); omega) | (apply s_eql_f; (iterate 5 (exact rfl)); omega) | (apply s_neq_t; (iterate 5 (exact rfl)); omega)
      | (apply s_neq_f; (iterate 5 (exact rfl)); omega) | (apply s_lss_t; (iterate 5 (exact rfl)); omega) | (apply s_lss_f; (iterate 5 (exact rfl)); omega) | (apply s_gtr_t; (iterate 5 (exact rfl)); omega) | (apply s_gtr_f; (iterate 5 (exact rfl)); omega)
      | (apply s_geq_t; (iterate 5 (exact rfl)); omega) | (apply s_geq_f; (iterate 5 (exact rfl)); omega) | (apply s_add64; (iterate 5 (exact rfl)); omega) | (apply s_boolne bool_ok; (iterate 5 (exact rfl)))
      | refine al_nil ?_ | refine q_then_n ?_ | refine q_blk_n ?_ | refine q_blk_r ?_ | refine q_blk_e ?_
      | refine q_blk_o rfl ?_ | refine q_then_e ?_ | refine aw_block ?_ | refine aw_exit ?_ | refine q_then_r ?_
      | refine aw_seq ?_ | refine aw_reg ?_ | refine aw_true rfl ?_ | refine aw_false rfl ?_ | refine aw_skip ?_
      | refine aw_ret ?_ | refine al_fork ?_ ?_ | refine al_fork3 ?_ ?_ ?_
      | refine aw_draws (id := 21) (trO [0, 1, 2, 3, 4, 6] (.fork 5 (trO [7, 8, 9] (.fork 10 (trO [11, 12, 13, 14, 15, 16] .nil) 14 (trO [10, 11, 12, 13, 15, 16] .nil))) 14 (trO [5, 7, 8, 9, 10, 11, 12, 13, 15, 16] .nil))) [5, 10, 14, 15] [15] mixed_ok (by kernel_rfl) ?_)
  refine w_loop [1, 3, 7, 12, 45, 46, 47] (fun n0 vs' σ => vs' = [.d (patsD l), .d (.fptr (sigD g)), .d (.fptr (treeD t)), .d (.v (.bool false)), .d (.lst 4 (valR vals)), .d (.v (.int .i64 ((valR vals).length : Int))), .d (.v (.int .i64 (j : Int)))] ∧ n0 = 0) rfl ⟨rfl, rfl⟩ ?_
  rintro n0 vs' σ ⟨rfl, rfl⟩ fr hfr
  cases hfr
  repeat' (first
      | refine s_op rfl ?_ | (apply s_skipV; (iterate 2 (exact rfl))) | (apply s_skipU; (iterate 3 (exact rfl))) | (apply s_move; (iterate 4 (exact rfl))) | (apply s_fa_p tab_ok; (iterate 5 (exact rfl)))
      | (apply s_fa_f tab_ok; (iterate 6 (exact rfl))) | (apply s_ld_p tab_ok; (iterate 7 (exact rfl))) | (apply s_ld_f tab_ok; (iterate 6 (exact rfl))) | (apply s_ld_w tab_ok; (iterate 5 (exact rfl)); (first | exact patD_len _ | exact valD_len _ | exact brD_len _ | exact treeD_len _ | exact bindD_len _)) | (apply s_assign; (iterate 4 (exact rfl)))
      | (apply s_pick_t; (iterate 5 (exact rfl))) | (apply s_pick_f; (iterate 5 (exact rfl))) | (apply s_len tab_ok; (iterate 5 (exact rfl))) | (apply s_lens str_ok; (iterate 4 (exact rfl))) | (apply s_idx tab_ok; (iterate 7 (exact rfl)); (first | exact patR_get (by assumption) | exact valR_get (by assumption) | exact row_map (by assumption) | exact brR_get (by assumption) | exact treeR_get (by assumption) | assumption))
      | (apply s_ext; (iterate 5 (exact rfl))) | (apply s_alloc tabZ_ok; (iterate 7 (exact rfl))) | (apply s_boxZ; (iterate 5 (exact rfl)); first | exact rfl | exact allD_mapd _) | (apply s_store tab_ok; (iterate 10 (exact rfl))) | (apply s_not_t; (iterate 4 (exact rfl)))
      | (apply s_not_f; (iterate 4 (exact rfl))) | (apply s_not; (iterate 4 (exact rfl))) | (apply s_eql_t; (iterate 5 (exact rfl)); omega) | (apply s_eql_f; (iterate 5 (exact rfl)); omega) | (apply s_neq_t; (iterate 5 (exact rfl)); omega)
      | (apply s_neq_f; (iterate 5 (exact rfl)); omega) | (apply s_lss_t; (iterate 5 (exact rfl)); omega) | (apply s_lss_f; (iterate 5 (exact rfl)); omega) | (apply s_gtr_t; (iterate 5 (exact rfl)); omega) | (apply s_gtr_f; (iterate 5 (exact rfl)); omega)
      | (apply s_geq_t; (iterate 5 (exact rfl)); omega) | (apply s_geq_f; (iterate 5 (exact rfl)); omega) | (apply s_add64; (iterate 5 (exact rfl)); omega) | (apply s_boolne bool_ok; (iterate 5 (exact rfl)))
      | refine al_nil ?_ | refine q_then_n ?_ | refine q_blk_n ?_ | refine q_blk_r ?_ | refine q_blk_e ?_
      | refine q_blk_o rfl ?_ | refine q_then_e ?_ | refine aw_block ?_ | refine aw_exit ?_ | refine q_then_r ?_
      | refine aw_seq ?_ | refine aw_reg ?_ | refine aw_true rfl ?_ | refine aw_false rfl ?_ | refine aw_skip ?_
      | refine aw_ret ?_ | refine al_fork ?_ ?_ | refine al_fork3 ?_ ?_ ?_
      | refine aw_draws (id := 21) (trO [0, 1, 2, 3, 4, 6] (.fork 5 (trO [7, 8, 9] (.fork 10 (trO [11, 12, 13, 14, 15, 16] .nil) 14 (trO [10, 11, 12, 13, 15, 16] .nil))) 14 (trO [5, 7, 8, 9, 10, 11, 12, 13, 15, 16] .nil))) [5, 10, 14, 15] [15] mixed_ok (by kernel_rfl) ?_)
  all_goals exact rq_n rfl
set_option maxRecDepth 100000 in
set_option maxHeartbeats 16000000 in
theorem first_yes {v : Val} {i : Nat} {q : Pat} {L : List BindT} (hq : l[i]? = some q) (hbi : RunsP Try.prog 18 [.agg (patD q)] (fun v => v = .lst 2 (L.map bindD))) (hLl : L.length ≤ 1000000000)
    (hat : ∀ b ∈ L, ∃ w : Val, RunsP Try.prog 41 [.agg (valD v), intsD b.path] (fun r => r = .tup [.agg (valD w), .v (.bool true)])) {X : Code} (hX : X18 = some X) :
    AWk Try.prog 122 X (RQ g l t vals j) [(1, .d (patsD l)), (3, .d (.fptr (sigD g))), (7, .d (.fptr (treeD t))), (10, .d (.fptr (valD v))), (11, .d (.v (.int .i64 (i : Int)))), (12, .d (.v (.bool true))), (45, .d (.lst 4 (valR vals))), (46, .d (.v (.int .i64 ((valR vals).length : Int)))), (47, .d (.v (.int .i64 (j : Int))))] σ := by
  have e1 := patR_len l
  have hil := (List.getElem?_eq_some_iff.1 hq).1
  have e4 : (L.map bindD).length = L.length := by simp
  obtain ⟨vk, vn, vs, vl⟩ := v
  obtain ⟨qk, qn, qi, qs, qa, qb, qc, ql⟩ := q
  cases hX
  repeat' (first
      | refine s_op rfl ?_ | (apply s_skipV; (iterate 2 (exact rfl))) | (apply s_skipU; (iterate 3 (exact rfl))) | (apply s_move; (iterate 4 (exact rfl))) | (apply s_fa_p tab_ok; (iterate 5 (exact rfl)))
      | (apply s_fa_f tab_ok; (iterate 6 (exact rfl))) | (apply s_ld_p tab_ok; (iterate 7 (exact rfl))) | (apply s_ld_f tab_ok; (iterate 6 (exact rfl))) | (apply s_ld_w tab_ok; (iterate 5 (exact rfl)); (first | exact patD_len _ | exact valD_len _ | exact brD_len _ | exact treeD_len _ | exact bindD_len _)) | (apply s_assign; (iterate 4 (exact rfl)))
      | (apply s_pick_t; (iterate 5 (exact rfl))) | (apply s_pick_f; (iterate 5 (exact rfl))) | (apply s_len tab_ok; (iterate 5 (exact rfl))) | (apply s_lens str_ok; (iterate 4 (exact rfl))) | (apply s_idx tab_ok; (iterate 7 (exact rfl)); (first | exact patR_get (by assumption) | exact valR_get (by assumption) | exact row_map (by assumption) | exact brR_get (by assumption) | exact treeR_get (by assumption) | assumption))
      | (apply s_ext; (iterate 5 (exact rfl))) | (apply s_alloc tabZ_ok; (iterate 7 (exact rfl))) | (apply s_boxZ; (iterate 5 (exact rfl)); first | exact rfl | exact allD_mapd _) | (apply s_store tab_ok; (iterate 10 (exact rfl))) | (apply s_not_t; (iterate 4 (exact rfl)))
      | (apply s_not_f; (iterate 4 (exact rfl))) | (apply s_not; (iterate 4 (exact rfl))) | (apply s_eql_t; (iterate 5 (exact rfl)); omega) | (apply s_eql_f; (iterate 5 (exact rfl)); omega) | (apply s_neq_t; (iterate 5 (exact rfl)); omega)
      | (apply s_neq_f; (iterate 5 (exact rfl)); omega) | (apply s_lss_t; (iterate 5 (exact rfl)); omega) | (apply s_lss_f; (iterate 5 (exact rfl)); omega) | (apply s_gtr_t; (iterate 5 (exact rfl)); omega) | (apply s_gtr_f; (iterate 5 (exact rfl)); omega)
      | (apply s_geq_t; (iterate 5 (exact rfl)); omega) | (apply s_geq_f; (iterate 5 (exact rfl)); omega) | (apply s_add64; (iterate 5 (exact rfl)); omega) | (apply s_boolne bool_ok; (iterate 5 (exact rfl)))
      | refine al_nil ?_ | refine q_then_n ?_ | refine q_blk_n ?_ | refine q_blk_r ?_ | refine q_blk_e ?_
      | refine q_blk_o rfl ?_ | refine q_then_e ?_ | refine aw_block ?_ | refine aw_exit ?_ | refine q_then_r ?_
      | refine aw_seq ?_ | refine aw_reg ?_ | refine aw_true rfl ?_ | refine aw_false rfl ?_ | refine aw_skip ?_
      | refine aw_ret ?_ | refine al_fork ?_ ?_ | refine al_fork3 ?_ ?_ ?_
      | refine aw_draws (id := 21) (trO [0, 1, 2, 3, 4, 6] (.fork 5 (trO [7, 8, 9] (.fork 10 (trO [11, 12, 13, 14, 15, 16] .nil) 14 (trO [10, 11, 12, 13, 15, 16] .nil))) 14 (trO [5, 7, 8, 9, 10, 11, 12, 13, 15, 16] .nil))) [5, 10, 14, 15] [15] mixed_ok (by kernel_rfl) ?_)
  refine w_loop [1, 3, 7, 10, 11, 12, 15, 45, 46, 47] (fun n0 vs' σ => ∃ m : Nat, vs' = [.d (patsD l), .d (.fptr (sigD g)), .d (.fptr (treeD t)), .d (.fptr (valD (.mk vk vn vs vl))), .d (.v (.int .i64 (i : Int))), .d (.v (.bool true)), .d (.v (.int .i64 (m : Int))), .d (.lst 4 (valR vals)), .d (.v (.int .i64 ((valR vals).length : Int))), .d (.v (.int .i64 (j : Int)))] ∧ m ≤ L.length ∧ n0 = L.length - m) rfl ⟨0, rfl, by omega, rfl⟩ ?_
  rintro n0 vs' σ ⟨m, rfl, hmL, rfl⟩ fr hfr
  cases hfr
  by_cases hml2 : m < L.length
  · obtain ⟨⟨bn', bp⟩, hx⟩ := getS hml2
    obtain ⟨⟨yk, yn, ys, yl⟩, ha⟩ := hat _ (List.mem_of_getElem? hx)
    simp only at ha
    have hx2 := row_map (f := bindD) hx
    repeat' (first
      | refine s_op rfl ?_ | (apply s_skipV; (iterate 2 (exact rfl))) | (apply s_skipU; (iterate 3 (exact rfl))) | (apply s_move; (iterate 4 (exact rfl))) | (apply s_fa_p tab_ok; (iterate 5 (exact rfl)))
      | (apply s_fa_f tab_ok; (iterate 6 (exact rfl))) | (apply s_ld_p tab_ok; (iterate 7 (exact rfl))) | (apply s_ld_f tab_ok; (iterate 6 (exact rfl))) | (apply s_ld_w tab_ok; (iterate 5 (exact rfl)); (first | exact patD_len _ | exact valD_len _ | exact brD_len _ | exact treeD_len _ | exact bindD_len _)) | (apply s_assign; (iterate 4 (exact rfl)))
      | (apply s_pick_t; (iterate 5 (exact rfl))) | (apply s_pick_f; (iterate 5 (exact rfl))) | (apply s_len tab_ok; (iterate 5 (exact rfl))) | (apply s_lens str_ok; (iterate 4 (exact rfl))) | (apply s_idx tab_ok; (iterate 7 (exact rfl)); (first | exact patR_get (by assumption) | exact valR_get (by assumption) | exact row_map (by assumption) | exact brR_get (by assumption) | exact treeR_get (by assumption) | assumption))
      | (apply s_ext; (iterate 5 (exact rfl))) | (apply s_boxZ; (iterate 5 (exact rfl)); first | exact rfl | exact allD_mapd _) | (apply s_not_t; (iterate 4 (exact rfl))) | (apply s_not_f; (iterate 4 (exact rfl))) | (apply s_not; (iterate 4 (exact rfl)))
      | (apply s_eql_t; (iterate 5 (exact rfl)); omega) | (apply s_eql_f; (iterate 5 (exact rfl)); omega) | (apply s_neq_t; (iterate 5 (exact rfl)); omega) | (apply s_neq_f; (iterate 5 (exact rfl)); omega) | (apply s_lss_t; (iterate 5 (exact rfl)); omega)
      | (apply s_lss_f; (iterate 5 (exact rfl)); omega) | (apply s_gtr_t; (iterate 5 (exact rfl)); omega) | (apply s_gtr_f; (iterate 5 (exact rfl)); omega) | (apply s_geq_t; (iterate 5 (exact rfl)); omega) | (apply s_geq_f; (iterate 5 (exact rfl)); omega)
      | (apply s_add64; (iterate 5 (exact rfl)); omega) | (apply s_boolne bool_ok; (iterate 5 (exact rfl)))
      | (apply s_allocF tabZ_ok (d := 16); (iterate 6 (exact rfl)); intro locT σ hc; have hT := hc.at'; clear hc)
      | (apply s_storeF tab_ok; (iterate 7 (exact rfl)); exact hT; (iterate 2 (exact rfl)); intro σ hc; clear hc hT)
      | (apply s_call; (iterate 6 (exact rfl)); first | (exact hbi; rintro _ rfl) | (exact ha; rintro _ rfl))
      | refine al_nil ?_ | refine q_then_n ?_ | refine q_blk_n ?_ | refine q_blk_r ?_ | refine q_blk_e ?_
      | refine q_blk_o rfl ?_ | refine q_then_e ?_ | refine aw_block ?_ | refine aw_exit ?_ | refine q_then_r ?_
      | refine aw_seq ?_ | refine aw_reg ?_ | refine aw_true rfl ?_ | refine aw_false rfl ?_ | refine aw_skip ?_
      | refine aw_ret ?_ | refine al_fork ?_ ?_ | refine al_fork3 ?_ ?_ ?_
      | refine aw_draws (id := 21) (trO [0, 1, 2, 3, 4, 6] (.fork 5 (trO [7, 8, 9] (.fork 10 (trO [11, 12, 13, 14, 15, 16] .nil) 14 (trO [10, 11, 12, 13, 15, 16] .nil))) 14 (trO [5, 7, 8, 9, 10, 11, 12, 13, 15, 16] .nil))) [5, 10, 14, 15] [15] mixed_ok (by kernel_rfl) ?_)
    all_goals exact ⟨_, _, rfl, by omega, m + 1, rfl, by omega, rfl⟩
  · repeat' (first
      | refine s_op rfl ?_ | (apply s_skipV; (iterate 2 (exact rfl))) | (apply s_skipU; (iterate 3 (exact rfl))) | (apply s_move; (iterate 4 (exact rfl))) | (apply s_fa_p tab_ok; (iterate 5 (exact rfl)))
      | (apply s_fa_f tab_ok; (iterate 6 (exact rfl))) | (apply s_ld_p tab_ok; (iterate 7 (exact rfl))) | (apply s_ld_f tab_ok; (iterate 6 (exact rfl))) | (apply s_ld_w tab_ok; (iterate 5 (exact rfl)); (first | exact patD_len _ | exact valD_len _ | exact brD_len _ | exact treeD_len _ | exact bindD_len _)) | (apply s_assign; (iterate 4 (exact rfl)))
      | (apply s_pick_t; (iterate 5 (exact rfl))) | (apply s_pick_f; (iterate 5 (exact rfl))) | (apply s_len tab_ok; (iterate 5 (exact rfl))) | (apply s_lens str_ok; (iterate 4 (exact rfl))) | (apply s_idx tab_ok; (iterate 7 (exact rfl)); (first | exact patR_get (by assumption) | exact valR_get (by assumption) | exact row_map (by assumption) | exact brR_get (by assumption) | exact treeR_get (by assumption) | assumption))
      | (apply s_ext; (iterate 5 (exact rfl))) | (apply s_alloc tabZ_ok; (iterate 7 (exact rfl))) | (apply s_boxZ; (iterate 5 (exact rfl)); first | exact rfl | exact allD_mapd _) | (apply s_store tab_ok; (iterate 10 (exact rfl))) | (apply s_not_t; (iterate 4 (exact rfl)))
      | (apply s_not_f; (iterate 4 (exact rfl))) | (apply s_not; (iterate 4 (exact rfl))) | (apply s_eql_t; (iterate 5 (exact rfl)); omega) | (apply s_eql_f; (iterate 5 (exact rfl)); omega) | (apply s_neq_t; (iterate 5 (exact rfl)); omega)
      | (apply s_neq_f; (iterate 5 (exact rfl)); omega) | (apply s_lss_t; (iterate 5 (exact rfl)); omega) | (apply s_lss_f; (iterate 5 (exact rfl)); omega) | (apply s_gtr_t; (iterate 5 (exact rfl)); omega) | (apply s_gtr_f; (iterate 5 (exact rfl)); omega)
      | (apply s_geq_t; (iterate 5 (exact rfl)); omega) | (apply s_geq_f; (iterate 5 (exact rfl)); omega) | (apply s_add64; (iterate 5 (exact rfl)); omega) | (apply s_boolne bool_ok; (iterate 5 (exact rfl)))
      | (apply s_call; (iterate 6 (exact rfl)); first | (exact hbi; rintro _ rfl))
      | refine al_nil ?_ | refine q_then_n ?_ | refine q_blk_n ?_ | refine q_blk_r ?_ | refine q_blk_e ?_
      | refine q_blk_o rfl ?_ | refine q_then_e ?_ | refine aw_block ?_ | refine aw_exit ?_ | refine q_then_r ?_
      | refine aw_seq ?_ | refine aw_reg ?_ | refine aw_true rfl ?_ | refine aw_false rfl ?_ | refine aw_skip ?_
      | refine aw_ret ?_ | refine al_fork ?_ ?_ | refine al_fork3 ?_ ?_ ?_
      | refine aw_draws (id := 21) (trO [0, 1, 2, 3, 4, 6] (.fork 5 (trO [7, 8, 9] (.fork 10 (trO [11, 12, 13, 14, 15, 16] .nil) 14 (trO [10, 11, 12, 13, 15, 16] .nil))) 14 (trO [5, 7, 8, 9, 10, 11, 12, 13, 15, 16] .nil))) [5, 10, 14, 15] [15] mixed_ok (by kernel_rfl) ?_)
    all_goals exact rq_n rfl
set_option maxRecDepth 100000 in
set_option maxHeartbeats 16000000 in
theorem round_no {v : Val} (hv0 : vals[j]? = some v) (z1 : RunsP Try.prog 31 [.agg (valD v), .v (.int .i64 0)] (fun r => ∃ z : Int, r = .v (.int .i64 z))) (hgo : RunsP Try.prog 44 [.agg (sigD g), patsD l, .agg (valD v)] (fun r => r = .v (.bool false))) {X : Code} (hX : X10 = some X) :
    AWk Try.prog 122 X (RQ g l t vals j) ([1, 3, 7, 45, 46, 47].zip (carryT g l t vals j)) σ := by
  have e3 := valR_len vals
  have hjl := (List.getElem?_eq_some_iff.1 hv0).1
  obtain ⟨vk, vn, vs, vl⟩ := v
  cases hX
  repeat' (first
      | refine s_op rfl ?_ | (apply s_skipV; (iterate 2 (exact rfl))) | (apply s_skipU; (iterate 3 (exact rfl))) | (apply s_move; (iterate 4 (exact rfl))) | (apply s_fa_p tab_ok; (iterate 5 (exact rfl)))
      | (apply s_fa_f tab_ok; (iterate 6 (exact rfl))) | (apply s_ld_p tab_ok; (iterate 7 (exact rfl))) | (apply s_ld_f tab_ok; (iterate 6 (exact rfl))) | (apply s_ld_w tab_ok; (iterate 5 (exact rfl)); (first | exact patD_len _ | exact valD_len _ | exact brD_len _ | exact treeD_len _ | exact bindD_len _)) | (apply s_assign; (iterate 4 (exact rfl)))
      | (apply s_pick_t; (iterate 5 (exact rfl))) | (apply s_pick_f; (iterate 5 (exact rfl))) | (apply s_len tab_ok; (iterate 5 (exact rfl))) | (apply s_lens str_ok; (iterate 4 (exact rfl))) | (apply s_idx tab_ok; (iterate 7 (exact rfl)); (first | exact patR_get (by assumption) | exact valR_get (by assumption) | exact row_map (by assumption) | exact brR_get (by assumption) | exact treeR_get (by assumption) | assumption))
      | (apply s_ext; (iterate 5 (exact rfl))) | (apply s_boxZ; (iterate 5 (exact rfl)); first | exact rfl | exact allD_mapd _) | (apply s_not_t; (iterate 4 (exact rfl))) | (apply s_not_f; (iterate 4 (exact rfl))) | (apply s_not; (iterate 4 (exact rfl)))
      | (apply s_eql_t; (iterate 5 (exact rfl)); omega) | (apply s_eql_f; (iterate 5 (exact rfl)); omega) | (apply s_neq_t; (iterate 5 (exact rfl)); omega) | (apply s_neq_f; (iterate 5 (exact rfl)); omega) | (apply s_lss_t; (iterate 5 (exact rfl)); omega)
      | (apply s_lss_f; (iterate 5 (exact rfl)); omega) | (apply s_gtr_t; (iterate 5 (exact rfl)); omega) | (apply s_gtr_f; (iterate 5 (exact rfl)); omega) | (apply s_geq_t; (iterate 5 (exact rfl)); omega) | (apply s_geq_f; (iterate 5 (exact rfl)); omega)
      | (apply s_add64; (iterate 5 (exact rfl)); omega) | (apply s_boolne bool_ok; (iterate 5 (exact rfl)))
      | (apply s_call; (iterate 6 (exact rfl)); exact z1; rintro _ ⟨z, rfl⟩)
      | (apply s_gtrS; (iterate 5 (exact rfl)); all_goals intro hz3)
      | (apply s_allocF tabZ_ok (d := 10); (iterate 6 (exact rfl)); intro locT σ hc; have hT := hc.at'; clear hc)
      | (apply s_storeF tab_ok; (iterate 7 (exact rfl)); exact hT; (iterate 2 (exact rfl)); intro σ hc; replace hT := hc.at'; clear hc; refine s_freezeP 10 rfl hT rfl ?_; intro σ hc; clear hc hT)
      | (apply s_call; (iterate 6 (exact rfl)); first | (exact hgo; rintro _ rfl))
      | refine al_nil ?_ | refine q_then_n ?_ | refine q_blk_n ?_ | refine q_blk_r ?_ | refine q_blk_e ?_
      | refine q_blk_o rfl ?_ | refine q_then_e ?_ | refine aw_block ?_ | refine aw_exit ?_ | refine q_then_r ?_
      | refine aw_seq ?_ | refine aw_reg ?_ | refine aw_true rfl ?_ | refine aw_false rfl ?_ | refine aw_skip ?_
      | refine aw_ret ?_ | refine al_fork ?_ ?_ | refine al_fork3 ?_ ?_ ?_
      | refine aw_draws (id := 21) (trO [0, 1, 2, 3, 4, 6] (.fork 5 (trO [7, 8, 9] (.fork 10 (trO [11, 12, 13, 14, 15, 16] .nil) 14 (trO [10, 11, 12, 13, 15, 16] .nil))) 14 (trO [5, 7, 8, 9, 10, 11, 12, 13, 15, 16] .nil))) [5, 10, 14, 15] [15] mixed_ok (by kernel_rfl) ?_)
  all_goals first | exact rq_x rfl | exact rq_r rfl | exact rq_n rfl
set_option maxRecDepth 100000 in
set_option maxHeartbeats 16000000 in
theorem round_yes {v : Val} (hv0 : vals[j]? = some v) (z1 : RunsP Try.prog 31 [.agg (valD v), .v (.int .i64 0)] (fun r => ∃ z : Int, r = .v (.int .i64 z))) (hgo : RunsP Try.prog 44 [.agg (sigD g), patsD l, .agg (valD v)] (fun r => r = .v (.bool true)))
    {n : Int} {b : Bool} (r1 : RunsP Try.prog 37 [.agg (treeD t), .agg (valD v)] (fun r => r = .tup [.v (.int .i64 n), .v (.bool b)])) (f1 : RunsP Try.prog 39 [patsD l, .agg (valD v)] (fun r => r = .tup [.v (.int .i64 n), .v (.bool b)])) (hn : b = true → 0 ≤ n ∧ n < l.length)
    (hin : ∀ {σ : List AObj} (Y : Code), X18 = some Y → AWk Try.prog 122 Y (RQ g l t vals j) [(1, .d (patsD l)), (3, .d (.fptr (sigD g))), (7, .d (.fptr (treeD t))), (10, .d (.fptr (valD v))), (11, .d (.v (.int .i64 n))), (12, .d (.v (.bool b))), (45, .d (.lst 4 (valR vals))), (46, .d (.v (.int .i64 ((valR vals).length : Int)))), (47, .d (.v (.int .i64 (j : Int))))] σ) {X : Code} (hX : X10 = some X) :
    AWk Try.prog 122 X (RQ g l t vals j) ([1, 3, 7, 45, 46, 47].zip (carryT g l t vals j)) σ := by
  have e1 := patR_len l
  have e3 := valR_len vals
  have hjl := (List.getElem?_eq_some_iff.1 hv0).1
  obtain ⟨vk, vn, vs, vl⟩ := v
  obtain ⟨bk, bn, bi, bs, tk, tn, p, c, te⟩ := t
  cases hX
  cases b
  · clear hn
    repeat' (first
      | refine s_op rfl ?_ | (apply s_skipV; (iterate 2 (exact rfl))) | (apply s_skipU; (iterate 3 (exact rfl))) | (apply s_move; (iterate 4 (exact rfl))) | (apply s_fa_p tab_ok; (iterate 5 (exact rfl)))
      | (apply s_fa_f tab_ok; (iterate 6 (exact rfl))) | (apply s_ld_p tab_ok; (iterate 7 (exact rfl))) | (apply s_ld_f tab_ok; (iterate 6 (exact rfl))) | (apply s_ld_w tab_ok; (iterate 5 (exact rfl)); (first | exact patD_len _ | exact valD_len _ | exact brD_len _ | exact treeD_len _ | exact bindD_len _)) | (apply s_assign; (iterate 4 (exact rfl)))
      | (apply s_pick_t; (iterate 5 (exact rfl))) | (apply s_pick_f; (iterate 5 (exact rfl))) | (apply s_len tab_ok; (iterate 5 (exact rfl))) | (apply s_lens str_ok; (iterate 4 (exact rfl))) | (apply s_idx tab_ok; (iterate 7 (exact rfl)); (first | exact patR_get (by assumption) | exact valR_get (by assumption) | exact row_map (by assumption) | exact brR_get (by assumption) | exact treeR_get (by assumption) | assumption))
      | (apply s_ext; (iterate 5 (exact rfl))) | (apply s_boxZ; (iterate 5 (exact rfl)); first | exact rfl | exact allD_mapd _) | (apply s_not_t; (iterate 4 (exact rfl))) | (apply s_not_f; (iterate 4 (exact rfl))) | (apply s_not; (iterate 4 (exact rfl)))
      | (apply s_eql_t; (iterate 5 (exact rfl)); omega) | (apply s_eql_f; (iterate 5 (exact rfl)); omega) | (apply s_neq_t; (iterate 5 (exact rfl)); omega) | (apply s_neq_f; (iterate 5 (exact rfl)); omega) | (apply s_lss_t; (iterate 5 (exact rfl)); omega)
      | (apply s_lss_f; (iterate 5 (exact rfl)); omega) | (apply s_gtr_t; (iterate 5 (exact rfl)); omega) | (apply s_gtr_f; (iterate 5 (exact rfl)); omega) | (apply s_geq_t; (iterate 5 (exact rfl)); omega) | (apply s_geq_f; (iterate 5 (exact rfl)); omega)
      | (apply s_add64; (iterate 5 (exact rfl)); omega) | (apply s_boolne bool_ok; (iterate 5 (exact rfl)))
      | (refine w_keep [1, 3, 7, 10, 11, 12, 45, 46, 47] rfl rfl ?_; exact hin _ rfl)
      | (apply s_call; (iterate 6 (exact rfl)); exact z1; rintro _ ⟨z, rfl⟩)
      | (apply s_gtrS; (iterate 5 (exact rfl)); all_goals intro hz3)
      | (apply s_allocF tabZ_ok (d := 10); (iterate 6 (exact rfl)); intro locT σ hc; have hT := hc.at'; clear hc)
      | (apply s_storeF tab_ok; (iterate 7 (exact rfl)); exact hT; (iterate 2 (exact rfl)); intro σ hc; replace hT := hc.at'; clear hc; refine s_freezeP 10 rfl hT rfl ?_; intro σ hc; clear hc hT)
      | (apply s_call; (iterate 6 (exact rfl)); first | (exact hgo; rintro _ rfl) | (exact r1; rintro _ rfl) | (exact f1; rintro _ rfl))
      | refine al_nil ?_ | refine q_then_n ?_ | refine q_blk_n ?_ | refine q_blk_r ?_ | refine q_blk_e ?_
      | refine q_blk_o rfl ?_ | refine q_then_e ?_ | refine aw_block ?_ | refine aw_exit ?_ | refine q_then_r ?_
      | refine aw_seq ?_ | refine aw_reg ?_ | refine aw_true rfl ?_ | refine aw_false rfl ?_ | refine aw_skip ?_
      | refine aw_ret ?_ | refine al_fork ?_ ?_ | refine al_fork3 ?_ ?_ ?_
      | refine aw_draws (id := 21) (trO [0, 1, 2, 3, 4, 6] (.fork 5 (trO [7, 8, 9] (.fork 10 (trO [11, 12, 13, 14, 15, 16] .nil) 14 (trO [10, 11, 12, 13, 15, 16] .nil))) 14 (trO [5, 7, 8, 9, 10, 11, 12, 13, 15, 16] .nil))) [5, 10, 14, 15] [15] mixed_ok (by kernel_rfl) ?_)
    all_goals first | exact rq_r rfl | exact rq_n rfl
  · obtain ⟨h0, h1⟩ := hn rfl
    repeat' (first
      | refine s_op rfl ?_ | (apply s_skipV; (iterate 2 (exact rfl))) | (apply s_skipU; (iterate 3 (exact rfl))) | (apply s_move; (iterate 4 (exact rfl))) | (apply s_fa_p tab_ok; (iterate 5 (exact rfl)))
      | (apply s_fa_f tab_ok; (iterate 6 (exact rfl))) | (apply s_ld_p tab_ok; (iterate 7 (exact rfl))) | (apply s_ld_f tab_ok; (iterate 6 (exact rfl))) | (apply s_ld_w tab_ok; (iterate 5 (exact rfl)); (first | exact patD_len _ | exact valD_len _ | exact brD_len _ | exact treeD_len _ | exact bindD_len _)) | (apply s_assign; (iterate 4 (exact rfl)))
      | (apply s_pick_t; (iterate 5 (exact rfl))) | (apply s_pick_f; (iterate 5 (exact rfl))) | (apply s_len tab_ok; (iterate 5 (exact rfl))) | (apply s_lens str_ok; (iterate 4 (exact rfl))) | (apply s_idx tab_ok; (iterate 7 (exact rfl)); (first | exact patR_get (by assumption) | exact valR_get (by assumption) | exact row_map (by assumption) | exact brR_get (by assumption) | exact treeR_get (by assumption) | assumption))
      | (apply s_ext; (iterate 5 (exact rfl))) | (apply s_boxZ; (iterate 5 (exact rfl)); first | exact rfl | exact allD_mapd _) | (apply s_not_t; (iterate 4 (exact rfl))) | (apply s_not_f; (iterate 4 (exact rfl))) | (apply s_not; (iterate 4 (exact rfl)))
      | (apply s_eql_t; (iterate 5 (exact rfl)); omega) | (apply s_eql_f; (iterate 5 (exact rfl)); omega) | (apply s_neq_t; (iterate 5 (exact rfl)); omega) | (apply s_neq_f; (iterate 5 (exact rfl)); omega) | (apply s_lss_t; (iterate 5 (exact rfl)); omega)
      | (apply s_lss_f; (iterate 5 (exact rfl)); omega) | (apply s_gtr_t; (iterate 5 (exact rfl)); omega) | (apply s_gtr_f; (iterate 5 (exact rfl)); omega) | (apply s_geq_t; (iterate 5 (exact rfl)); omega) | (apply s_geq_f; (iterate 5 (exact rfl)); omega)
      | (apply s_add64; (iterate 5 (exact rfl)); omega) | (apply s_boolne bool_ok; (iterate 5 (exact rfl)))
      | (refine w_keep [1, 3, 7, 10, 11, 12, 45, 46, 47] rfl rfl ?_; exact hin _ rfl)
      | (apply s_call; (iterate 6 (exact rfl)); exact z1; rintro _ ⟨z, rfl⟩)
      | (apply s_gtrS; (iterate 5 (exact rfl)); all_goals intro hz3)
      | (apply s_allocF tabZ_ok (d := 10); (iterate 6 (exact rfl)); intro locT σ hc; have hT := hc.at'; clear hc)
      | (apply s_storeF tab_ok; (iterate 7 (exact rfl)); exact hT; (iterate 2 (exact rfl)); intro σ hc; replace hT := hc.at'; clear hc; refine s_freezeP 10 rfl hT rfl ?_; intro σ hc; clear hc hT)
      | (apply s_call; (iterate 6 (exact rfl)); first | (exact hgo; rintro _ rfl) | (exact r1; rintro _ rfl) | (exact f1; rintro _ rfl))
      | refine al_nil ?_ | refine q_then_n ?_ | refine q_blk_n ?_ | refine q_blk_r ?_ | refine q_blk_e ?_
      | refine q_blk_o rfl ?_ | refine q_then_e ?_ | refine aw_block ?_ | refine aw_exit ?_ | refine q_then_r ?_
      | refine aw_seq ?_ | refine aw_reg ?_ | refine aw_true rfl ?_ | refine aw_false rfl ?_ | refine aw_skip ?_
      | refine aw_ret ?_ | refine al_fork ?_ ?_ | refine al_fork3 ?_ ?_ ?_
      | refine aw_draws (id := 21) (trO [0, 1, 2, 3, 4, 6] (.fork 5 (trO [7, 8, 9] (.fork 10 (trO [11, 12, 13, 14, 15, 16] .nil) 14 (trO [10, 11, 12, 13, 15, 16] .nil))) 14 (trO [5, 7, 8, 9, 10, 11, 12, 13, 15, 16] .nil))) [5, 10, 14, 15] [15] mixed_ok (by kernel_rfl) ?_)
    all_goals first | exact rq_r rfl | exact rq_n rfl
end
set_option maxRecDepth 100000 in
set_option maxHeartbeats 16000000 in
theorem first_walk {g : Sg} {l : List Pat} {t : TreeT} {vals : List Val} {K : Prop} (hkn : RunsP Try.prog 12 [] (fun v => v = .v (.bool true))) (hgr : RunsP Try.prog 13 [.agg (sigD g), patsD l] (fun v => ∃ b : Bool, v = .v (.bool b) ∧ (b = false → K))) (b1 : RunsP Try.prog 14 [.agg (sigD g), patsD l] (fun v => v = builtD (t, 0))) (hvl : vals.length ≤ 140737488355328)
    (hround : ∀ (j : Nat) (σ : List AObj) (X : Code), j < vals.length → X10 = some X → AWk Try.prog 122 X (RQ g l t vals j) ([1, 3, 7, 45, 46, 47].zip (carryT g l t vals j)) σ) :
    RunsP Try.prog 10 [.agg (sigD g), patsD l, .lst 4 (valR vals)] (fun r => r = .v (.bool true)) := by
  have e1 := patR_len l
  have e3 := valR_len vals
  obtain ⟨bk, bn, bi, bs, k, n, p, c, te⟩ := t
  refine enterPB 122 tab_ok Try.func10 rfl (by kernel_rfl) rfl rfl rfl ?_
  repeat' (first
      | refine s_op rfl ?_ | (apply s_skipV; (iterate 2 (exact rfl))) | (apply s_skipU; (iterate 3 (exact rfl))) | (apply s_move; (iterate 4 (exact rfl))) | (apply s_fa_p tab_ok; (iterate 5 (exact rfl)))
      | (apply s_fa_f tab_ok; (iterate 6 (exact rfl))) | (apply s_ld_p tab_ok; (iterate 7 (exact rfl))) | (apply s_ld_f tab_ok; (iterate 6 (exact rfl))) | (apply s_ld_w tab_ok; (iterate 5 (exact rfl)); (first | exact patD_len _ | exact valD_len _ | exact brD_len _ | exact treeD_len _ | exact bindD_len _)) | (apply s_assign; (iterate 4 (exact rfl)))
      | (apply s_pick_t; (iterate 5 (exact rfl))) | (apply s_pick_f; (iterate 5 (exact rfl))) | (apply s_len tab_ok; (iterate 5 (exact rfl))) | (apply s_lens str_ok; (iterate 4 (exact rfl))) | (apply s_idx tab_ok; (iterate 7 (exact rfl)); (first | exact patR_get (by assumption) | exact valR_get (by assumption) | exact row_map (by assumption) | exact brR_get (by assumption) | exact treeR_get (by assumption) | assumption))
      | (apply s_ext; (iterate 5 (exact rfl))) | (apply s_boxZ; (iterate 5 (exact rfl)); first | exact rfl | exact allD_mapd _) | (apply s_not_t; (iterate 4 (exact rfl))) | (apply s_not_f; (iterate 4 (exact rfl))) | (apply s_not; (iterate 4 (exact rfl)))
      | (apply s_eql_t; (iterate 5 (exact rfl)); omega) | (apply s_eql_f; (iterate 5 (exact rfl)); omega) | (apply s_neq_t; (iterate 5 (exact rfl)); omega) | (apply s_neq_f; (iterate 5 (exact rfl)); omega) | (apply s_lss_t; (iterate 5 (exact rfl)); omega)
      | (apply s_lss_f; (iterate 5 (exact rfl)); omega) | (apply s_gtr_t; (iterate 5 (exact rfl)); omega) | (apply s_gtr_f; (iterate 5 (exact rfl)); omega) | (apply s_geq_t; (iterate 5 (exact rfl)); omega) | (apply s_geq_f; (iterate 5 (exact rfl)); omega)
      | (apply s_add64; (iterate 5 (exact rfl)); omega) | (apply s_boolne bool_ok; (iterate 5 (exact rfl)))
      | (apply s_call; (iterate 6 (exact rfl)); exact hgr; rintro _ ⟨b, rfl, hb⟩; cases b)
      | (apply s_allocF tabZ_ok (d := 7); (iterate 6 (exact rfl)); intro locT σ hc; have hT := hc.at'; clear hc)
      | (apply s_storeF tab_ok; (iterate 7 (exact rfl)); exact hT; (iterate 2 (exact rfl)); intro σ hc; replace hT := hc.at'; clear hc; refine s_freezeP 7 rfl hT rfl ?_; intro σ hc; clear hc hT)
      | (apply s_gtrS; (iterate 5 (exact rfl)); all_goals intro hz3)
      | (apply s_call; (iterate 6 (exact rfl)); first | (exact hkn; rintro _ rfl) | (exact b1; rintro _ rfl))
      | refine al_nil ?_ | refine q_then_n ?_ | refine q_blk_n ?_ | refine q_blk_r ?_ | refine q_blk_e ?_
      | refine q_blk_o rfl ?_ | refine q_then_e ?_ | refine aw_block ?_ | refine aw_exit ?_ | refine q_then_r ?_
      | refine aw_seq ?_ | refine aw_reg ?_ | refine aw_true rfl ?_ | refine aw_false rfl ?_ | refine aw_skip ?_
      | refine aw_ret ?_ | refine al_fork ?_ ?_ | refine al_fork3 ?_ ?_ ?_
      | refine aw_draws (id := 21) (trO [0, 1, 2, 3, 4, 6] (.fork 5 (trO [7, 8, 9] (.fork 10 (trO [11, 12, 13, 14, 15, 16] .nil) 14 (trO [10, 11, 12, 13, 15, 16] .nil))) 14 (trO [5, 7, 8, 9, 10, 11, 12, 13, 15, 16] .nil))) [5, 10, 14, 15] [15] mixed_ok (by kernel_rfl) ?_)
  all_goals first | exact q_retB (resB_1 rfl (resV_t rfl)) ⟨_, rfl, rfl⟩ | skip
  clear b1 hgr hkn
  refine w_loop [1, 3, 7, 45, 46, 47] (fun n0 vs' σ => ∃ j : Nat, vs' = carryT g l (.mk bk bn bi bs k n p c te) vals j ∧ j ≤ vals.length ∧ n0 = vals.length - j) rfl ⟨0, rfl, by omega, rfl⟩ ?_
  rintro n0 vs' σ ⟨j, rfl, hj, rfl⟩ fr hfr
  cases hfr
  by_cases hjl : j < vals.length
  · repeat' (first
      | refine s_op rfl ?_ | (apply s_skipV; (iterate 2 (exact rfl))) | (apply s_skipU; (iterate 3 (exact rfl))) | (apply s_move; (iterate 4 (exact rfl))) | (apply s_fa_p tab_ok; (iterate 5 (exact rfl)))
      | (apply s_fa_f tab_ok; (iterate 6 (exact rfl))) | (apply s_ld_p tab_ok; (iterate 7 (exact rfl))) | (apply s_ld_f tab_ok; (iterate 6 (exact rfl))) | (apply s_ld_w tab_ok; (iterate 5 (exact rfl)); (first | exact patD_len _ | exact valD_len _ | exact brD_len _ | exact treeD_len _ | exact bindD_len _)) | (apply s_assign; (iterate 4 (exact rfl)))
      | (apply s_pick_t; (iterate 5 (exact rfl))) | (apply s_pick_f; (iterate 5 (exact rfl))) | (apply s_len tab_ok; (iterate 5 (exact rfl))) | (apply s_lens str_ok; (iterate 4 (exact rfl))) | (apply s_idx tab_ok; (iterate 7 (exact rfl)); (first | exact patR_get (by assumption) | exact valR_get (by assumption) | exact row_map (by assumption) | exact brR_get (by assumption) | exact treeR_get (by assumption) | assumption))
      | (apply s_ext; (iterate 5 (exact rfl))) | (apply s_alloc tabZ_ok; (iterate 7 (exact rfl))) | (apply s_boxZ; (iterate 5 (exact rfl)); first | exact rfl | exact allD_mapd _) | (apply s_store tab_ok; (iterate 10 (exact rfl))) | (apply s_not_t; (iterate 4 (exact rfl)))
      | (apply s_not_f; (iterate 4 (exact rfl))) | (apply s_not; (iterate 4 (exact rfl))) | (apply s_eql_t; (iterate 5 (exact rfl)); omega) | (apply s_eql_f; (iterate 5 (exact rfl)); omega) | (apply s_neq_t; (iterate 5 (exact rfl)); omega)
      | (apply s_neq_f; (iterate 5 (exact rfl)); omega) | (apply s_lss_t; (iterate 5 (exact rfl)); omega) | (apply s_lss_f; (iterate 5 (exact rfl)); omega) | (apply s_gtr_t; (iterate 5 (exact rfl)); omega) | (apply s_gtr_f; (iterate 5 (exact rfl)); omega)
      | (apply s_geq_t; (iterate 5 (exact rfl)); omega) | (apply s_geq_f; (iterate 5 (exact rfl)); omega) | (apply s_add64; (iterate 5 (exact rfl)); omega) | (apply s_boolne bool_ok; (iterate 5 (exact rfl)))
      | (refine w_keep [1, 3, 7, 45, 46, 47] rfl rfl ?_; refine AWk.mono (hround j _ _ hjl rfl) ?_)
      | refine al_nil ?_ | refine q_then_n ?_ | refine q_blk_n ?_ | refine q_blk_r ?_ | refine q_blk_e ?_
      | refine q_blk_o rfl ?_ | refine q_then_e ?_ | refine aw_block ?_ | refine aw_exit ?_ | refine q_then_r ?_
      | refine aw_seq ?_ | refine aw_reg ?_ | refine aw_true rfl ?_ | refine aw_false rfl ?_ | refine aw_skip ?_
      | refine aw_ret ?_ | refine al_fork ?_ ?_ | refine al_fork3 ?_ ?_ ?_
      | refine aw_draws (id := 21) (trO [0, 1, 2, 3, 4, 6] (.fork 5 (trO [7, 8, 9] (.fork 10 (trO [11, 12, 13, 14, 15, 16] .nil) 14 (trO [10, 11, 12, 13, 15, 16] .nil))) 14 (trO [5, 7, 8, 9, 10, 11, 12, 13, 15, 16] .nil))) [5, 10, 14, 15] [15] mixed_ok (by kernel_rfl) ?_)
    rintro e fr σ (⟨rfl | rfl, hv⟩ | ⟨rfl, h⟩)
    · repeat' (first | refine q_then_n ?_ | refine q_blk_n ?_)
      refine w_keep [1, 3, 7, 45, 46, 47] hv rfl ?_
      clear hv
      repeat' (first
      | refine s_op rfl ?_ | (apply s_skipV; (iterate 2 (exact rfl))) | (apply s_skipU; (iterate 3 (exact rfl))) | (apply s_move; (iterate 4 (exact rfl))) | (apply s_fa_p tab_ok; (iterate 5 (exact rfl)))
      | (apply s_fa_f tab_ok; (iterate 6 (exact rfl))) | (apply s_ld_p tab_ok; (iterate 7 (exact rfl))) | (apply s_ld_f tab_ok; (iterate 6 (exact rfl))) | (apply s_ld_w tab_ok; (iterate 5 (exact rfl)); (first | exact patD_len _ | exact valD_len _ | exact brD_len _ | exact treeD_len _ | exact bindD_len _)) | (apply s_assign; (iterate 4 (exact rfl)))
      | (apply s_pick_t; (iterate 5 (exact rfl))) | (apply s_pick_f; (iterate 5 (exact rfl))) | (apply s_len tab_ok; (iterate 5 (exact rfl))) | (apply s_lens str_ok; (iterate 4 (exact rfl))) | (apply s_idx tab_ok; (iterate 7 (exact rfl)); (first | exact patR_get (by assumption) | exact valR_get (by assumption) | exact row_map (by assumption) | exact brR_get (by assumption) | exact treeR_get (by assumption) | assumption))
      | (apply s_ext; (iterate 5 (exact rfl))) | (apply s_alloc tabZ_ok; (iterate 7 (exact rfl))) | (apply s_boxZ; (iterate 5 (exact rfl)); first | exact rfl | exact allD_mapd _) | (apply s_store tab_ok; (iterate 10 (exact rfl))) | (apply s_not_t; (iterate 4 (exact rfl)))
      | (apply s_not_f; (iterate 4 (exact rfl))) | (apply s_not; (iterate 4 (exact rfl))) | (apply s_eql_t; (iterate 5 (exact rfl)); omega) | (apply s_eql_f; (iterate 5 (exact rfl)); omega) | (apply s_neq_t; (iterate 5 (exact rfl)); omega)
      | (apply s_neq_f; (iterate 5 (exact rfl)); omega) | (apply s_lss_t; (iterate 5 (exact rfl)); omega) | (apply s_lss_f; (iterate 5 (exact rfl)); omega) | (apply s_gtr_t; (iterate 5 (exact rfl)); omega) | (apply s_gtr_f; (iterate 5 (exact rfl)); omega)
      | (apply s_geq_t; (iterate 5 (exact rfl)); omega) | (apply s_geq_f; (iterate 5 (exact rfl)); omega) | (apply s_add64; (iterate 5 (exact rfl)); omega) | (apply s_boolne bool_ok; (iterate 5 (exact rfl)))
      | refine al_nil ?_ | refine q_then_n ?_ | refine q_blk_n ?_ | refine q_blk_r ?_ | refine q_blk_e ?_
      | refine q_blk_o rfl ?_ | refine q_then_e ?_ | refine aw_block ?_ | refine aw_exit ?_ | refine q_then_r ?_
      | refine aw_seq ?_ | refine aw_reg ?_ | refine aw_true rfl ?_ | refine aw_false rfl ?_ | refine aw_skip ?_
      | refine aw_ret ?_ | refine al_fork ?_ ?_ | refine al_fork3 ?_ ?_ ?_
      | refine aw_draws (id := 21) (trO [0, 1, 2, 3, 4, 6] (.fork 5 (trO [7, 8, 9] (.fork 10 (trO [11, 12, 13, 14, 15, 16] .nil) 14 (trO [10, 11, 12, 13, 15, 16] .nil))) 14 (trO [5, 7, 8, 9, 10, 11, 12, 13, 15, 16] .nil))) [5, 10, 14, 15] [15] mixed_ok (by kernel_rfl) ?_)
      all_goals exact ⟨_, _, rfl, by omega, j + 1, rfl, by omega, rfl⟩
    · repeat' (first | refine q_blk_e ?_ | refine q_then_n ?_ | refine q_blk_n ?_)
      refine w_keep [1, 3, 7, 45, 46, 47] hv rfl ?_
      clear hv
      repeat' (first
      | refine s_op rfl ?_ | (apply s_skipV; (iterate 2 (exact rfl))) | (apply s_skipU; (iterate 3 (exact rfl))) | (apply s_move; (iterate 4 (exact rfl))) | (apply s_fa_p tab_ok; (iterate 5 (exact rfl)))
      | (apply s_fa_f tab_ok; (iterate 6 (exact rfl))) | (apply s_ld_p tab_ok; (iterate 7 (exact rfl))) | (apply s_ld_f tab_ok; (iterate 6 (exact rfl))) | (apply s_ld_w tab_ok; (iterate 5 (exact rfl)); (first | exact patD_len _ | exact valD_len _ | exact brD_len _ | exact treeD_len _ | exact bindD_len _)) | (apply s_assign; (iterate 4 (exact rfl)))
      | (apply s_pick_t; (iterate 5 (exact rfl))) | (apply s_pick_f; (iterate 5 (exact rfl))) | (apply s_len tab_ok; (iterate 5 (exact rfl))) | (apply s_lens str_ok; (iterate 4 (exact rfl))) | (apply s_idx tab_ok; (iterate 7 (exact rfl)); (first | exact patR_get (by assumption) | exact valR_get (by assumption) | exact row_map (by assumption) | exact brR_get (by assumption) | exact treeR_get (by assumption) | assumption))
      | (apply s_ext; (iterate 5 (exact rfl))) | (apply s_alloc tabZ_ok; (iterate 7 (exact rfl))) | (apply s_boxZ; (iterate 5 (exact rfl)); first | exact rfl | exact allD_mapd _) | (apply s_store tab_ok; (iterate 10 (exact rfl))) | (apply s_not_t; (iterate 4 (exact rfl)))
      | (apply s_not_f; (iterate 4 (exact rfl))) | (apply s_not; (iterate 4 (exact rfl))) | (apply s_eql_t; (iterate 5 (exact rfl)); omega) | (apply s_eql_f; (iterate 5 (exact rfl)); omega) | (apply s_neq_t; (iterate 5 (exact rfl)); omega)
      | (apply s_neq_f; (iterate 5 (exact rfl)); omega) | (apply s_lss_t; (iterate 5 (exact rfl)); omega) | (apply s_lss_f; (iterate 5 (exact rfl)); omega) | (apply s_gtr_t; (iterate 5 (exact rfl)); omega) | (apply s_gtr_f; (iterate 5 (exact rfl)); omega)
      | (apply s_geq_t; (iterate 5 (exact rfl)); omega) | (apply s_geq_f; (iterate 5 (exact rfl)); omega) | (apply s_add64; (iterate 5 (exact rfl)); omega) | (apply s_boolne bool_ok; (iterate 5 (exact rfl)))
      | refine al_nil ?_ | refine q_then_n ?_ | refine q_blk_n ?_ | refine q_blk_r ?_ | refine q_blk_e ?_
      | refine q_blk_o rfl ?_ | refine q_then_e ?_ | refine aw_block ?_ | refine aw_exit ?_ | refine q_then_r ?_
      | refine aw_seq ?_ | refine aw_reg ?_ | refine aw_true rfl ?_ | refine aw_false rfl ?_ | refine aw_skip ?_
      | refine aw_ret ?_ | refine al_fork ?_ ?_ | refine al_fork3 ?_ ?_ ?_
      | refine aw_draws (id := 21) (trO [0, 1, 2, 3, 4, 6] (.fork 5 (trO [7, 8, 9] (.fork 10 (trO [11, 12, 13, 14, 15, 16] .nil) 14 (trO [10, 11, 12, 13, 15, 16] .nil))) 14 (trO [5, 7, 8, 9, 10, 11, 12, 13, 15, 16] .nil))) [5, 10, 14, 15] [15] mixed_ok (by kernel_rfl) ?_)
      all_goals exact ⟨_, _, rfl, by omega, j + 1, rfl, by omega, rfl⟩
    · repeat' (first | refine q_then_r ?_ | refine q_blk_r ?_)
      exact h
  · repeat' (first
      | refine s_op rfl ?_ | (apply s_skipV; (iterate 2 (exact rfl))) | (apply s_skipU; (iterate 3 (exact rfl))) | (apply s_move; (iterate 4 (exact rfl))) | (apply s_fa_p tab_ok; (iterate 5 (exact rfl)))
      | (apply s_fa_f tab_ok; (iterate 6 (exact rfl))) | (apply s_ld_p tab_ok; (iterate 7 (exact rfl))) | (apply s_ld_f tab_ok; (iterate 6 (exact rfl))) | (apply s_ld_w tab_ok; (iterate 5 (exact rfl)); (first | exact patD_len _ | exact valD_len _ | exact brD_len _ | exact treeD_len _ | exact bindD_len _)) | (apply s_assign; (iterate 4 (exact rfl)))
      | (apply s_pick_t; (iterate 5 (exact rfl))) | (apply s_pick_f; (iterate 5 (exact rfl))) | (apply s_len tab_ok; (iterate 5 (exact rfl))) | (apply s_lens str_ok; (iterate 4 (exact rfl))) | (apply s_idx tab_ok; (iterate 7 (exact rfl)); (first | exact patR_get (by assumption) | exact valR_get (by assumption) | exact row_map (by assumption) | exact brR_get (by assumption) | exact treeR_get (by assumption) | assumption))
      | (apply s_ext; (iterate 5 (exact rfl))) | (apply s_alloc tabZ_ok; (iterate 7 (exact rfl))) | (apply s_boxZ; (iterate 5 (exact rfl)); first | exact rfl | exact allD_mapd _) | (apply s_store tab_ok; (iterate 10 (exact rfl))) | (apply s_not_t; (iterate 4 (exact rfl)))
      | (apply s_not_f; (iterate 4 (exact rfl))) | (apply s_not; (iterate 4 (exact rfl))) | (apply s_eql_t; (iterate 5 (exact rfl)); omega) | (apply s_eql_f; (iterate 5 (exact rfl)); omega) | (apply s_neq_t; (iterate 5 (exact rfl)); omega)
      | (apply s_neq_f; (iterate 5 (exact rfl)); omega) | (apply s_lss_t; (iterate 5 (exact rfl)); omega) | (apply s_lss_f; (iterate 5 (exact rfl)); omega) | (apply s_gtr_t; (iterate 5 (exact rfl)); omega) | (apply s_gtr_f; (iterate 5 (exact rfl)); omega)
      | (apply s_geq_t; (iterate 5 (exact rfl)); omega) | (apply s_geq_f; (iterate 5 (exact rfl)); omega) | (apply s_add64; (iterate 5 (exact rfl)); omega) | (apply s_boolne bool_ok; (iterate 5 (exact rfl)))
      | refine al_nil ?_ | refine q_then_n ?_ | refine q_blk_n ?_ | refine q_blk_r ?_ | refine q_blk_e ?_
      | refine q_blk_o rfl ?_ | refine q_then_e ?_ | refine aw_block ?_ | refine aw_exit ?_ | refine q_then_r ?_
      | refine aw_seq ?_ | refine aw_reg ?_ | refine aw_true rfl ?_ | refine aw_false rfl ?_ | refine aw_skip ?_
      | refine aw_ret ?_ | refine al_fork ?_ ?_ | refine al_fork3 ?_ ?_ ?_
      | refine aw_draws (id := 21) (trO [0, 1, 2, 3, 4, 6] (.fork 5 (trO [7, 8, 9] (.fork 10 (trO [11, 12, 13, 14, 15, 16] .nil) 14 (trO [10, 11, 12, 13, 15, 16] .nil))) 14 (trO [5, 7, 8, 9, 10, 11, 12, 13, 15, 16] .nil))) [5, 10, 14, 15] [15] mixed_ok (by kernel_rfl) ?_)
    all_goals exact q_retB (resB_1 rfl (resV_t rfl)) ⟨_, rfl, rfl⟩
set_option maxRecDepth 100000 in
set_option maxHeartbeats 16000000 in
theorem first_err {g : Sg} {l : List Pat} {vals : List Val} {e : Int} (he : e ≠ 0) {K : Prop} (hkn : RunsP Try.prog 12 [] (fun v => v = .v (.bool true))) (hgr : RunsP Try.prog 13 [.agg (sigD g), patsD l] (fun v => ∃ b : Bool, v = .v (.bool b) ∧ (b = false → K))) (b1 : RunsP Try.prog 14 [.agg (sigD g), patsD l] (fun v => v = builtD (bare 0 0 [] [] [], e))) (hvl : vals.length ≤ 140737488355328) :
    RunsP Try.prog 10 [.agg (sigD g), patsD l, .lst 4 (valR vals)] (fun r => r = .v (.bool true)) := by
  have e3 := valR_len vals
  have e0 : (brR ([] : List TreeT)).length = 0 := rfl
  refine enterPB 122 tab_ok Try.func10 rfl (by kernel_rfl) rfl rfl rfl ?_
  repeat' (first
      | refine s_op rfl ?_ | (apply s_skipV; (iterate 2 (exact rfl))) | (apply s_skipU; (iterate 3 (exact rfl))) | (apply s_move; (iterate 4 (exact rfl))) | (apply s_fa_p tab_ok; (iterate 5 (exact rfl)))
      | (apply s_fa_f tab_ok; (iterate 6 (exact rfl))) | (apply s_ld_p tab_ok; (iterate 7 (exact rfl))) | (apply s_ld_f tab_ok; (iterate 6 (exact rfl))) | (apply s_ld_w tab_ok; (iterate 5 (exact rfl)); (first | exact patD_len _ | exact valD_len _ | exact brD_len _ | exact treeD_len _ | exact bindD_len _)) | (apply s_assign; (iterate 4 (exact rfl)))
      | (apply s_pick_t; (iterate 5 (exact rfl))) | (apply s_pick_f; (iterate 5 (exact rfl))) | (apply s_len tab_ok; (iterate 5 (exact rfl))) | (apply s_lens str_ok; (iterate 4 (exact rfl))) | (apply s_idx tab_ok; (iterate 7 (exact rfl)); (first | exact patR_get (by assumption) | exact valR_get (by assumption) | exact row_map (by assumption) | exact brR_get (by assumption) | exact treeR_get (by assumption) | assumption))
      | (apply s_ext; (iterate 5 (exact rfl))) | (apply s_boxZ; (iterate 5 (exact rfl)); first | exact rfl | exact allD_mapd _) | (apply s_not_t; (iterate 4 (exact rfl))) | (apply s_not_f; (iterate 4 (exact rfl))) | (apply s_not; (iterate 4 (exact rfl)))
      | (apply s_eql_t; (iterate 5 (exact rfl)); omega) | (apply s_eql_f; (iterate 5 (exact rfl)); omega) | (apply s_neq_t; (iterate 5 (exact rfl)); omega) | (apply s_neq_f; (iterate 5 (exact rfl)); omega) | (apply s_lss_t; (iterate 5 (exact rfl)); omega)
      | (apply s_lss_f; (iterate 5 (exact rfl)); omega) | (apply s_gtr_t; (iterate 5 (exact rfl)); omega) | (apply s_gtr_f; (iterate 5 (exact rfl)); omega) | (apply s_geq_t; (iterate 5 (exact rfl)); omega) | (apply s_geq_f; (iterate 5 (exact rfl)); omega)
      | (apply s_add64; (iterate 5 (exact rfl)); omega) | (apply s_boolne bool_ok; (iterate 5 (exact rfl)))
      | (apply s_call; (iterate 6 (exact rfl)); exact hgr; rintro _ ⟨b, rfl, hb⟩; cases b)
      | (apply s_allocF tabZ_ok (d := 7); (iterate 6 (exact rfl)); intro locT σ hc; have hT := hc.at'; clear hc)
      | (apply s_storeF tab_ok; (iterate 7 (exact rfl)); exact hT; (iterate 2 (exact rfl)); intro σ hc; replace hT := hc.at'; clear hc; refine s_freezeP 7 rfl hT rfl ?_; intro σ hc; clear hc hT)
      | (apply s_gtrS; (iterate 5 (exact rfl)); all_goals intro hz3)
      | (apply s_call; (iterate 6 (exact rfl)); first | (exact hkn; rintro _ rfl) | (exact b1; rintro _ rfl))
      | refine al_nil ?_ | refine q_then_n ?_ | refine q_blk_n ?_ | refine q_blk_r ?_ | refine q_blk_e ?_
      | refine q_blk_o rfl ?_ | refine q_then_e ?_ | refine aw_block ?_ | refine aw_exit ?_ | refine q_then_r ?_
      | refine aw_seq ?_ | refine aw_reg ?_ | refine aw_true rfl ?_ | refine aw_false rfl ?_ | refine aw_skip ?_
      | refine aw_ret ?_ | refine al_fork ?_ ?_ | refine al_fork3 ?_ ?_ ?_
      | refine aw_draws (id := 21) (trO [0, 1, 2, 3, 4, 6] (.fork 5 (trO [7, 8, 9] (.fork 10 (trO [11, 12, 13, 14, 15, 16] .nil) 14 (trO [10, 11, 12, 13, 15, 16] .nil))) 14 (trO [5, 7, 8, 9, 10, 11, 12, 13, 15, 16] .nil))) [5, 10, 14, 15] [15] mixed_ok (by kernel_rfl) ?_)
  all_goals exact q_retB (resB_1 rfl (resV_t rfl)) ⟨_, rfl, rfl⟩
set_option maxRecDepth 100000 in
set_option maxHeartbeats 16000000 in
theorem first_great {g : Sg} {l : List Pat} {vals : List Val} {K : Prop} (hK : ¬ K) (hkn : RunsP Try.prog 12 [] (fun v => v = .v (.bool true))) (hgr : RunsP Try.prog 13 [.agg (sigD g), patsD l] (fun v => ∃ b : Bool, v = .v (.bool b) ∧ (b = false → K))) :
    RunsP Try.prog 10 [.agg (sigD g), patsD l, .lst 4 (valR vals)] (fun r => r = .v (.bool true)) := by
  refine enterPB 122 tab_ok Try.func10 rfl (by kernel_rfl) rfl rfl rfl ?_
  repeat' (first
      | refine s_op rfl ?_ | (apply s_skipV; (iterate 2 (exact rfl))) | (apply s_skipU; (iterate 3 (exact rfl))) | (apply s_move; (iterate 4 (exact rfl))) | (apply s_fa_p tab_ok; (iterate 5 (exact rfl)))
      | (apply s_fa_f tab_ok; (iterate 6 (exact rfl))) | (apply s_ld_p tab_ok; (iterate 7 (exact rfl))) | (apply s_ld_f tab_ok; (iterate 6 (exact rfl))) | (apply s_ld_w tab_ok; (iterate 5 (exact rfl)); (first | exact patD_len _ | exact valD_len _ | exact brD_len _ | exact treeD_len _ | exact bindD_len _)) | (apply s_assign; (iterate 4 (exact rfl)))
      | (apply s_pick_t; (iterate 5 (exact rfl))) | (apply s_pick_f; (iterate 5 (exact rfl))) | (apply s_len tab_ok; (iterate 5 (exact rfl))) | (apply s_lens str_ok; (iterate 4 (exact rfl))) | (apply s_idx tab_ok; (iterate 7 (exact rfl)); (first | exact patR_get (by assumption) | exact valR_get (by assumption) | exact row_map (by assumption) | exact brR_get (by assumption) | exact treeR_get (by assumption) | assumption))
      | (apply s_ext; (iterate 5 (exact rfl))) | (apply s_alloc tabZ_ok; (iterate 7 (exact rfl))) | (apply s_boxZ; (iterate 5 (exact rfl)); first | exact rfl | exact allD_mapd _) | (apply s_store tab_ok; (iterate 10 (exact rfl))) | (apply s_not_t; (iterate 4 (exact rfl)))
      | (apply s_not_f; (iterate 4 (exact rfl))) | (apply s_not; (iterate 4 (exact rfl))) | (apply s_eql_t; (iterate 5 (exact rfl)); omega) | (apply s_eql_f; (iterate 5 (exact rfl)); omega) | (apply s_neq_t; (iterate 5 (exact rfl)); omega)
      | (apply s_neq_f; (iterate 5 (exact rfl)); omega) | (apply s_lss_t; (iterate 5 (exact rfl)); omega) | (apply s_lss_f; (iterate 5 (exact rfl)); omega) | (apply s_gtr_t; (iterate 5 (exact rfl)); omega) | (apply s_gtr_f; (iterate 5 (exact rfl)); omega)
      | (apply s_geq_t; (iterate 5 (exact rfl)); omega) | (apply s_geq_f; (iterate 5 (exact rfl)); omega) | (apply s_add64; (iterate 5 (exact rfl)); omega) | (apply s_boolne bool_ok; (iterate 5 (exact rfl)))
      | (apply s_call; (iterate 6 (exact rfl)); exact hgr; rintro _ ⟨b, rfl, hb⟩; (have hb1 : b = true := by cases b; exact absurd (hb rfl) hK; rfl); subst hb1)
      | (apply s_call; (iterate 6 (exact rfl)); first | (exact hkn; rintro _ rfl))
      | refine al_nil ?_ | refine q_then_n ?_ | refine q_blk_n ?_ | refine q_blk_r ?_ | refine q_blk_e ?_
      | refine q_blk_o rfl ?_ | refine q_then_e ?_ | refine aw_block ?_ | refine aw_exit ?_ | refine q_then_r ?_
      | refine aw_seq ?_ | refine aw_reg ?_ | refine aw_true rfl ?_ | refine aw_false rfl ?_ | refine aw_skip ?_
      | refine aw_ret ?_ | refine al_fork ?_ ?_ | refine al_fork3 ?_ ?_ ?_
      | refine aw_draws (id := 21) (trO [0, 1, 2, 3, 4, 6] (.fork 5 (trO [7, 8, 9] (.fork 10 (trO [11, 12, 13, 14, 15, 16] .nil) 14 (trO [10, 11, 12, 13, 15, 16] .nil))) 14 (trO [5, 7, 8, 9, 10, 11, 12, 13, 15, 16] .nil))) [5, 10, 14, 15] [15] mixed_ok (by kernel_rfl) ?_)
  all_goals exact q_retB (resB_1 rfl (resV_t rfl)) ⟨_, rfl, rfl⟩

theorem treeFirst_c (hkn : RunsP Try.prog 12 [] (fun v => v = .v (.bool true))) (g : Sg) (hg : g.Low) (l : List Pat) (hll : l.length ≤ 140737488355328) (hl : ∀ p ∈ l, p.low) (vals : List Val) (hvl : vals.length ≤ 140737488355328) (hv : ∀ v ∈ vals, v.low) :
    RunsP Try.prog 10 [.agg (sigD g), patsD l, .lst 4 (valR vals)] (fun r => r = .v (.bool true)) := by
  have hgr := great_c hg hl hll
  by_cases hm : g.Tiny ∧ massL l ≤ 50
  · have hs := hm.1.small
    have hml0 := hm.2
    have hml : massL l ≤ 100000 := by omega
    have hll2 := massL_len l
    have hsm := smallL_mass hml (by omega)
    have hSP : SmallP 100000 l := ⟨Pat.smallL_mem hsm, by omega⟩
    have b1 := Build_c hs hml
    have hts := buildT_small hs hml
    have herr := buildT_err (g := g) (l := l)
    have hok := buildT_ok (g := g) (l := l)
    generalize buildT g l (mayZ g l) = T at b1 hts herr hok
    obtain ⟨t, e⟩ := T
    simp only at herr hok hts
    by_cases he : e = 0
    · subst he
      obtain ⟨s1, s2, s3, s4⟩ := hok rfl
      have hall := togB_iff2.1 s2
      have hsv := (servesB_iff g).1 s1
      have hrun : ∀ v, goesF g l v = true → runF t v = (firstF l v).map (fun k => (k : Int)) := fun v h => by rw [s4]; exact tree_first hsv hall.wf (goes_all v l h hall) s3
      refine first_walk hkn hgr b1 hvl fun j σ X hjl hX => ?_
      obtain ⟨v, hv0⟩ := getS hjl
      have hlow := hv v (List.mem_of_getElem? hv0)
      have z1 : RunsP Try.prog 31 [.agg (valD v), .v (.int .i64 0)] (fun r => ∃ z : Int, r = .v (.int .i64 z)) := (sizeVZ_c v hlow 0).mono fun r h => by obtain ⟨z, h, _⟩ := h; exact ⟨z, h⟩
      have hgo := goes_c g hs 100000 (by omega) v hlow l hSP hall.wf
      have r1 := Run37_c _ hts v (Val.low_small hlow)
      have f1 := First39_c l v (by omega) fun p hp => fits_c _ (Nat.le_refl _) p (Pat.low_small (hl p hp)) v (Val.low_small hlow)
      cases hb : goesF g l v <;> rw [hb] at hgo
      · exact round_no hv0 z1 hgo hX
      · rw [hrun v hb] at r1
        cases hff : firstF l v with
        | none =>
          rw [hff] at r1 f1
          exact round_yes (n := 0) (b := false) hv0 z1 hgo r1 f1 (fun h => by cases h) (fun Y hY => first_no hY) hX
        | some i =>
          rw [hff] at r1 f1
          obtain ⟨hil, hfit, _⟩ := List.findIdx?_eq_some_iff_getElem.1 hff
          obtain ⟨q, hq⟩ := getS hil
          have hqf : fitsB q v = true := by rw [List.getElem?_eq_getElem hil] at hq; injection hq with hq; rw [← hq]; simpa using hfit
          have hqm := massL_mem (List.mem_of_getElem? hq)
          have hbl := bindsF_len q []
          exact round_yes (n := (i : Int)) (b := true) hv0 z1 hgo r1 f1 (fun _ => by omega) (fun Y hY => first_yes hq (Binds_c q (by omega)) (by omega) (fun b hbm => by
            have hpl := binds_path q [] b hbm
            obtain ⟨w, hw⟩ := binds_there q v [] b rfl hqf hbm
            simp only [List.length_nil] at hpl
            have ha := at41_c v (Val.low_small hlow) b.path (by omega)
            rw [hw] at ha
            exact ⟨w, ha⟩) hY) hX
    · have h := herr he
      subst h
      exact first_err he hkn hgr b1 hvl
  · exact first_great hm hkn hgr
end Go.Proofs.Ytjflembhgjcgkaa
