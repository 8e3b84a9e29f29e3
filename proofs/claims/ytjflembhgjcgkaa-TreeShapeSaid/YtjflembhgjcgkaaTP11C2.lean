/- C2: what the programs use of slices: Index, Contains, Clone, Grow, Concat, IndexFunc, ContainsFunc. -/
import Derived.Test.YtjflembhgjcgkaaTP11Tab
import Derived.Test.YtjflembhgjcgkaaTP11XM1M11C1x2
import Derived.Test.YtjflembhgjcgkaaTP11XAhAiAj
set_option linter.unusedSimpArgs false
set_option linter.unusedVariables false
namespace Go.Proofs.Ytjflembhgjcgkaa
open Go.RowKit

theorem take_ext {α : Type} {a b : List α} {k : Nat} (h : a.take k = b.take k) {x y : α} (hx : a[k]? = some x) (hy : b[k]? = some y) (e : x = y) : a.take (k + 1) = b.take (k + 1) := by
  rw [List.take_add_one, List.take_add_one, h, hx, hy, e]
theorem notin_next {α : Type} {l : List α} {k : Nat} {x y : α} (h : x ∉ l.take k) (hy : l[k]? = some y) (hxy : x ≠ y) : x ∉ l.take (k + 1) := by
  rw [List.take_add_one, hy]
  simp [h, hxy]
theorem idx_here {α : Type} [DecidableEq α] {l : List α} {k : Nat} {x : α} (h : x ∉ l.take k) (hy : l[k]? = some x) : x ∈ l ∧ l.idxOf x = k := by
  refine ⟨List.mem_of_getElem? hy, ?_⟩
  induction l generalizing k with
  | nil => simp at hy
  | cons a l ih =>
    cases k with
    | zero => simp at hy; subst hy; simp
    | succ k =>
      simp only [List.take_succ_cons, List.mem_cons, not_or] at h
      have := ih h.2 (by simpa using hy)
      rw [List.idxOf_cons, this]
      simp [show (a == x) = false by simpa using Ne.symm h.1]
def idxI {α : Type} [DecidableEq α] (l : List α) (x : α) : Int := if x ∈ l then (l.idxOf x : Int) else -1
theorem idxI_here {α : Type} [DecidableEq α] {l : List α} {k : Nat} {x : α} (h : x ∉ l.take k) (hy : l[k]? = some x) : idxI l x = k := by
  obtain ⟨h1, h2⟩ := idx_here h hy
  rw [idxI, if_pos h1, h2]
theorem idxI_none {α : Type} [DecidableEq α] {l : List α} {x : α} (h : x ∉ l) : idxI l x = -1 := if_neg h

set_option maxRecDepth 100000 in
theorem index_c (l : List Int) (x : Int) (hl : l.length ≤ 1000000000) : RunsP Try.prog 118 [intsD l, .v (.int .i64 x)] (fun v => v = .v (.int .i64 (idxI l x))) := by
  refine enterP 19 Try.func118 rfl (by kernel_rfl) rfl rfl rfl ?_
  have e1 : (l.map intRow).length = l.length := by simp
  repeat' (first | refine s_op rfl ?_ | (apply s_move; (iterate 4 (exact rfl))) | (apply s_assign; (iterate 4 (exact rfl))) | (apply s_len tab_ok; (iterate 5 (exact rfl))) | refine al_nil ?_ | refine q_then_n ?_ | refine aw_block ?_ | refine aw_seq ?_ | refine aw_reg ?_)
  refine w_loop [0, 1, 7, 8] (fun n vs σ => ∃ k : Nat, vs = [.d (intsD l), .d (.v (.int .i64 x)), .d (.v (.int .i64 ((l.map intRow).length : Int))), .d (.v (.int .i64 (k : Int)))] ∧ σ = [] ∧ k ≤ l.length ∧ n = l.length - k ∧ x ∉ l.take k) rfl ⟨0, rfl, rfl, by omega, rfl, by simp⟩ ?_
  rintro n vs σ ⟨k, rfl, rfl, hk, rfl, hp⟩ fr hfr
  cases hfr
  by_cases hlt : k < l.length
  · obtain ⟨y, hy⟩ := getS hlt
    by_cases hxy : x = y
    · repeat' (first | refine s_op rfl ?_ | (apply s_move; (iterate 4 (exact rfl))) | (apply s_ld_f tab_ok; (iterate 6 (exact rfl))) | (apply s_assign; (iterate 4 (exact rfl))) | (apply s_idx tab_ok; (iterate 7 (exact rfl)); (first | exact patR_get (by assumption) | exact valR_get (by assumption) | exact row_map (by assumption) | assumption)) | (apply s_eql_t; (iterate 5 (exact rfl)); omega) | (apply s_lss_t; (iterate 5 (exact rfl)); omega) | refine al_nil ?_ | refine q_then_n ?_ | refine q_blk_r ?_ | refine aw_block ?_ | refine q_then_r ?_ | refine aw_seq ?_ | refine aw_reg ?_ | refine aw_true rfl ?_ | refine aw_skip ?_ | refine aw_ret ?_)
      subst hxy
      exact q_ret rfl ⟨_, rfl, by rw [idxI_here hp hy]⟩
    · repeat' (first | refine s_op rfl ?_ | (apply s_move; (iterate 4 (exact rfl))) | (apply s_ld_f tab_ok; (iterate 6 (exact rfl))) | (apply s_assign; (iterate 4 (exact rfl))) | (apply s_idx tab_ok; (iterate 7 (exact rfl)); (first | exact patR_get (by assumption) | exact valR_get (by assumption) | exact row_map (by assumption) | assumption)) | (apply s_eql_f; (iterate 5 (exact rfl)); omega) | (apply s_lss_t; (iterate 5 (exact rfl)); omega) | (apply s_add64; (iterate 5 (exact rfl)); omega) | refine al_nil ?_ | refine q_then_n ?_ | refine q_blk_n ?_ | refine aw_block ?_ | refine aw_seq ?_ | refine aw_reg ?_ | refine aw_true rfl ?_ | refine aw_false rfl ?_ | refine aw_skip ?_)
      exact ⟨_, _, rfl, by omega, k + 1, rfl, rfl, by omega, rfl, notin_next hp hy hxy⟩
  · repeat' (first | refine s_op rfl ?_ | (apply s_assign; (iterate 4 (exact rfl))) | (apply s_lss_f; (iterate 5 (exact rfl)); omega) | refine al_nil ?_ | refine q_then_n ?_ | refine q_blk_e ?_ | refine q_then_e ?_ | refine aw_exit ?_ | refine aw_seq ?_ | refine aw_reg ?_ | refine aw_false rfl ?_ | refine aw_ret ?_)
    exact q_ret rfl ⟨_, rfl, by rw [idxI_none]; rwa [List.take_of_length_le (by omega)] at hp⟩

set_option maxRecDepth 100000 in
theorem contains_c (l : List Int) (x : Int) (hl : l.length ≤ 1000000000) : RunsP Try.prog 98 [intsD l, .v (.int .i64 x)] (fun v => v = .v (.bool (decide (x ∈ l)))) := by
  refine enterP 9 Try.func98 rfl (by kernel_rfl) rfl rfl rfl ?_
  have h := index_c l x hl
  by_cases hx : x ∈ l
  · rw [idxI, if_pos hx] at h
    repeat' (first | refine s_op rfl ?_ | (apply s_move; (iterate 4 (exact rfl))) | (apply s_assign; (iterate 4 (exact rfl))) | (apply s_geq_t; (iterate 5 (exact rfl)); omega) | (apply s_call; (iterate 6 (exact rfl)); first | (exact h; rintro _ rfl)) | refine al_nil ?_ | refine q_then_n ?_ | refine aw_seq ?_ | refine aw_reg ?_ | refine aw_ret ?_)
    exact q_ret rfl ⟨_, rfl, by simp [hx]⟩
  · rw [idxI, if_neg hx] at h
    repeat' (first | refine s_op rfl ?_ | (apply s_move; (iterate 4 (exact rfl))) | (apply s_assign; (iterate 4 (exact rfl))) | (apply s_geq_f; (iterate 5 (exact rfl)); omega) | (apply s_call; (iterate 6 (exact rfl)); first | (exact h; rintro _ rfl)) | refine al_nil ?_ | refine q_then_n ?_ | refine aw_seq ?_ | refine aw_reg ?_ | refine aw_ret ?_)
    exact q_ret rfl ⟨_, rfl, by simp [hx]⟩

set_option maxRecDepth 100000 in
theorem same_c (a b : List Int) (ha : a.length ≤ 1000000000) : RunsP Try.prog 20 [intsD a, intsD b] (fun v => v = .v (.bool (decide (a = b)))) := by
  refine enterP 26 Try.func20 rfl (by kernel_rfl) rfl rfl rfl ?_
  have e1 : (a.map intRow).length = a.length := by simp
  have e2 : (b.map intRow).length = b.length := by simp
  by_cases hl : a.length = b.length
  · repeat' (first | refine s_op rfl ?_ | (apply s_move; (iterate 4 (exact rfl))) | (apply s_assign; (iterate 4 (exact rfl))) | (apply s_len tab_ok; (iterate 5 (exact rfl))) | (apply s_neq_f; (iterate 5 (exact rfl)); omega) | refine al_nil ?_ | refine q_then_n ?_ | refine aw_block ?_ | refine aw_seq ?_ | refine aw_reg ?_ | refine aw_false rfl ?_ | refine aw_skip ?_)
    refine w_loop [0, 1, 5] (fun n vs σ => ∃ k : Nat, vs = [.d (intsD a), .d (intsD b), .d (.v (.int .i64 (k : Int)))] ∧ σ = [] ∧ k ≤ a.length ∧ n = a.length - k ∧ a.take k = b.take k) rfl ⟨0, rfl, rfl, by omega, rfl, rfl⟩ ?_
    rintro n vs σ ⟨k, rfl, rfl, hk, rfl, hp⟩ fr hfr
    cases hfr
    by_cases hlt : k < a.length
    · obtain ⟨x, hx⟩ : ∃ x, a[k]? = some x := ⟨_, List.getElem?_eq_getElem hlt⟩
      obtain ⟨y, hy⟩ : ∃ y, b[k]? = some y := ⟨_, List.getElem?_eq_getElem (by omega)⟩
      by_cases hxy : x = y
      · repeat' (first | refine s_op rfl ?_ | (apply s_move; (iterate 4 (exact rfl))) | (apply s_ld_f tab_ok; (iterate 6 (exact rfl))) | (apply s_assign; (iterate 4 (exact rfl))) | (apply s_len tab_ok; (iterate 5 (exact rfl))) | (apply s_idx tab_ok; (iterate 7 (exact rfl)); (first | exact patR_get (by assumption) | exact valR_get (by assumption) | exact row_map (by assumption) | assumption)) | (apply s_neq_f; (iterate 5 (exact rfl)); omega) | (apply s_lss_t; (iterate 5 (exact rfl)); omega) | (apply s_add64; (iterate 5 (exact rfl)); omega) | refine al_nil ?_ | refine q_then_n ?_ | refine q_blk_n ?_ | refine aw_block ?_ | refine aw_seq ?_ | refine aw_reg ?_ | refine aw_true rfl ?_ | refine aw_false rfl ?_ | refine aw_skip ?_ | refine aw_draws (id := 6) (trO [0, 1, 2, 3, 4, 5, 6, 7, 8] .nil) [] [] mixed_ok (by kernel_rfl) ?_)
        exact ⟨_, _, rfl, by omega, k + 1, rfl, rfl, by omega, rfl, take_ext hp hx hy hxy⟩
      · repeat' (first | refine s_op rfl ?_ | (apply s_move; (iterate 4 (exact rfl))) | (apply s_ld_f tab_ok; (iterate 6 (exact rfl))) | (apply s_assign; (iterate 4 (exact rfl))) | (apply s_len tab_ok; (iterate 5 (exact rfl))) | (apply s_idx tab_ok; (iterate 7 (exact rfl)); (first | exact patR_get (by assumption) | exact valR_get (by assumption) | exact row_map (by assumption) | assumption)) | (apply s_neq_t; (iterate 5 (exact rfl)); omega) | (apply s_lss_t; (iterate 5 (exact rfl)); omega) | refine al_nil ?_ | refine q_then_n ?_ | refine q_blk_r ?_ | refine aw_block ?_ | refine q_then_r ?_ | refine aw_seq ?_ | refine aw_reg ?_ | refine aw_true rfl ?_ | refine aw_skip ?_ | refine aw_ret ?_ | refine aw_draws (id := 6) (trO [0, 1, 2, 3, 4, 5, 6, 7, 8] .nil) [] [] mixed_ok (by kernel_rfl) ?_)
        exact q_ret rfl ⟨_, rfl, by rw [decide_eq_false]; rintro rfl; rw [hx] at hy; cases hy; exact hxy rfl⟩
    · repeat' (first | refine s_op rfl ?_ | (apply s_move; (iterate 4 (exact rfl))) | (apply s_assign; (iterate 4 (exact rfl))) | (apply s_len tab_ok; (iterate 5 (exact rfl))) | (apply s_lss_f; (iterate 5 (exact rfl)); omega) | refine al_nil ?_ | refine q_then_n ?_ | refine q_blk_e ?_ | refine q_then_e ?_ | refine aw_exit ?_ | refine aw_seq ?_ | refine aw_reg ?_ | refine aw_false rfl ?_ | refine aw_ret ?_)
      refine q_ret rfl ⟨_, rfl, ?_⟩
      rw [decide_eq_true]
      have h1 := List.take_of_length_le (l := a) (i := k) (by omega)
      have h2 := List.take_of_length_le (l := b) (i := k) (by omega)
      rw [← h1, ← h2, hp]
  · repeat' (first | refine s_op rfl ?_ | (apply s_move; (iterate 4 (exact rfl))) | (apply s_assign; (iterate 4 (exact rfl))) | (apply s_len tab_ok; (iterate 5 (exact rfl))) | (apply s_neq_t; (iterate 5 (exact rfl)); omega) | refine al_nil ?_ | refine q_then_n ?_ | refine q_then_r ?_ | refine aw_seq ?_ | refine aw_reg ?_ | refine aw_true rfl ?_ | refine aw_ret ?_)
    exact q_ret rfl ⟨_, rfl, by rw [decide_eq_false]; rintro rfl; exact hl rfl⟩

set_option maxRecDepth 100000 in
theorem equal_c (a b : List Int) (ha : a.length ≤ 1000000000) : RunsP Try.prog 102 [intsD a, intsD b] (fun v => v = .v (.bool (decide (a = b)))) := by
  refine enterP 26 Try.func102 rfl (by kernel_rfl) rfl rfl rfl ?_
  have e1 : (a.map intRow).length = a.length := by simp
  have e2 : (b.map intRow).length = b.length := by simp
  by_cases hl : a.length = b.length
  · repeat' (first | refine s_op rfl ?_ | (apply s_move; (iterate 4 (exact rfl))) | (apply s_assign; (iterate 4 (exact rfl))) | (apply s_len tab_ok; (iterate 5 (exact rfl))) | (apply s_neq_f; (iterate 5 (exact rfl)); omega) | refine al_nil ?_ | refine q_then_n ?_ | refine aw_block ?_ | refine aw_seq ?_ | refine aw_reg ?_ | refine aw_false rfl ?_ | refine aw_skip ?_)
    refine w_loop [0, 1, 12, 13] (fun n vs σ => ∃ k : Nat, vs = [.d (intsD a), .d (intsD b), .d (.v (.int .i64 ((a.map intRow).length : Int))), .d (.v (.int .i64 (k : Int)))] ∧ σ = [] ∧ k ≤ a.length ∧ n = a.length - k ∧ a.take k = b.take k) rfl ⟨0, rfl, rfl, by omega, rfl, rfl⟩ ?_
    rintro n vs σ ⟨k, rfl, rfl, hk, rfl, hp⟩ fr hfr
    cases hfr
    by_cases hlt : k < a.length
    · obtain ⟨x, hx⟩ : ∃ x, a[k]? = some x := ⟨_, List.getElem?_eq_getElem hlt⟩
      obtain ⟨y, hy⟩ : ∃ y, b[k]? = some y := ⟨_, List.getElem?_eq_getElem (by omega)⟩
      by_cases hxy : x = y
      · repeat' (first | refine s_op rfl ?_ | (apply s_move; (iterate 4 (exact rfl))) | (apply s_ld_f tab_ok; (iterate 6 (exact rfl))) | (apply s_assign; (iterate 4 (exact rfl))) | (apply s_idx tab_ok; (iterate 7 (exact rfl)); (first | exact patR_get (by assumption) | exact valR_get (by assumption) | exact row_map (by assumption) | assumption)) | (apply s_neq_f; (iterate 5 (exact rfl)); omega) | (apply s_lss_t; (iterate 5 (exact rfl)); omega) | (apply s_add64; (iterate 5 (exact rfl)); omega) | refine al_nil ?_ | refine q_then_n ?_ | refine q_blk_n ?_ | refine aw_block ?_ | refine aw_seq ?_ | refine aw_reg ?_ | refine aw_true rfl ?_ | refine aw_false rfl ?_ | refine aw_skip ?_ | refine aw_draws (id := 6) (trO [0, 1, 2, 3, 4, 5, 6, 7, 8] .nil) [] [] mixed_ok (by kernel_rfl) ?_)
        exact ⟨_, _, rfl, by omega, k + 1, rfl, rfl, by omega, rfl, take_ext hp hx hy hxy⟩
      · repeat' (first | refine s_op rfl ?_ | (apply s_move; (iterate 4 (exact rfl))) | (apply s_ld_f tab_ok; (iterate 6 (exact rfl))) | (apply s_assign; (iterate 4 (exact rfl))) | (apply s_idx tab_ok; (iterate 7 (exact rfl)); (first | exact patR_get (by assumption) | exact valR_get (by assumption) | exact row_map (by assumption) | assumption)) | (apply s_neq_t; (iterate 5 (exact rfl)); omega) | (apply s_lss_t; (iterate 5 (exact rfl)); omega) | refine al_nil ?_ | refine q_then_n ?_ | refine q_blk_r ?_ | refine aw_block ?_ | refine q_then_r ?_ | refine aw_seq ?_ | refine aw_reg ?_ | refine aw_true rfl ?_ | refine aw_skip ?_ | refine aw_ret ?_ | refine aw_draws (id := 6) (trO [0, 1, 2, 3, 4, 5, 6, 7, 8] .nil) [] [] mixed_ok (by kernel_rfl) ?_)
        exact q_ret rfl ⟨_, rfl, by rw [decide_eq_false]; rintro rfl; rw [hx] at hy; cases hy; exact hxy rfl⟩
    · repeat' (first | refine s_op rfl ?_ | (apply s_assign; (iterate 4 (exact rfl))) | (apply s_lss_f; (iterate 5 (exact rfl)); omega) | refine al_nil ?_ | refine q_then_n ?_ | refine q_blk_e ?_ | refine q_then_e ?_ | refine aw_exit ?_ | refine aw_seq ?_ | refine aw_reg ?_ | refine aw_false rfl ?_ | refine aw_ret ?_)
      refine q_ret rfl ⟨_, rfl, ?_⟩
      rw [decide_eq_true]
      have h1 := List.take_of_length_le (l := a) (i := k) (by omega)
      have h2 := List.take_of_length_le (l := b) (i := k) (by omega)
      rw [← h1, ← h2, hp]
  · repeat' (first | refine s_op rfl ?_ | (apply s_move; (iterate 4 (exact rfl))) | (apply s_assign; (iterate 4 (exact rfl))) | (apply s_len tab_ok; (iterate 5 (exact rfl))) | (apply s_neq_t; (iterate 5 (exact rfl)); omega) | refine al_nil ?_ | refine q_then_n ?_ | refine q_then_r ?_ | refine aw_seq ?_ | refine aw_reg ?_ | refine aw_true rfl ?_ | refine aw_ret ?_)
    exact q_ret rfl ⟨_, rfl, by rw [decide_eq_false]; rintro rfl; exact hl rfl⟩

/-- A copy: an owned one. -/
def Copied (U sz : Nat) (rows : List (List DV)) (σ : List AObj) (v : AV) (σ' : List AObj) : Prop := ∃ loc ver, v = .own loc ver sz 0 rows.length ∧ Fresh σ loc (.arr U sz ver rows) σ'
theorem fresh_chg {σ σ1 σ2 : List AObj} {loc : Nat} {o o' : AObj} (h : Fresh σ loc o σ1) (h2 : Chg σ1 loc o' σ2) : Fresh σ loc o' σ2 :=
  ⟨h2.at', fun k o' hk => ⟨h2.keep (h.keep' k o' hk).2 (h.keep' k o' hk).1, (h.keep' k o' hk).2⟩⟩

set_option maxRecDepth 100000 in
theorem cloneP_o (rows : List (List DV)) (σ : List AObj) (hl : rows.length ≤ 1000000000) : Runs Try.prog 74 [.d (.lst 8 rows)] σ (Copied 41 8 rows σ) := by
  refine enter 8 Try.func74 rfl (by kernel_rfl) rfl rfl rfl ?_
  repeat' (first | refine s_op rfl ?_ | (apply s_move; (iterate 4 (exact rfl))) | (apply s_assign; (iterate 4 (exact rfl))) | (apply s_nilS; (iterate 3 (exact rfl)); exact Try.underlying26; exact rfl; intro hnil) | (apply s_lit0 tab_ok tabZ_ok; (iterate 7 (exact rfl))) | (refine o_adoptF 5 41 8 rfl ?_; intro loc σ hc) | (refine w_adoptF (c := .ret) 2 41 8 rfl ?_; intro loc σ hc) | (apply s_appF tab_ok tabZ_ok (rows2 := rows) (rows3 := rows) (m := rows.length); (iterate 10 (exact rfl)); exact hc.at'; exact src_of (Tab.slIs tab_ok (t := 26) rfl) (rows_d rfl); exact List.nil_append _; (simp; omega); intro σ hc2) | refine al_nil ?_ | refine q_then_n ?_ | refine q_then_r ?_ | refine aw_seq ?_ | refine aw_reg ?_ | refine aw_true rfl ?_ | refine aw_false rfl ?_ | refine aw_skip ?_ | refine aw_ret ?_)
  · subst hnil
    exact q_ret rfl ⟨loc, 0, rfl, hc⟩
  · exact q_ret rfl ⟨loc, 1, rfl, fresh_chg hc hc2⟩

set_option maxRecDepth 100000 in
theorem cloneI_o (rows : List (List DV)) (σ : List AObj) (hl : rows.length ≤ 1000000000) : Runs Try.prog 58 [.d (.lst 1 rows)] σ (Copied 3 1 rows σ) := by
  refine enter 8 Try.func58 rfl (by kernel_rfl) rfl rfl rfl ?_
  repeat' (first | refine s_op rfl ?_ | (apply s_move; (iterate 4 (exact rfl))) | (apply s_assign; (iterate 4 (exact rfl))) | (apply s_nilS; (iterate 3 (exact rfl)); exact Try.underlying29; exact rfl; intro hnil) | (apply s_lit0 tab_ok tabZ_ok; (iterate 7 (exact rfl))) | (refine o_adoptF 5 3 1 rfl ?_; intro loc σ hc) | (refine w_adoptF (c := .ret) 2 3 1 rfl ?_; intro loc σ hc) | (apply s_appF tab_ok tabZ_ok (rows2 := rows) (rows3 := rows) (m := rows.length); (iterate 10 (exact rfl)); exact hc.at'; exact src_of (Tab.slIs tab_ok (t := 29) rfl) (rows_d rfl); exact List.nil_append _; (simp; omega); intro σ hc2) | refine al_nil ?_ | refine q_then_n ?_ | refine q_then_r ?_ | refine aw_seq ?_ | refine aw_reg ?_ | refine aw_true rfl ?_ | refine aw_false rfl ?_ | refine aw_skip ?_ | refine aw_ret ?_)
  · subst hnil
    exact q_ret rfl ⟨loc, 0, rfl, hc⟩
  · exact q_ret rfl ⟨loc, 1, rfl, fresh_chg hc hc2⟩

theorem Copied.own {U sz : Nat} {rows : List (List DV)} {f : FuncId} {args : List DV} (h : Runs Try.prog f (args.map .d) [] (Copied U sz rows [])) : RunsP Try.prog f args (fun v => v = .lst sz rows) :=
  RunsP.ofOwn (h.mono fun v σ' ⟨loc, ver, e, hc⟩ => ⟨loc, ver, U, e, hc.at'⟩)
theorem cloneP_c (rows : List (List DV)) (hl : rows.length ≤ 1000000000) : RunsP Try.prog 74 [.lst 8 rows] (fun v => v = .lst 8 rows) := Copied.own (cloneP_o rows [] hl)
/-- Room for a number of patterns: an owned slice of none. -/
def Roomy (U sz : Nat) (n : Nat) (σ : List AObj) (v : AV) (σ' : List AObj) : Prop := (v = .d .nil ∧ σ' = σ) ∨ ∃ loc ver, v = .own loc ver sz 0 0 ∧ Fresh σ loc (.arr U sz ver []) σ'

theorem z41 : ∃ z, find1 tabZ.zs 41 = some z ∧ Nat.beq z.length 8 = true := ⟨_, rfl, rfl⟩

set_option maxRecDepth 100000 in
theorem growP_o (n : Nat) (σ : List AObj) (hl : n ≤ 1000000000) : Runs Try.prog 112 [.d .nil, .d (.v (.int .i64 (n : Int)))] σ (Roomy 41 8 n σ) := by
  obtain ⟨z, hz, hzl⟩ := z41
  refine enter 27 Try.func112 rfl (by kernel_rfl) rfl rfl rfl ?_
  by_cases hn : n = 0
  · subst hn
    repeat' (first | refine s_op rfl ?_ | (apply s_move; (iterate 4 (exact rfl))) | (apply s_assign; (iterate 4 (exact rfl))) | (apply s_len tab_ok; (iterate 5 (exact rfl))) | (apply s_lss_f; (iterate 5 (exact rfl)); omega) | (apply s_gtr_f; (iterate 5 (exact rfl)); omega) | (apply s_sub64; (iterate 5 (exact rfl)); omega) | (apply s_capN; (iterate 3 (exact rfl)); exact Try.underlying26; exact rfl) | refine al_nil ?_ | refine q_then_n ?_ | refine aw_seq ?_ | refine aw_reg ?_ | refine aw_false rfl ?_ | refine aw_skip ?_ | refine aw_ret ?_)
    exact q_ret rfl (.inl ⟨rfl, rfl⟩)
  · repeat' (first | refine s_op rfl ?_ | (apply s_move; (iterate 4 (exact rfl))) | (apply s_assign; (iterate 4 (exact rfl))) | (apply s_len tab_ok; (iterate 5 (exact rfl))) | (apply s_lss_f; (iterate 5 (exact rfl)); omega) | (apply s_gtr_t; (iterate 5 (exact rfl)); omega) | (apply s_capN; (iterate 3 (exact rfl)); exact Try.underlying26; exact rfl) | (apply s_sliceN tab_ok; (iterate 7 (exact rfl))) | (apply s_subV 0; (iterate 5 (exact rfl)); omega) | (apply s_subV (n : Int); (iterate 5 (exact rfl)); omega) | (refine o_adoptF 20 41 8 rfl ?_; intro loc σ hc) | (apply s_appF tab_ok tabZ_ok (rows2 := List.replicate n (z.map .v)) (rows3 := List.replicate n (z.map .v)) (m := n); (iterate 10 (exact rfl)); exact hc.at'; exact src_make (k' := .i64) (TabZ.z tabZ_ok hz) hzl Try.underlying3 (n := n) rfl (by omega) (Tab.tyIs tab_ok (t := 41) rfl) rfl; exact List.nil_append _; (simp; omega); intro σ hc2; have hc3 := fresh_chg hc hc2) | (apply s_sliceOV 0 0 tab_ok; (iterate 8 (exact rfl)); exact hc3.at'; (simp); (simp)) | (refine w_shrinkF (c := .ret) 0 hc3.at' ?_; intro σ hc4; have hc5 := fresh_chg hc3 hc4; clear hc3) | refine al_nil ?_ | refine q_then_n ?_ | refine aw_seq ?_ | refine aw_reg ?_ | refine aw_true rfl ?_ | refine aw_false rfl ?_ | refine aw_skip ?_ | refine aw_ret ?_)
    exact q_ret rfl (.inr ⟨loc, 1, rfl, hc5⟩)

set_option maxRecDepth 100000 in
theorem concatP_o (a b : List (List DV)) (σ : List AObj) (ha : a.length ≤ 100000000) (hb : b.length ≤ 100000000) : Runs Try.prog 92 [.d (.lst 1 [[.lst 8 a], [.lst 8 b]])] σ (Copied 41 8 (a ++ b) σ) := by
  refine enter 36 Try.func92 rfl (by kernel_rfl) rfl rfl rfl ?_
  repeat' (first | refine s_op rfl ?_ | (apply s_move; (iterate 4 (exact rfl))) | (apply s_assign; (iterate 4 (exact rfl))) | (apply s_len tab_ok; (iterate 5 (exact rfl))) | refine al_nil ?_ | refine q_then_n ?_ | refine aw_block ?_ | refine aw_seq ?_ | refine aw_reg ?_)
  refine w_loop [0, 3, 9, 10, 11] (fun n vs σ' => ∃ (k : Nat) (s : Int), vs = [.d (.lst 1 [[.lst 8 a], [.lst 8 b]]), .d (.v (.int .i64 s)), .d (.lst 1 [[.lst 8 a], [.lst 8 b]]), .d (.v (.int .i64 ((2 : Nat) : Int))), .d (.v (.int .i64 (k : Int)))] ∧ σ' = σ ∧ n = 2 - k ∧ ((k = 0 ∧ s = 0) ∨ (k = 1 ∧ s = a.length) ∨ (k = 2 ∧ s = (a.length + b.length : Nat)))) rfl ⟨0, 0, rfl, rfl, rfl, .inl ⟨rfl, rfl⟩⟩ ?_
  rintro n vs σ' ⟨k, s, rfl, rfl, rfl, hk⟩ fr hfr
  cases hfr
  rcases hk with ⟨rfl, rfl⟩ | ⟨rfl, rfl⟩ | ⟨rfl, rfl⟩
  · repeat' (first | refine s_op rfl ?_ | (apply s_move; (iterate 4 (exact rfl))) | (apply s_ld_f tab_ok; (iterate 6 (exact rfl))) | (apply s_assign; (iterate 4 (exact rfl))) | (apply s_len tab_ok; (iterate 5 (exact rfl))) | (apply s_lss_t; (iterate 5 (exact rfl)); omega) | (apply s_lss_f; (iterate 5 (exact rfl)); omega) | (apply s_add64; (iterate 5 (exact rfl)); omega) | (apply s_idx tab_ok (row := [.lst 8 a]); (iterate 7 (exact rfl)); exact rfl) | refine al_nil ?_ | refine q_then_n ?_ | refine q_blk_n ?_ | refine aw_block ?_ | refine aw_seq ?_ | refine aw_reg ?_ | refine aw_true rfl ?_ | refine aw_false rfl ?_ | refine aw_skip ?_)
    exact ⟨_, _, rfl, by omega, 1, _, rfl, rfl, rfl, .inr (.inl ⟨rfl, by simp⟩)⟩
  · repeat' (first | refine s_op rfl ?_ | (apply s_move; (iterate 4 (exact rfl))) | (apply s_ld_f tab_ok; (iterate 6 (exact rfl))) | (apply s_assign; (iterate 4 (exact rfl))) | (apply s_len tab_ok; (iterate 5 (exact rfl))) | (apply s_lss_t; (iterate 5 (exact rfl)); omega) | (apply s_lss_f; (iterate 5 (exact rfl)); omega) | (apply s_add64; (iterate 5 (exact rfl)); omega) | (apply s_idx tab_ok (row := [.lst 8 b]); (iterate 7 (exact rfl)); exact rfl) | refine al_nil ?_ | refine q_then_n ?_ | refine q_blk_n ?_ | refine aw_block ?_ | refine aw_seq ?_ | refine aw_reg ?_ | refine aw_true rfl ?_ | refine aw_false rfl ?_ | refine aw_skip ?_)
    exact ⟨_, _, rfl, by omega, 2, _, rfl, rfl, rfl, .inr (.inr ⟨rfl, by simp⟩)⟩
  · have hg := growP_o (a.length + b.length) σ' (by omega)
    repeat' (first | refine s_op rfl ?_ | (apply s_move; (iterate 4 (exact rfl))) | (apply s_assign; (iterate 4 (exact rfl))) | (apply s_len tab_ok; (iterate 5 (exact rfl))) | (apply s_lss_f; (iterate 5 (exact rfl)); omega) | (apply s_callS; (iterate 6 (exact rfl)); exact hg; rintro v σ (⟨rfl, rfl⟩ | ⟨loc, ver, rfl, hc⟩)) | (refine w_adoptF (c := .loop _) 6 41 8 rfl ?_; intro loc σ hc) | refine al_nil ?_ | refine q_then_n ?_ | refine q_blk_e ?_ | refine q_then_e ?_ | refine aw_block ?_ | refine aw_exit ?_ | refine aw_seq ?_ | refine aw_reg ?_ | refine aw_false rfl ?_)
    · refine w_loop [6, 25, 26, 27] (fun n vs σ2 => ∃ (k : Nat) (rows : List (List DV)) (ver : Nat), vs = [.own loc ver 8 0 rows.length, .d (.lst 1 [[.lst 8 a], [.lst 8 b]]), .d (.v (.int .i64 ((2 : Nat) : Int))), .d (.v (.int .i64 (k : Int)))] ∧ Fresh _ loc (.arr 41 8 ver rows) σ2 ∧ n = 2 - k ∧ ((k = 0 ∧ rows = []) ∨ (k = 1 ∧ rows = a) ∨ (k = 2 ∧ rows = a ++ b))) rfl ⟨0, [], _, rfl, hc, rfl, .inl ⟨rfl, rfl⟩⟩ ?_
      rintro n vs σ2 ⟨k, rows, ver, rfl, hc, rfl, hk⟩ fr hfr
      cases hfr
      rcases hk with ⟨rfl, rfl⟩ | ⟨rfl, rfl⟩ | ⟨rfl, rfl⟩
      · repeat' (first | refine s_op rfl ?_ | (apply s_move; (iterate 4 (exact rfl))) | (apply s_ld_f tab_ok; (iterate 6 (exact rfl))) | (apply s_assign; (iterate 4 (exact rfl))) | (apply s_lss_t; (iterate 5 (exact rfl)); omega) | (apply s_add64; (iterate 5 (exact rfl)); omega) | (apply s_idx tab_ok (row := [.lst 8 a]); (iterate 7 (exact rfl)); exact rfl) | (apply s_appF tab_ok tabZ_ok (rows2 := a) (rows3 := a) (m := a.length); (iterate 10 (exact rfl)); exact hc.at'; exact src_of (Tab.slIs tab_ok (t := 26) rfl) (rows_d rfl); exact List.nil_append _; (simp; omega); intro σ hc2; have hc3 := fresh_chg hc hc2) | refine al_nil ?_ | refine q_then_n ?_ | refine q_blk_n ?_ | refine aw_block ?_ | refine aw_seq ?_ | refine aw_reg ?_ | refine aw_true rfl ?_ | refine aw_skip ?_)
        exact ⟨_, _, rfl, by omega, 1, _, _, rfl, hc3, rfl, .inr (.inl ⟨rfl, rfl⟩)⟩
      · repeat' (first | refine s_op rfl ?_ | (apply s_move; (iterate 4 (exact rfl))) | (apply s_ld_f tab_ok; (iterate 6 (exact rfl))) | (apply s_assign; (iterate 4 (exact rfl))) | (apply s_lss_t; (iterate 5 (exact rfl)); omega) | (apply s_add64; (iterate 5 (exact rfl)); omega) | (apply s_idx tab_ok (row := [.lst 8 b]); (iterate 7 (exact rfl)); exact rfl) | (apply s_appF tab_ok tabZ_ok (rows2 := b) (rows3 := rows ++ b) (m := rows.length + b.length); (iterate 10 (exact rfl)); exact hc.at'; exact src_of (Tab.slIs tab_ok (t := 26) rfl) (rows_d rfl); exact rfl; (refine ⟨rfl, ?_, rfl⟩; omega); intro σ hc2; have hc3 := fresh_chg hc hc2) | refine al_nil ?_ | refine q_then_n ?_ | refine q_blk_n ?_ | refine aw_block ?_ | refine aw_seq ?_ | refine aw_reg ?_ | refine aw_true rfl ?_ | refine aw_skip ?_)
        exact ⟨_, _, rfl, by omega, 2, _, _, by rw [List.length_append]; rfl, hc3, rfl, .inr (.inr ⟨rfl, rfl⟩)⟩
      · repeat' (first | refine s_op rfl ?_ | (apply s_move; (iterate 4 (exact rfl))) | (apply s_assign; (iterate 4 (exact rfl))) | (apply s_lss_f; (iterate 5 (exact rfl)); omega) | refine al_nil ?_ | refine q_then_n ?_ | refine q_blk_e ?_ | refine q_then_e ?_ | refine aw_exit ?_ | refine aw_seq ?_ | refine aw_reg ?_ | refine aw_false rfl ?_ | refine aw_ret ?_)
        exact q_ret rfl ⟨loc, _, rfl, hc⟩
    · refine w_loop [6, 25, 26, 27] (fun n vs σ2 => ∃ (k : Nat) (rows : List (List DV)) (ver : Nat), vs = [.own loc ver 8 0 rows.length, .d (.lst 1 [[.lst 8 a], [.lst 8 b]]), .d (.v (.int .i64 ((2 : Nat) : Int))), .d (.v (.int .i64 (k : Int)))] ∧ Fresh _ loc (.arr 41 8 ver rows) σ2 ∧ n = 2 - k ∧ ((k = 0 ∧ rows = []) ∨ (k = 1 ∧ rows = a) ∨ (k = 2 ∧ rows = a ++ b))) rfl ⟨0, [], _, rfl, hc, rfl, .inl ⟨rfl, rfl⟩⟩ ?_
      rintro n vs σ2 ⟨k, rows, ver, rfl, hc, rfl, hk⟩ fr hfr
      cases hfr
      rcases hk with ⟨rfl, rfl⟩ | ⟨rfl, rfl⟩ | ⟨rfl, rfl⟩
      · repeat' (first | refine s_op rfl ?_ | (apply s_move; (iterate 4 (exact rfl))) | (apply s_ld_f tab_ok; (iterate 6 (exact rfl))) | (apply s_assign; (iterate 4 (exact rfl))) | (apply s_lss_t; (iterate 5 (exact rfl)); omega) | (apply s_add64; (iterate 5 (exact rfl)); omega) | (apply s_idx tab_ok (row := [.lst 8 a]); (iterate 7 (exact rfl)); exact rfl) | (apply s_appF tab_ok tabZ_ok (rows2 := a) (rows3 := a) (m := a.length); (iterate 10 (exact rfl)); exact hc.at'; exact src_of (Tab.slIs tab_ok (t := 26) rfl) (rows_d rfl); exact List.nil_append _; (simp; omega); intro σ hc2; have hc3 := fresh_chg hc hc2) | refine al_nil ?_ | refine q_then_n ?_ | refine q_blk_n ?_ | refine aw_block ?_ | refine aw_seq ?_ | refine aw_reg ?_ | refine aw_true rfl ?_ | refine aw_skip ?_)
        exact ⟨_, _, rfl, by omega, 1, _, _, rfl, hc3, rfl, .inr (.inl ⟨rfl, rfl⟩)⟩
      · repeat' (first | refine s_op rfl ?_ | (apply s_move; (iterate 4 (exact rfl))) | (apply s_ld_f tab_ok; (iterate 6 (exact rfl))) | (apply s_assign; (iterate 4 (exact rfl))) | (apply s_lss_t; (iterate 5 (exact rfl)); omega) | (apply s_add64; (iterate 5 (exact rfl)); omega) | (apply s_idx tab_ok (row := [.lst 8 b]); (iterate 7 (exact rfl)); exact rfl) | (apply s_appF tab_ok tabZ_ok (rows2 := b) (rows3 := rows ++ b) (m := rows.length + b.length); (iterate 10 (exact rfl)); exact hc.at'; exact src_of (Tab.slIs tab_ok (t := 26) rfl) (rows_d rfl); exact rfl; (refine ⟨rfl, ?_, rfl⟩; omega); intro σ hc2; have hc3 := fresh_chg hc hc2) | refine al_nil ?_ | refine q_then_n ?_ | refine q_blk_n ?_ | refine aw_block ?_ | refine aw_seq ?_ | refine aw_reg ?_ | refine aw_true rfl ?_ | refine aw_skip ?_)
        exact ⟨_, _, rfl, by omega, 2, _, _, by rw [List.length_append]; rfl, hc3, rfl, .inr (.inr ⟨rfl, rfl⟩)⟩
      · repeat' (first | refine s_op rfl ?_ | (apply s_move; (iterate 4 (exact rfl))) | (apply s_assign; (iterate 4 (exact rfl))) | (apply s_lss_f; (iterate 5 (exact rfl)); omega) | refine al_nil ?_ | refine q_then_n ?_ | refine q_blk_e ?_ | refine q_then_e ?_ | refine aw_exit ?_ | refine aw_seq ?_ | refine aw_reg ?_ | refine aw_false rfl ?_ | refine aw_ret ?_)
        exact q_ret rfl ⟨loc, _, rfl, hc⟩

theorem concatP_c (a b : List (List DV)) (ha : a.length ≤ 100000000) (hb : b.length ≤ 100000000) : RunsP Try.prog 92 [.lst 1 [[.lst 8 a], [.lst 8 b]]] (fun v => v = .lst 8 (a ++ b)) := Copied.own (concatP_o a b [] ha hb)
end Go.Proofs.Ytjflembhgjcgkaa
