/- C29: the chapter's rows are known. -/
import Derived.Test.YtjflembhgjcgkaaC28
set_option linter.unusedSimpArgs false
set_option linter.unusedVariables false
-- ALLUNDEF -- BOXZ
namespace Go.Proofs.Ytjflembhgjcgkaa
open Go.RowKit

def xP : Pat := .mk 1 7 0 ⟨#[]⟩ 0 0 0 []
def conP (n : Int) (l : List Pat) : Pat := .mk 5 n 0 ⟨#[]⟩ 0 0 0 l
def numP (n : Int) : Pat := .mk 3 0 n ⟨#[]⟩ 0 0 0 []
def oneL : List Pat := [conP 2 [], conP 3 [numP 1, anyP]]
def fourL : List Pat := [conP 2 [], conP 3 [anyP, conP 2 []], conP 3 [anyP, conP 3 [anyP, anyP]], conP 3 [numP 1, anyP]]
def witP : Pat := conP 3 [numP 0, anyP]

theorem small_con {n : Int} {l : List Pat} (hl : l.length ≤ 1000000) (h : ∀ p ∈ l, p.small 1000000) : (conP n l).small 1000000 := ⟨hl, by simp [maxLen, ByteArray.size], Pat.smallL_of h⟩
theorem small_num (n : Int) : (numP n).small 1000000 := ⟨by simp, by simp [maxLen, ByteArray.size], trivial⟩
theorem small_x : xP.small 1000000 := ⟨by simp, by simp [maxLen, ByteArray.size], trivial⟩
theorem smallG_small : smallG.Small := ⟨by decide, by decide, by simp [smallG], by simp [smallG]⟩
theorem smallG_ar : ∀ c ∈ smallG.cons, c.fields.length ≤ 2 := by simp [smallG]
theorem at_c {l : List Pat} (hl : SmallP 1000000 l) (ha : acL l ≤ 30) {x : DV} (h : checkD smallG 100 l = x) : RunsP Try.prog 22 [.agg (sigD smallG), patsD l] (fun v => v = x) := by
  subst h
  exact check_c smallG_small (m := 1000000) (A := 2) (by decide) (by decide) smallG_ar hl 100 (by omega) (by omega)

theorem d1 : checkD smallG 100 [] = resC anyP 0 150 := by kernel_rfl
theorem d2 : checkD smallG 100 [xP] = resC zeroP 0 0 := by kernel_rfl
theorem d3 : checkD smallG 100 [xP, conP 1 []] = resC zeroP 1 151 := by kernel_rfl
theorem d4 : checkD smallG 100 oneL = resC witP 0 150 := by kernel_rfl
theorem d5 : checkD smallG 100 fourL = resC zeroP 3 151 := by kernel_rfl
theorem d6 : checkD smallG 100 [conP 1 [], conP 2 []] = resC zeroP 0 2 := by kernel_rfl
theorem d7 : checkD smallG 100 [conP 3 [anyP]] = resC zeroP 0 2 := by kernel_rfl
theorem d8 : witB smallG oneL witP = true := by kernel_rfl
theorem s1 : SmallP 1000000 ([] : List Pat) := ⟨by simp, by decide⟩
theorem s2 : SmallP 1000000 [xP] := ⟨fun p hp => by rw [List.mem_singleton.1 hp]; exact small_x, by decide⟩
theorem sc (n : Int) : (conP n []).small 1000000 := small_con (by decide) (by simp)
theorem sc2 (n : Int) {a b : Pat} (ha : a.small 1000000) (hb : b.small 1000000) : (conP n [a, b]).small 1000000 := small_con (by simp) (by simp [ha, hb])
theorem s3 : SmallP 1000000 [xP, conP 1 []] := ⟨by simp [small_x, sc], by decide⟩
theorem s4 : SmallP 1000000 oneL := ⟨by simp [oneL, sc, sc2, small_num, small_any], by decide⟩
theorem s5 : SmallP 1000000 fourL := ⟨by simp [fourL, sc, sc2, small_num, small_any], by decide⟩
theorem s6 : SmallP 1000000 [conP 1 [], conP 2 []] := ⟨by simp [sc], by decide⟩
theorem s7 : SmallP 1000000 [conP 3 [anyP]] := ⟨fun p hp => by rw [List.mem_singleton.1 hp]; exact small_con (by decide) (by simp [small_any]), by decide⟩
theorem s8 : SmallP 1000000 (oneL ++ [witP]) := ⟨by simp [oneL, witP, sc, sc2, small_num, small_any], by decide⟩

def xD : List DV := [.v (.int .u8 1), .v (.int .i64 7), .v (.int .i64 0), .v (.string ⟨#[]⟩), .v (.int .i64 0), .v (.int .i64 0), .v (.int .i64 0), .nil]
def rowO (l : List DV) : AObj := .row 41 (l.map .d)

set_option maxRecDepth 100000 in
set_option maxHeartbeats 8000000 in
theorem known_c : RunsP Try.prog 21 [] (fun v => v = .v (.bool true)) := by
  have hg := small_c
  have c1 := (at_c s1 (by decide) d1).wkA (args' := [.agg (sigD smallG), .nil]) (.cons (.refl _) (.cons (Wk.nil 8) .nil))
  have wx : WkL xD (patD xP) := wkL_patnil (Wk.nil 8)
  have c2 := (at_c s2 (by decide) d2).wkA (args' := [.agg (sigD smallG), .lst 8 [xD]]) (.cons (.refl _) (.cons (Wk.lst ⟨wx, trivial⟩) .nil))
  have c3 := (at_c s3 (by decide) d3).wkA (args' := [.agg (sigD smallG), .lst 8 [xD, patD (conP 1 [])]]) (.cons (.refl _) (.cons (Wk.lst ⟨wx, WkL.refl _, trivial⟩) .nil))
  have c4 := at_c s4 (by decide) d4
  have c5 := at_c s5 (by decide) d5
  have c6 := at_c s6 (by decide) d6
  have c7 := at_c s7 (by decide) d7
  have c8 := witness_c smallG_small (m := 1000000) (by decide) s8
  rw [d8] at c8
  have k1 := (con_c 1 []).wkA (args' := [.v (.int .i64 1), .nil]) (.cons (.refl _) (.cons (Wk.nil 8) .nil))
  have k2 := (con_c 2 []).wkA (args' := [.v (.int .i64 2), .nil]) (.cons (.refl _) (.cons (Wk.nil 8) .nil))
  have k3 := con_c 3 [numP 1, anyP]
  have k4 := con_c 3 [anyP, conP 2 []]
  have k5 := con_c 3 [anyP, anyP]
  have k6 := con_c 3 [anyP, conP 3 [anyP, anyP]]
  have k7 := con_c 3 [anyP]
  have n1 := num_c 1
  have a1 := anyone_c
  refine enterPB 133 tab_ok Try.func21 rfl (by kernel_rfl) rfl rfl rfl ?_
  refine w_mid (fun fr σ => getO [0] fr = some [.d (.v (.bool false))] ∧ σ = []) ?_ ?_
  · repeat' (first | refine s_op rfl ?_ | (apply s_assign; (iterate 4 (exact rfl))) | refine al_nil ?_ | refine aw_reg ?_)
    all_goals exact ⟨rfl, rfl, rfl⟩
  rintro fr σ ⟨hv, rfl⟩
  refine w_keep [0] hv rfl ?_
  clear hv
  refine w_mid (fun fr σ => getO [1] fr = some [.ptr 0 0 0] ∧ σ = [rowO xD]) ?_ ?_
  · repeat' (first | refine s_op rfl ?_ | (apply s_build tabZ_ok; (iterate 5 (exact rfl))) | (apply s_alloc tabZ_ok; (iterate 7 (exact rfl))) | (apply s_store tab_ok; (iterate 10 (exact rfl))) | refine al_nil ?_ | refine aw_reg ?_)
    all_goals exact ⟨rfl, rfl, rfl⟩
  rintro fr σ ⟨hv, rfl⟩
  refine w_keep [1] hv rfl ?_
  clear hv
  refine w_mid (fun fr σ => getO [1, 2, 4] fr = some [.ptr 0 0 0, .ptr 1 0 0, .d (.v (.int .i64 150))] ∧ σ = [rowO xD, rowO (patD anyP)]) ?_ ?_
  · repeat' (first | refine s_op rfl ?_ | (apply s_move; (iterate 4 (exact rfl))) | (apply s_assign; (iterate 4 (exact rfl))) | (apply s_ext; (iterate 5 (exact rfl))) | (apply s_alloc tabZ_ok; (iterate 7 (exact rfl))) | (apply s_store tab_ok; (iterate 10 (exact rfl))) | (apply s_call; (iterate 6 (exact rfl)); first | (exact hg; rintro _ rfl) | (exact c1; rintro _ rfl)) | refine al_nil ?_ | refine aw_reg ?_)
    all_goals exact ⟨rfl, rfl, rfl⟩
  rintro fr σ ⟨hv, rfl⟩
  refine w_keep [1, 2, 4] hv rfl ?_
  clear hv
  refine w_mid (fun fr σ => getO [1, 2, 4, 7] fr = some [.ptr 0 0 0, .ptr 1 0 0, .d (.v (.int .i64 150)), .d (.v (.int .i64 0))] ∧ σ = [rowO xD, rowO (patD anyP), rowO (patD zeroP)]) ?_ ?_
  · repeat' (first | refine s_op rfl ?_ | (apply s_move; (iterate 4 (exact rfl))) | (apply s_ld_p tab_ok; (iterate 7 (exact rfl))) | (apply s_assign; (iterate 4 (exact rfl))) | (apply s_ext; (iterate 5 (exact rfl))) | (apply s_alloc tabZ_ok; (iterate 7 (exact rfl))) | (apply s_store tab_ok; (iterate 10 (exact rfl))) | (apply s_lit tab_ok tabZ_ok; (iterate 10 (exact rfl))) | (apply s_call; (iterate 6 (exact rfl)); first | (exact hg; rintro _ rfl) | (exact c2; rintro _ rfl)) | refine al_nil ?_ | refine al_fork ?_ ?_ | refine al_fork3 ?_ ?_ ?_ | refine aw_draws (id := 3) (trO [1] (.fork3 0 (.fork 2 (.fork 3 (trO [4, 5, 6, 7, 8, 9, 10, 11] .nil) 8 (trO [3, 4, 5, 6, 7, 9, 10, 11] .nil)) 8 (trO [2, 3, 4, 5, 6, 7, 9, 10, 11] .nil)) 2 (.fork 0 (.fork 3 (trO [4, 5, 6, 7, 8, 9, 10, 11] .nil) 8 (trO [3, 4, 5, 6, 7, 9, 10, 11] .nil)) 8 (trO [0, 3, 4, 5, 6, 7, 9, 10, 11] .nil)) 8 (.fork 0 (trO [2, 3, 4, 5, 6, 7, 9, 10, 11] .nil) 2 (trO [0, 3, 4, 5, 6, 7, 9, 10, 11] .nil)))) [0, 2, 3, 8, 9] [9] mixed_ok (by kernel_rfl) ?_)
    all_goals exact ⟨rfl, rfl, rfl⟩
  rintro fr σ ⟨hv, rfl⟩
  refine w_keep [1, 2, 4, 7] hv rfl ?_
  clear hv
  refine w_mid (fun fr σ => getO [2, 4, 7, 9, 10] fr = some [.ptr 1 0 0, .d (.v (.int .i64 150)), .d (.v (.int .i64 0)), .d (.v (.int .i64 1)), .d (.v (.int .i64 151))] ∧ σ = [rowO xD, rowO (patD anyP), rowO (patD zeroP), rowO (patD zeroP)]) ?_ ?_
  · repeat' (first | refine s_op rfl ?_ | (apply s_move; (iterate 4 (exact rfl))) | (apply s_ld_p tab_ok; (iterate 7 (exact rfl))) | (apply s_assign; (iterate 4 (exact rfl))) | (apply s_ext; (iterate 5 (exact rfl))) | (apply s_alloc tabZ_ok; (iterate 7 (exact rfl))) | (apply s_store tab_ok; (iterate 10 (exact rfl))) | (apply s_lit tab_ok tabZ_ok; (iterate 10 (exact rfl))) | (apply s_call; (iterate 6 (exact rfl)); first | (exact hg; rintro _ rfl) | (exact k1; rintro _ rfl) | (exact c3; rintro _ rfl)) | refine al_nil ?_ | refine al_fork ?_ ?_ | refine aw_draws (id := 4) (trO [1] (.fork 0 (.fork 2 (.fork 3 (.fork 4 (trO [5, 6, 7, 8, 9, 10, 11, 12] .nil) 9 (trO [4, 5, 6, 7, 8, 10, 11, 12] .nil)) 9 (trO [3, 4, 5, 6, 7, 8, 10, 11, 12] .nil)) 9 (trO [2, 3, 4, 5, 6, 7, 8, 10, 11, 12] .nil)) 9 (trO [0, 2, 3, 4, 5, 6, 7, 8, 10, 11, 12] .nil))) [0, 2, 3, 4, 9, 10] [10] mixed_ok (by kernel_rfl) ?_)
    all_goals exact ⟨rfl, rfl, rfl⟩
  rintro fr σ ⟨hv, rfl⟩
  refine w_keep [2, 4, 7, 9, 10] hv rfl ?_
  clear hv c1 c2 c3 k1
  have k1 := (con_c 1 []).wkA (args' := [.v (.int .i64 1), .nil]) (.cons (.refl _) (.cons (Wk.nil 8) .nil))
  repeat' (first | refine s_op rfl ?_ | (apply s_move; (iterate 4 (exact rfl))) | (apply s_fa_p tab_ok; (iterate 5 (exact rfl))) | (apply s_ld_p tab_ok; (iterate 7 (exact rfl))) | (apply s_assign; (iterate 4 (exact rfl))) | (apply s_pick_t; (iterate 5 (exact rfl))) | (apply s_pick_f; (iterate 5 (exact rfl))) | (apply s_ext; (iterate 5 (exact rfl))) | (apply s_store tab_ok; (iterate 10 (exact rfl))) | (apply s_lit tab_ok tabZ_ok; (iterate 10 (exact rfl))) | (apply s_not_t; (iterate 4 (exact rfl))) | (apply s_eql_t; (iterate 5 (exact rfl)); omega) | (apply s_neq_f; (iterate 5 (exact rfl)); omega) | (apply s_call; (iterate 6 (exact rfl)); first | (exact hg; rintro _ rfl) | (exact a1; rintro _ rfl) | (exact n1; rintro _ rfl) | (exact k1; rintro _ rfl) | (exact k2; rintro _ rfl) | (exact k3; rintro _ rfl) | (exact k4; rintro _ rfl) | (exact k5; rintro _ rfl) | (exact k6; rintro _ rfl) | (exact k7; rintro _ rfl) | (exact c4; rintro _ rfl) | (exact c5; rintro _ rfl) | (exact c6; rintro _ rfl) | (exact c7; rintro _ rfl) | (exact c8; rintro _ rfl)) | refine al_nil ?_ | refine q_then_n ?_ | refine aw_seq ?_ | refine aw_reg ?_ | refine aw_false rfl ?_ | refine aw_skip ?_ | refine aw_ret ?_ | refine aw_draws (id := 9) (trO [0, 1, 2, 4, 5, 3, 6, 7, 8] .nil) [3, 6] [] mixed_ok (by kernel_rfl) ?_)
  all_goals exact q_retB (resB_1 rfl (resV_t rfl)) ⟨_, rfl, rfl⟩
end Go.Proofs.Ytjflembhgjcgkaa
