/- C48: the chapter's rows (16) are known. -/
import Derived.Test.YtjflembhgjcgkaaTP11XC40C41
import Derived.Test.YtjflembhgjcgkaaTP11Ak
import Derived.Test.YtjflembhgjcgkaaTP11C42
import Derived.Test.YtjflembhgjcgkaaTP11C39x3
set_option linter.unusedSimpArgs false
set_option linter.unusedVariables false
namespace Go.Proofs.Ytjflembhgjcgkaa
open Go.RowKit

def tArm (n : Int) : TreeT := bare 2 n [] [] []
def tNone : TreeT := bare 1 0 [] [] []
def tOnes : TreeT := bare 3 0 [0] [(tArm 1).at 3 0 1 ⟨#[]⟩] [tArm 2]
def tOnes0 : TreeT := bare 3 0 [0] [(tArm 1).at 3 0 1 ⟨#[]⟩] []
def tB3 : TreeT := bare 3 0 [] [(tArm 0).at 5 2 0 ⟨#[]⟩, tOnes.at 5 3 0 ⟨#[]⟩] []
def tIn : TreeT := bare 3 0 [1] [(tArm 0).at 5 2 0 ⟨#[]⟩, tNone.at 5 3 0 ⟨#[]⟩] []
def tB4 : TreeT := bare 3 0 [] [(tArm 1).at 5 2 0 ⟨#[]⟩, tIn.at 5 3 0 ⟨#[]⟩] []
def cP (n : Int) (l : List Pat) : Pat := .mk 5 n 0 ⟨#[]⟩ 0 0 0 l
def nP (n : Int) : Pat := .mk 1 n 0 ⟨#[]⟩ 0 0 0 []
def iP (n : Int) : Pat := .mk 3 0 n ⟨#[]⟩ 0 0 0 []
def l3 : List Pat := [cP 2 [], cP 3 [iP 1, nP 0], cP 3 [nP 1, nP 2]]
def l4 : List Pat := [cP 3 [anyP, cP 2 []], cP 2 []]
def pB : Pat := cP 3 [nP 4, cP 3 [nP 5, anyP]]

theorem k1 : buildT smallG [] (mayZ smallG []) = (tNone, 0) := by kernel_rfl
theorem k2 : buildT smallG [nP 3] (mayZ smallG [nP 3]) = (tArm 0, 0) := by kernel_rfl
theorem k3 : buildT smallG l3 (mayZ smallG l3) = (tB3, 0) := by kernel_rfl
theorem k4 : buildT smallG l4 (mayZ smallG l4) = (tB4, 0) := by kernel_rfl
theorem k5 : bindsF pB [] = [⟨4, [0]⟩, ⟨5, [1, 0]⟩] := by kernel_rfl
theorem sArm (n : Int) : (tArm n).small := ⟨by decide, by decide, by decide, trivial, trivial⟩
theorem sNone : tNone.small := ⟨by decide, by decide, by decide, trivial, trivial⟩
theorem sB3 : tB3.small := ⟨by decide, by decide, by decide, ⟨sArm 0, ⟨by decide, by decide, by decide, ⟨sArm 1, trivial⟩, ⟨sArm 2, trivial⟩⟩, trivial⟩, trivial⟩
theorem sB4 : tB4.small := ⟨by decide, by decide, by decide, ⟨sArm 1, ⟨by decide, by decide, by decide, ⟨sArm 0, sNone, trivial⟩, trivial⟩, trivial⟩, trivial⟩

theorem al_keep {P : Program} {nt : Nat} {ops : Array Oper} {dr : Bool} {dos ends : List Nat} {l : Trr} {Q : Exit → Fr → List AObj → Prop} {fr : Fr} {σ : List AObj} (ks : List Nat) {vs : List AV} {fr' : Fr} (hv : getO ks fr = some vs) (hf : seqL (ks.zip vs) some = some fr') (h : AL P nt ops dr dos ends l Q fr' σ) : AL P nt ops dr dos ends l Q fr σ := by
  rw [seqL_eq] at hf
  injection hf with hf
  subst hf
  refine al_ghost (ghost_frame fun i => ?_) h
  rw [getO_eq hv]; exact fget_zip ks fr i
theorem aw_drawsT {P : Program} {nt : Nat} {ops : Array Oper} {Q : Exit → Fr → List AObj → Prop} {fr : Fr} {σ : List AObj} {id : Nat} (l tl : Trr) (M : Fr → List AObj → Prop) (dos fs : List Nat) (hm : P.follows .mixedOrders = true) (hB : orderN ops dos fs l = true)
    (ht : ∀ fr σ, M fr σ → AL P nt ops true dos [] tl Q fr σ) (h : (∀ fr σ, M fr σ → AL P nt ops true dos [] tl Q fr σ) → AL P nt ops true dos [] l Q fr σ) : AWk P nt (.region id ops true) Q fr σ :=
  aw_draws l dos [] hm (orderN_ok fs hB) (h ht)

set_option maxRecDepth 100000 in
set_option maxHeartbeats 16000000 in
theorem known12_c : RunsP Try.prog 12 [] (fun v => v = .v (.bool true)) := by
  have b1 := (builds_c (l := []) (t := tNone) (by decide) sNone k1).wkA (args' := [.agg (treeD tNone), .nil]) (.cons (Wk.refl _) (.cons (Wk.nil 8) .nil))
  have b2 := builds_c (l := [nP 3]) (t := tArm 0) (by decide) (sArm 0) k2
  have b3 := builds_c (l := l3) (t := tB3) (by decide) sB3 k3
  have b4 := builds_c (l := l4) (t := tB4) (by decide) sB4 k4
  have a0 := arm_c 0
  have a1 := arm_c 1
  have a2 := arm_c 2
  have nn := none52_c
  have lk1 := look_c [0] [(tArm 1).at 3 0 1 ⟨#[]⟩]
  have lk3 := (look_c [] [(tArm 0).at 5 2 0 ⟨#[]⟩, tOnes.at 5 3 0 ⟨#[]⟩]).wkA (args' := [.nil, .lst 9 (brR [(tArm 0).at 5 2 0 ⟨#[]⟩, tOnes.at 5 3 0 ⟨#[]⟩])]) (.cons (Wk.nil 1) (.cons (Wk.refl _) .nil))
  have lkI := look_c [1] [(tArm 0).at 5 2 0 ⟨#[]⟩, tNone.at 5 3 0 ⟨#[]⟩]
  have lk4 := (look_c [] [(tArm 1).at 5 2 0 ⟨#[]⟩, tIn.at 5 3 0 ⟨#[]⟩]).wkA (args' := [.nil, .lst 9 (brR [(tArm 1).at 5 2 0 ⟨#[]⟩, tIn.at 5 3 0 ⟨#[]⟩])]) (.cons (Wk.nil 1) (.cons (Wk.refl _) .nil))
  have t1 := at53_c 2 (tArm 0)
  have t2 := at53_c 3 tOnes
  have t3 := at53_c 2 (tArm 1)
  have t4 := at53_c 3 tNone
  have t5 := at53_c 3 tIn
  have n0 := name49_c 0
  have n1 := name49_c 1
  have n2 := name49_c 2
  have n3 := name49_c 3
  have n4 := name49_c 4
  have n5 := name49_c 5
  have aa := anyone50_c
  have c5 := con48_c 3 [nP 5, anyP]
  have cB := con48_c 3 [nP 4, cP 3 [nP 5, anyP]]
  have c2 := (con48_c 2 []).wkA (args' := [.v (.int .i64 2), .nil]) (.cons (Wk.refl _) (.cons (Wk.nil 8) .nil))
  have c31 := (con48_c 3 [iP 1, nP 0]).wkA (args' := [.v (.int .i64 3), .lst 8 [[.v (.int .u8 3), .v (.int .i64 0), .v (.int .i64 1), .v (.string ⟨#[]⟩), .v (.int .i64 0), .v (.int .i64 0), .v (.int .i64 0), .nil], patD (nP 0)]]) (.cons (Wk.refl _) (.cons (Wk.lst ⟨wkL_patnil (Wk.nil 8), WkL.refl _, trivial⟩) .nil))
  have c3n := con48_c 3 [nP 1, nP 2]
  have c3a := con48_c 3 [anyP, cP 2 []]
  have hb := Binds_c pB (by decide)
  rw [k5] at hb
  have eb : (List.map bindD [(⟨4, [0]⟩ : BindT), ⟨5, [1, 0]⟩]).length = 2 := rfl
  have s1 := same20_c [0] [0] (by decide) (by decide)
  have s2 := same20_c [1, 0] [1, 0] (by decide) (by decide)
  rw [decide_eq_true rfl] at s1 s2
  refine enterPB 102 tab_ok Try.func12 rfl (by kernel_rfl) rfl rfl rfl ?_
  refine w_mid (fun fr σ => getO [0] fr = some [.d (.v (.bool false))] ∧ σ = []) ?_ ?_
  · repeat' (first
      | refine s_op rfl ?_ | (apply s_skipV; (iterate 2 (exact rfl))) | (apply s_skipU; (iterate 3 (exact rfl))) | (apply s_move; (iterate 4 (exact rfl))) | (apply s_fa_p tab_ok; (iterate 5 (exact rfl)))
      | (apply s_fa_f tab_ok; (iterate 6 (exact rfl))) | (apply s_ld_p tab_ok; (iterate 7 (exact rfl))) | (apply s_ld_f tab_ok; (iterate 6 (exact rfl))) | (apply s_ld_w tab_ok; (iterate 5 (exact rfl)); (first | exact askD_len _ | exact patD_len _ | exact valD_len _ | exact rowTD_len _ | exact brD_len _ | exact treeD_len _ | exact factD_len _ | exact bindD_len _)) | (apply s_assign; (iterate 4 (exact rfl)))
      | (apply s_pick_t; (iterate 5 (exact rfl))) | (apply s_pick_f; (iterate 5 (exact rfl))) | (apply s_len tab_ok; (iterate 5 (exact rfl))) | (apply s_lens str_ok; (iterate 4 (exact rfl))) | (apply s_idx tab_ok; (iterate 7 (exact rfl)); (first | exact patR_get (by assumption) | exact valR_get (by assumption) | exact row_map (by assumption) | exact brR_get (by assumption) | exact treeR_get (by assumption) | exact facts_get (by assumption) | assumption))
      | (apply s_build tabZ_ok; (iterate 5 (exact rfl))) | (apply s_alloc tabZ_ok; (iterate 7 (exact rfl))) | (apply s_store tab_ok; (iterate 10 (exact rfl))) | (apply s_lit tab_ok tabZ_ok; (iterate 10 (exact rfl))) | (apply s_lit1 tab_ok tabZ_ok; (iterate 9 (exact rfl)); (first | exact askD_len _ | exact patD_len _ | exact valD_len _ | exact rowTD_len _ | exact brD_len _ | exact treeD_len _ | exact factD_len _ | exact bindD_len _))
      | (apply s_eql_t; (iterate 5 (exact rfl)); omega) | (apply s_eql_f; (iterate 5 (exact rfl)); omega)
      | refine al_nil ?_ | refine q_then_n ?_ | refine q_then_r ?_ | refine aw_seq ?_ | refine aw_reg ?_
      | refine aw_ret ?_ | refine al_fork ?_ ?_ | refine al_fork3 ?_ ?_ ?_
      | refine aw_draws (id := 4) (trO [0, 1, 2, 3, 4, 5, 6, 7, 8, 11, 16, 9, 10, 12, 13, 14, 15, 17, 18, 19, 20, 21, 22, 23, 24, 25, 26, 27] (.fork 28 (.fork 29 (.fork 30 (trO [31, 32, 33, 34, 35, 36, 37, 38, 39, 40, 41, 42, 43, 44, 45, 46, 47, 48, 49, 50, 51, 52, 53, 54, 55, 56, 57, 58, 59, 60, 61, 62, 63, 64, 65, 66, 67, 68, 69, 70, 71, 72, 73, 74, 75, 76, 77, 78, 79, 80, 81, 82, 83] .nil) 31 (.fork 30 (trO [32, 33, 34, 35, 36, 37, 38, 39, 40, 41, 42, 43, 44, 45, 46, 47, 48, 49, 50, 51, 52, 53, 54, 55, 56, 57, 58, 59, 60, 61, 62, 63, 64, 65, 66, 67, 68, 69, 70, 71, 72, 73, 74, 75, 76, 77, 78, 79, 80, 81, 82, 83] .nil) 32 (.fork 30 (trO [33, 34, 35, 36, 37, 38, 39, 40, 41, 42, 43, 44, 45, 46, 47, 48, 49, 50, 51, 52, 53, 54, 55, 56, 57, 58, 59, 60, 61, 62, 63, 64, 65, 66, 67, 68, 69, 70, 71, 72, 73, 74, 75, 76, 77, 78, 79, 80, 81, 82, 83] .nil) 33 (.fork 30 (trO [34, 35, 36, 37, 38, 39, 40, 41, 42, 43, 44, 45, 46, 47, 48, 49, 50, 51, 52, 53, 54, 55, 56, 57, 58, 59, 60, 61, 62, 63, 64, 65, 66, 67, 68, 69, 70, 71, 72, 73, 74, 75, 76, 77, 78, 79, 80, 81, 82, 83] .nil) 34 (.fork 30 (trO [35, 36, 37, 38, 39, 40, 41, 42, 43, 44, 45, 46, 47, 48, 49, 50, 51, 52, 53, 54, 55, 56, 57, 58, 59, 60, 61, 62, 63, 64, 65, 66, 67, 68, 69, 70, 71, 72, 73, 74, 75, 76, 77, 78, 79, 80, 81, 82, 83] .nil) 35 (trO [30, 36, 37, 38, 39, 40, 41, 42, 43, 44, 45, 46, 47, 48, 49, 50, 51, 52, 53, 54, 55, 56, 57, 58, 59, 60, 61, 62, 63, 64, 65, 66, 67, 68, 69, 70, 71, 72, 73, 74, 75, 76, 77, 78, 79, 80, 81, 82, 83] .nil)))))) 30 (trO [29, 31, 32, 33, 34, 35, 36, 37, 38, 39, 40, 41, 42, 43, 44, 45, 46, 47, 48, 49, 50, 51, 52, 53, 54, 55, 56, 57, 58, 59, 60, 61, 62, 63, 64, 65, 66, 67, 68, 69, 70, 71, 72, 73, 74, 75, 76, 77, 78, 79, 80, 81, 82, 83] .nil)) 30 (trO [28, 29, 31, 32, 33, 34, 35, 36, 37, 38, 39, 40, 41, 42, 43, 44, 45, 46, 47, 48, 49, 50, 51, 52, 53, 54, 55, 56, 57, 58, 59, 60, 61, 62, 63, 64, 65, 66, 67, 68, 69, 70, 71, 72, 73, 74, 75, 76, 77, 78, 79, 80, 81, 82, 83] .nil))) [0, 1, 3, 4, 5, 6, 9, 10, 12, 13, 14, 15, 17, 18, 19, 20, 21, 22, 23, 24, 25, 28, 29, 30, 31, 32, 33, 34, 35, 36, 37, 38, 39, 40, 41, 42, 43, 44, 45, 46, 65, 66, 80, 81] [] mixed_ok (by kernel_rfl) ?_)
    all_goals exact ⟨rfl, rfl, rfl⟩
  rintro fr σ ⟨hv, rfl⟩
  refine w_keep [0] hv rfl ?_
  clear hv
  refine w_mid (fun fr σ => getO [1] fr = some [.ptr 0 0 0] ∧ σ = [.row 33 ((treeD tOnes0).map .d)]) ?_ ?_
  · repeat' (first
      | refine s_op rfl ?_ | (apply s_skipV; (iterate 2 (exact rfl))) | (apply s_skipU; (iterate 3 (exact rfl))) | (apply s_move; (iterate 4 (exact rfl))) | (apply s_fa_p tab_ok; (iterate 5 (exact rfl)))
      | (apply s_fa_f tab_ok; (iterate 6 (exact rfl))) | (apply s_ld_p tab_ok; (iterate 7 (exact rfl))) | (apply s_ld_f tab_ok; (iterate 6 (exact rfl))) | (apply s_ld_w tab_ok; (iterate 5 (exact rfl)); (first | exact askD_len _ | exact patD_len _ | exact valD_len _ | exact rowTD_len _ | exact brD_len _ | exact treeD_len _ | exact factD_len _ | exact bindD_len _)) | (apply s_assign; (iterate 4 (exact rfl)))
      | (apply s_pick_t; (iterate 5 (exact rfl))) | (apply s_pick_f; (iterate 5 (exact rfl))) | (apply s_len tab_ok; (iterate 5 (exact rfl))) | (apply s_lens str_ok; (iterate 4 (exact rfl))) | (apply s_idx tab_ok; (iterate 7 (exact rfl)); (first | exact patR_get (by assumption) | exact valR_get (by assumption) | exact row_map (by assumption) | exact brR_get (by assumption) | exact treeR_get (by assumption) | exact facts_get (by assumption) | assumption))
      | (apply s_build tabZ_ok; (iterate 5 (exact rfl))) | (apply s_alloc tabZ_ok; (iterate 7 (exact rfl))) | (apply s_store tab_ok; (iterate 10 (exact rfl))) | (apply s_lit tab_ok tabZ_ok; (iterate 10 (exact rfl))) | (apply s_lit1 tab_ok tabZ_ok; (iterate 9 (exact rfl)); (first | exact askD_len _ | exact patD_len _ | exact valD_len _ | exact rowTD_len _ | exact brD_len _ | exact treeD_len _ | exact factD_len _ | exact bindD_len _))
      | (apply s_eql_t; (iterate 5 (exact rfl)); omega) | (apply s_eql_f; (iterate 5 (exact rfl)); omega)
      | (apply s_call; (iterate 6 (exact rfl)); first | (exact a1; rintro _ rfl) | (exact lk1; rintro _ rfl))
      | refine al_nil ?_ | refine q_then_n ?_ | refine q_then_r ?_ | refine aw_seq ?_ | refine aw_reg ?_
      | refine aw_ret ?_ | refine al_fork ?_ ?_ | refine al_fork3 ?_ ?_ ?_
      | refine aw_draws (id := 4) (trO [0, 1, 2, 3, 4, 5, 6, 7, 8, 11, 16, 9, 10, 12, 13, 14, 15, 17, 18, 19, 20, 21, 22, 23, 24, 25, 26, 27] (.fork 28 (.fork 29 (.fork 30 (trO [31, 32, 33, 34, 35, 36, 37, 38, 39, 40, 41, 42, 43, 44, 45, 46, 47, 48, 49, 50, 51, 52, 53, 54, 55, 56, 57, 58, 59, 60, 61, 62, 63, 64, 65, 66, 67, 68, 69, 70, 71, 72, 73, 74, 75, 76, 77, 78, 79, 80, 81, 82, 83] .nil) 31 (.fork 30 (trO [32, 33, 34, 35, 36, 37, 38, 39, 40, 41, 42, 43, 44, 45, 46, 47, 48, 49, 50, 51, 52, 53, 54, 55, 56, 57, 58, 59, 60, 61, 62, 63, 64, 65, 66, 67, 68, 69, 70, 71, 72, 73, 74, 75, 76, 77, 78, 79, 80, 81, 82, 83] .nil) 32 (.fork 30 (trO [33, 34, 35, 36, 37, 38, 39, 40, 41, 42, 43, 44, 45, 46, 47, 48, 49, 50, 51, 52, 53, 54, 55, 56, 57, 58, 59, 60, 61, 62, 63, 64, 65, 66, 67, 68, 69, 70, 71, 72, 73, 74, 75, 76, 77, 78, 79, 80, 81, 82, 83] .nil) 33 (.fork 30 (trO [34, 35, 36, 37, 38, 39, 40, 41, 42, 43, 44, 45, 46, 47, 48, 49, 50, 51, 52, 53, 54, 55, 56, 57, 58, 59, 60, 61, 62, 63, 64, 65, 66, 67, 68, 69, 70, 71, 72, 73, 74, 75, 76, 77, 78, 79, 80, 81, 82, 83] .nil) 34 (.fork 30 (trO [35, 36, 37, 38, 39, 40, 41, 42, 43, 44, 45, 46, 47, 48, 49, 50, 51, 52, 53, 54, 55, 56, 57, 58, 59, 60, 61, 62, 63, 64, 65, 66, 67, 68, 69, 70, 71, 72, 73, 74, 75, 76, 77, 78, 79, 80, 81, 82, 83] .nil) 35 (trO [30, 36, 37, 38, 39, 40, 41, 42, 43, 44, 45, 46, 47, 48, 49, 50, 51, 52, 53, 54, 55, 56, 57, 58, 59, 60, 61, 62, 63, 64, 65, 66, 67, 68, 69, 70, 71, 72, 73, 74, 75, 76, 77, 78, 79, 80, 81, 82, 83] .nil)))))) 30 (trO [29, 31, 32, 33, 34, 35, 36, 37, 38, 39, 40, 41, 42, 43, 44, 45, 46, 47, 48, 49, 50, 51, 52, 53, 54, 55, 56, 57, 58, 59, 60, 61, 62, 63, 64, 65, 66, 67, 68, 69, 70, 71, 72, 73, 74, 75, 76, 77, 78, 79, 80, 81, 82, 83] .nil)) 30 (trO [28, 29, 31, 32, 33, 34, 35, 36, 37, 38, 39, 40, 41, 42, 43, 44, 45, 46, 47, 48, 49, 50, 51, 52, 53, 54, 55, 56, 57, 58, 59, 60, 61, 62, 63, 64, 65, 66, 67, 68, 69, 70, 71, 72, 73, 74, 75, 76, 77, 78, 79, 80, 81, 82, 83] .nil))) [0, 1, 3, 4, 5, 6, 9, 10, 12, 13, 14, 15, 17, 18, 19, 20, 21, 22, 23, 24, 25, 28, 29, 30, 31, 32, 33, 34, 35, 36, 37, 38, 39, 40, 41, 42, 43, 44, 45, 46, 65, 66, 80, 81] [] mixed_ok (by kernel_rfl) ?_)
    all_goals exact ⟨rfl, rfl, rfl⟩
  rintro fr σ ⟨hv, rfl⟩
  refine w_keep [1] hv rfl ?_
  clear hv
  refine w_mid (fun fr σ => getO [1] fr = some [.ptr 0 0 0] ∧ σ = [.row 33 ((treeD tOnes).map .d)]) ?_ ?_
  · repeat' (first
      | refine s_op rfl ?_ | (apply s_skipV; (iterate 2 (exact rfl))) | (apply s_skipU; (iterate 3 (exact rfl))) | (apply s_move; (iterate 4 (exact rfl))) | (apply s_fa_p tab_ok; (iterate 5 (exact rfl)))
      | (apply s_fa_f tab_ok; (iterate 6 (exact rfl))) | (apply s_ld_p tab_ok; (iterate 7 (exact rfl))) | (apply s_ld_f tab_ok; (iterate 6 (exact rfl))) | (apply s_ld_w tab_ok; (iterate 5 (exact rfl)); (first | exact askD_len _ | exact patD_len _ | exact valD_len _ | exact rowTD_len _ | exact brD_len _ | exact treeD_len _ | exact factD_len _ | exact bindD_len _)) | (apply s_assign; (iterate 4 (exact rfl)))
      | (apply s_pick_t; (iterate 5 (exact rfl))) | (apply s_pick_f; (iterate 5 (exact rfl))) | (apply s_len tab_ok; (iterate 5 (exact rfl))) | (apply s_lens str_ok; (iterate 4 (exact rfl))) | (apply s_idx tab_ok; (iterate 7 (exact rfl)); (first | exact patR_get (by assumption) | exact valR_get (by assumption) | exact row_map (by assumption) | exact brR_get (by assumption) | exact treeR_get (by assumption) | exact facts_get (by assumption) | assumption))
      | (apply s_build tabZ_ok; (iterate 5 (exact rfl))) | (apply s_alloc tabZ_ok; (iterate 7 (exact rfl))) | (apply s_store tab_ok; (iterate 10 (exact rfl))) | (apply s_lit tab_ok tabZ_ok; (iterate 10 (exact rfl))) | (apply s_lit1 tab_ok tabZ_ok; (iterate 9 (exact rfl)); (first | exact askD_len _ | exact patD_len _ | exact valD_len _ | exact rowTD_len _ | exact brD_len _ | exact treeD_len _ | exact factD_len _ | exact bindD_len _))
      | (apply s_eql_t; (iterate 5 (exact rfl)); omega) | (apply s_eql_f; (iterate 5 (exact rfl)); omega)
      | (apply s_call; (iterate 6 (exact rfl)); first | (exact a2; rintro _ rfl))
      | refine al_nil ?_ | refine q_then_n ?_ | refine q_then_r ?_ | refine aw_seq ?_ | refine aw_reg ?_
      | refine aw_ret ?_ | refine al_fork ?_ ?_ | refine al_fork3 ?_ ?_ ?_
      | refine aw_draws (id := 4) (trO [0, 1, 2, 3, 4, 5, 6, 7, 8, 11, 16, 9, 10, 12, 13, 14, 15, 17, 18, 19, 20, 21, 22, 23, 24, 25, 26, 27] (.fork 28 (.fork 29 (.fork 30 (trO [31, 32, 33, 34, 35, 36, 37, 38, 39, 40, 41, 42, 43, 44, 45, 46, 47, 48, 49, 50, 51, 52, 53, 54, 55, 56, 57, 58, 59, 60, 61, 62, 63, 64, 65, 66, 67, 68, 69, 70, 71, 72, 73, 74, 75, 76, 77, 78, 79, 80, 81, 82, 83] .nil) 31 (.fork 30 (trO [32, 33, 34, 35, 36, 37, 38, 39, 40, 41, 42, 43, 44, 45, 46, 47, 48, 49, 50, 51, 52, 53, 54, 55, 56, 57, 58, 59, 60, 61, 62, 63, 64, 65, 66, 67, 68, 69, 70, 71, 72, 73, 74, 75, 76, 77, 78, 79, 80, 81, 82, 83] .nil) 32 (.fork 30 (trO [33, 34, 35, 36, 37, 38, 39, 40, 41, 42, 43, 44, 45, 46, 47, 48, 49, 50, 51, 52, 53, 54, 55, 56, 57, 58, 59, 60, 61, 62, 63, 64, 65, 66, 67, 68, 69, 70, 71, 72, 73, 74, 75, 76, 77, 78, 79, 80, 81, 82, 83] .nil) 33 (.fork 30 (trO [34, 35, 36, 37, 38, 39, 40, 41, 42, 43, 44, 45, 46, 47, 48, 49, 50, 51, 52, 53, 54, 55, 56, 57, 58, 59, 60, 61, 62, 63, 64, 65, 66, 67, 68, 69, 70, 71, 72, 73, 74, 75, 76, 77, 78, 79, 80, 81, 82, 83] .nil) 34 (.fork 30 (trO [35, 36, 37, 38, 39, 40, 41, 42, 43, 44, 45, 46, 47, 48, 49, 50, 51, 52, 53, 54, 55, 56, 57, 58, 59, 60, 61, 62, 63, 64, 65, 66, 67, 68, 69, 70, 71, 72, 73, 74, 75, 76, 77, 78, 79, 80, 81, 82, 83] .nil) 35 (trO [30, 36, 37, 38, 39, 40, 41, 42, 43, 44, 45, 46, 47, 48, 49, 50, 51, 52, 53, 54, 55, 56, 57, 58, 59, 60, 61, 62, 63, 64, 65, 66, 67, 68, 69, 70, 71, 72, 73, 74, 75, 76, 77, 78, 79, 80, 81, 82, 83] .nil)))))) 30 (trO [29, 31, 32, 33, 34, 35, 36, 37, 38, 39, 40, 41, 42, 43, 44, 45, 46, 47, 48, 49, 50, 51, 52, 53, 54, 55, 56, 57, 58, 59, 60, 61, 62, 63, 64, 65, 66, 67, 68, 69, 70, 71, 72, 73, 74, 75, 76, 77, 78, 79, 80, 81, 82, 83] .nil)) 30 (trO [28, 29, 31, 32, 33, 34, 35, 36, 37, 38, 39, 40, 41, 42, 43, 44, 45, 46, 47, 48, 49, 50, 51, 52, 53, 54, 55, 56, 57, 58, 59, 60, 61, 62, 63, 64, 65, 66, 67, 68, 69, 70, 71, 72, 73, 74, 75, 76, 77, 78, 79, 80, 81, 82, 83] .nil))) [0, 1, 3, 4, 5, 6, 9, 10, 12, 13, 14, 15, 17, 18, 19, 20, 21, 22, 23, 24, 25, 28, 29, 30, 31, 32, 33, 34, 35, 36, 37, 38, 39, 40, 41, 42, 43, 44, 45, 46, 65, 66, 80, 81] [] mixed_ok (by kernel_rfl) ?_)
    all_goals exact ⟨rfl, rfl, rfl⟩
  rintro fr σ ⟨hv, rfl⟩
  refine w_keep [1] hv rfl ?_
  clear hv
  refine w_mid (fun fr σ => getO [1, 2] fr = some [.ptr 0 0 0, .d (.lst 2 ([⟨4, [0]⟩, ⟨5, [1, 0]⟩].map bindD))] ∧ σ = [.row 33 ((treeD tOnes).map .d)]) ?_ ?_
  · repeat' (first
      | refine s_op rfl ?_ | (apply s_skipV; (iterate 2 (exact rfl))) | (apply s_skipU; (iterate 3 (exact rfl))) | (apply s_move; (iterate 4 (exact rfl))) | (apply s_fa_p tab_ok; (iterate 5 (exact rfl)))
      | (apply s_fa_f tab_ok; (iterate 6 (exact rfl))) | (apply s_ld_p tab_ok; (iterate 7 (exact rfl))) | (apply s_ld_f tab_ok; (iterate 6 (exact rfl))) | (apply s_ld_w tab_ok; (iterate 5 (exact rfl)); (first | exact askD_len _ | exact patD_len _ | exact valD_len _ | exact rowTD_len _ | exact brD_len _ | exact treeD_len _ | exact factD_len _ | exact bindD_len _)) | (apply s_assign; (iterate 4 (exact rfl)))
      | (apply s_pick_t; (iterate 5 (exact rfl))) | (apply s_pick_f; (iterate 5 (exact rfl))) | (apply s_len tab_ok; (iterate 5 (exact rfl))) | (apply s_lens str_ok; (iterate 4 (exact rfl))) | (apply s_idx tab_ok; (iterate 7 (exact rfl)); (first | exact patR_get (by assumption) | exact valR_get (by assumption) | exact row_map (by assumption) | exact brR_get (by assumption) | exact treeR_get (by assumption) | exact facts_get (by assumption) | assumption))
      | (apply s_build tabZ_ok; (iterate 5 (exact rfl))) | (apply s_alloc tabZ_ok; (iterate 7 (exact rfl))) | (apply s_store tab_ok; (iterate 10 (exact rfl))) | (apply s_lit tab_ok tabZ_ok; (iterate 10 (exact rfl))) | (apply s_lit1 tab_ok tabZ_ok; (iterate 9 (exact rfl)); (first | exact askD_len _ | exact patD_len _ | exact valD_len _ | exact rowTD_len _ | exact brD_len _ | exact treeD_len _ | exact factD_len _ | exact bindD_len _))
      | (apply s_eql_t; (iterate 5 (exact rfl)); omega) | (apply s_eql_f; (iterate 5 (exact rfl)); omega)
      | (apply s_call; (iterate 6 (exact rfl)); first | (exact n4; rintro _ rfl) | (exact n5; rintro _ rfl) | (exact aa; rintro _ rfl) | (exact c5; rintro _ rfl) | (exact cB; rintro _ rfl) | (exact hb; rintro _ rfl))
      | refine al_nil ?_ | refine q_then_n ?_ | refine q_then_r ?_ | refine aw_seq ?_ | refine aw_reg ?_
      | refine aw_ret ?_ | refine al_fork ?_ ?_ | refine al_fork3 ?_ ?_ ?_
      | refine aw_draws (id := 4) (trO [0, 1, 2, 3, 4, 5, 6, 7, 8, 11, 16, 9, 10, 12, 13, 14, 15, 17, 18, 19, 20, 21, 22, 23, 24, 25, 26, 27] (.fork 28 (.fork 29 (.fork 30 (trO [31, 32, 33, 34, 35, 36, 37, 38, 39, 40, 41, 42, 43, 44, 45, 46, 47, 48, 49, 50, 51, 52, 53, 54, 55, 56, 57, 58, 59, 60, 61, 62, 63, 64, 65, 66, 67, 68, 69, 70, 71, 72, 73, 74, 75, 76, 77, 78, 79, 80, 81, 82, 83] .nil) 31 (.fork 30 (trO [32, 33, 34, 35, 36, 37, 38, 39, 40, 41, 42, 43, 44, 45, 46, 47, 48, 49, 50, 51, 52, 53, 54, 55, 56, 57, 58, 59, 60, 61, 62, 63, 64, 65, 66, 67, 68, 69, 70, 71, 72, 73, 74, 75, 76, 77, 78, 79, 80, 81, 82, 83] .nil) 32 (.fork 30 (trO [33, 34, 35, 36, 37, 38, 39, 40, 41, 42, 43, 44, 45, 46, 47, 48, 49, 50, 51, 52, 53, 54, 55, 56, 57, 58, 59, 60, 61, 62, 63, 64, 65, 66, 67, 68, 69, 70, 71, 72, 73, 74, 75, 76, 77, 78, 79, 80, 81, 82, 83] .nil) 33 (.fork 30 (trO [34, 35, 36, 37, 38, 39, 40, 41, 42, 43, 44, 45, 46, 47, 48, 49, 50, 51, 52, 53, 54, 55, 56, 57, 58, 59, 60, 61, 62, 63, 64, 65, 66, 67, 68, 69, 70, 71, 72, 73, 74, 75, 76, 77, 78, 79, 80, 81, 82, 83] .nil) 34 (.fork 30 (trO [35, 36, 37, 38, 39, 40, 41, 42, 43, 44, 45, 46, 47, 48, 49, 50, 51, 52, 53, 54, 55, 56, 57, 58, 59, 60, 61, 62, 63, 64, 65, 66, 67, 68, 69, 70, 71, 72, 73, 74, 75, 76, 77, 78, 79, 80, 81, 82, 83] .nil) 35 (trO [30, 36, 37, 38, 39, 40, 41, 42, 43, 44, 45, 46, 47, 48, 49, 50, 51, 52, 53, 54, 55, 56, 57, 58, 59, 60, 61, 62, 63, 64, 65, 66, 67, 68, 69, 70, 71, 72, 73, 74, 75, 76, 77, 78, 79, 80, 81, 82, 83] .nil)))))) 30 (trO [29, 31, 32, 33, 34, 35, 36, 37, 38, 39, 40, 41, 42, 43, 44, 45, 46, 47, 48, 49, 50, 51, 52, 53, 54, 55, 56, 57, 58, 59, 60, 61, 62, 63, 64, 65, 66, 67, 68, 69, 70, 71, 72, 73, 74, 75, 76, 77, 78, 79, 80, 81, 82, 83] .nil)) 30 (trO [28, 29, 31, 32, 33, 34, 35, 36, 37, 38, 39, 40, 41, 42, 43, 44, 45, 46, 47, 48, 49, 50, 51, 52, 53, 54, 55, 56, 57, 58, 59, 60, 61, 62, 63, 64, 65, 66, 67, 68, 69, 70, 71, 72, 73, 74, 75, 76, 77, 78, 79, 80, 81, 82, 83] .nil))) [0, 1, 3, 4, 5, 6, 9, 10, 12, 13, 14, 15, 17, 18, 19, 20, 21, 22, 23, 24, 25, 28, 29, 30, 31, 32, 33, 34, 35, 36, 37, 38, 39, 40, 41, 42, 43, 44, 45, 46, 65, 66, 80, 81] [] mixed_ok (by kernel_rfl) ?_)
    all_goals exact ⟨rfl, rfl, rfl⟩
  rintro fr σ ⟨hv, rfl⟩
  refine w_keep [1, 2] hv rfl ?_
  clear hv
  dsimp only [List.append]
  refine aw_seq ?_
  refine aw_drawsT (id := 4) (trO [0, 1, 2, 3, 4, 5, 6, 7, 8, 11, 16, 9, 10, 12, 13, 14, 15, 17, 18, 19, 20, 21, 22, 23, 24, 25, 26, 27] (.fork 28 (.fork 29 (.fork 30 (trO [31, 32, 33, 34, 35, 36, 37, 38, 39, 40, 41, 42, 43, 44, 45, 46, 47, 48, 49, 50, 51, 52, 53, 54, 55, 56, 57, 58, 59, 60, 61, 62, 63, 64, 65, 66, 67, 68, 69, 70, 71, 72, 73, 74, 75, 76, 77, 78, 79, 80, 81, 82, 83] .nil) 31 (.fork 30 (trO [32, 33, 34, 35, 36, 37, 38, 39, 40, 41, 42, 43, 44, 45, 46, 47, 48, 49, 50, 51, 52, 53, 54, 55, 56, 57, 58, 59, 60, 61, 62, 63, 64, 65, 66, 67, 68, 69, 70, 71, 72, 73, 74, 75, 76, 77, 78, 79, 80, 81, 82, 83] .nil) 32 (.fork 30 (trO [33, 34, 35, 36, 37, 38, 39, 40, 41, 42, 43, 44, 45, 46, 47, 48, 49, 50, 51, 52, 53, 54, 55, 56, 57, 58, 59, 60, 61, 62, 63, 64, 65, 66, 67, 68, 69, 70, 71, 72, 73, 74, 75, 76, 77, 78, 79, 80, 81, 82, 83] .nil) 33 (.fork 30 (trO [34, 35, 36, 37, 38, 39, 40, 41, 42, 43, 44, 45, 46, 47, 48, 49, 50, 51, 52, 53, 54, 55, 56, 57, 58, 59, 60, 61, 62, 63, 64, 65, 66, 67, 68, 69, 70, 71, 72, 73, 74, 75, 76, 77, 78, 79, 80, 81, 82, 83] .nil) 34 (.fork 30 (trO [35, 36, 37, 38, 39, 40, 41, 42, 43, 44, 45, 46, 47, 48, 49, 50, 51, 52, 53, 54, 55, 56, 57, 58, 59, 60, 61, 62, 63, 64, 65, 66, 67, 68, 69, 70, 71, 72, 73, 74, 75, 76, 77, 78, 79, 80, 81, 82, 83] .nil) 35 (trO [30, 36, 37, 38, 39, 40, 41, 42, 43, 44, 45, 46, 47, 48, 49, 50, 51, 52, 53, 54, 55, 56, 57, 58, 59, 60, 61, 62, 63, 64, 65, 66, 67, 68, 69, 70, 71, 72, 73, 74, 75, 76, 77, 78, 79, 80, 81, 82, 83] .nil)))))) 30 (trO [29, 31, 32, 33, 34, 35, 36, 37, 38, 39, 40, 41, 42, 43, 44, 45, 46, 47, 48, 49, 50, 51, 52, 53, 54, 55, 56, 57, 58, 59, 60, 61, 62, 63, 64, 65, 66, 67, 68, 69, 70, 71, 72, 73, 74, 75, 76, 77, 78, 79, 80, 81, 82, 83] .nil)) 30 (trO [28, 29, 31, 32, 33, 34, 35, 36, 37, 38, 39, 40, 41, 42, 43, 44, 45, 46, 47, 48, 49, 50, 51, 52, 53, 54, 55, 56, 57, 58, 59, 60, 61, 62, 63, 64, 65, 66, 67, 68, 69, 70, 71, 72, 73, 74, 75, 76, 77, 78, 79, 80, 81, 82, 83] .nil))) (trO [36, 37, 38, 39, 40, 41, 42, 43, 44, 45, 46, 47, 48, 49, 50, 51, 52, 53, 54, 55, 56, 57, 58, 59, 60, 61, 62, 63, 64, 65, 66, 67, 68, 69, 70, 71, 72, 73, 74, 75, 76, 77, 78, 79, 80, 81, 82, 83] .nil) (fun fr σ => getO [1, 2, 46, 48, 49, 54] fr = some [.ptr 0 0 0, .d (.lst 2 ([⟨4, [0]⟩, ⟨5, [1, 0]⟩].map bindD)), .d (.v (.bool true)), .d (.agg (brD ((tArm 1).at 5 2 0 ⟨#[]⟩))), .d (intsD [1]), .d (.lst 9 (brR [(tArm 0).at 5 2 0 ⟨#[]⟩, tNone.at 5 3 0 ⟨#[]⟩]))] ∧ σ = [.row 33 ((treeD tOnes).map .d)]) [0, 1, 3, 4, 5, 6, 9, 10, 12, 13, 14, 15, 17, 18, 19, 20, 21, 22, 23, 24, 25, 28, 29, 30, 31, 32, 33, 34, 35, 36, 37, 38, 39, 40, 41, 42, 43, 44, 45, 46, 65, 66, 80, 81] [0, 0, 19342813113834066795298812, 0, 0, 0, 0, 19342813113834066795298688, 19342813113834066795298560, 0, 0, 19342813113834066795298304, 0, 0, 0, 0, 19342813113834066795296256, 0, 0, 0, 0, 0, 0, 0, 0, 0, 19342813113834066728189952, 19342813113834066661081088, 0, 0, 0, 0, 0, 0, 0, 0, 0, 0, 0, 0, 0, 0, 0, 0, 0, 0, 0, 19342813113693329306943488, 19342813113552591818588160, 19342813113271116841877504, 19342813112708166888456192, 19342813111582266981613568, 19342813109330467167928320, 19342813104826867540557824, 19342813095819668285816832, 19342813077805269776334848, 19342813041776472757370880, 19342812969718878719442944, 19342812825603690643587072, 19342812537373314491875328, 19342811960912562188451840, 19342810807991057581604864, 19342808502148048367910912, 19342803890462029940523008, 19342794667089993085747200, 0, 0, 19342665539881477118885888, 19342517965928887442472960, 19342222818023708089647104, 19341632522213349383995392, 19340451930592631972691968, 19338090747351197150085120, 19333368380868327504871424, 19323923647902588214444032, 19305034181971109633589248, 19267255250108152471879680, 19191697386382238148460544, 19040581658930409501622272, 18738350204026752207945728, 0, 0, 14507109835375550096474112, 9671406556917033397649408] mixed_ok (by kernel_rfl) ?_ ?_
  · rintro fr σ ⟨hv, rfl⟩
    refine al_keep [1, 2, 46, 48, 49, 54] hv rfl ?_
    clear hv
    repeat' (first
        | refine s_op rfl ?_ | (apply s_skipV; (iterate 2 (exact rfl))) | (apply s_skipU; (iterate 3 (exact rfl))) | (apply s_move; (iterate 4 (exact rfl))) | (apply s_fa_p tab_ok; (iterate 5 (exact rfl)))
        | (apply s_fa_f tab_ok; (iterate 6 (exact rfl))) | (apply s_ld_p tab_ok; (iterate 7 (exact rfl))) | (apply s_ld_f tab_ok; (iterate 6 (exact rfl))) | (apply s_ld_w tab_ok; (iterate 5 (exact rfl)); (first | exact askD_len _ | exact patD_len _ | exact valD_len _ | exact rowTD_len _ | exact brD_len _ | exact treeD_len _ | exact factD_len _ | exact bindD_len _)) | (apply s_assign; (iterate 4 (exact rfl)))
        | (apply s_pick_t; (iterate 5 (exact rfl))) | (apply s_pick_f; (iterate 5 (exact rfl))) | (apply s_len tab_ok; (iterate 5 (exact rfl))) | (apply s_lens str_ok; (iterate 4 (exact rfl))) | (apply s_idx tab_ok; (iterate 7 (exact rfl)); (first | exact patR_get (by assumption) | exact valR_get (by assumption) | exact row_map (by assumption) | exact brR_get (by assumption) | exact treeR_get (by assumption) | exact facts_get (by assumption) | assumption))
        | (apply s_build tabZ_ok; (iterate 5 (exact rfl))) | (apply s_alloc tabZ_ok; (iterate 7 (exact rfl))) | (apply s_store tab_ok; (iterate 10 (exact rfl))) | (apply s_lit tab_ok tabZ_ok; (iterate 10 (exact rfl))) | (apply s_lit1 tab_ok tabZ_ok; (iterate 9 (exact rfl)); (first | exact askD_len _ | exact patD_len _ | exact valD_len _ | exact rowTD_len _ | exact brD_len _ | exact treeD_len _ | exact factD_len _ | exact bindD_len _))
        | (apply s_eql_t; (iterate 5 (exact rfl)); omega) | (apply s_eql_f; (iterate 5 (exact rfl)); omega)
        | (apply s_idx tab_ok (row := [.v (.int .i64 4), intsD [0]]); (iterate 7 (exact rfl)); exact rfl)
        | (apply s_idx tab_ok (row := [.v (.int .i64 5), intsD [1, 0]]); (iterate 7 (exact rfl)); exact rfl)
        | (apply s_call; (iterate 6 (exact rfl)); first | (exact nn; rintro _ rfl) | (exact a0; rintro _ rfl) | (exact a1; rintro _ rfl) | (exact n0; rintro _ rfl) | (exact n1; rintro _ rfl) | (exact n2; rintro _ rfl) | (exact n3; rintro _ rfl) | (exact aa; rintro _ rfl) | (exact s1; rintro _ rfl) | (exact s2; rintro _ rfl) | (exact t1; rintro _ rfl) | (exact t2; rintro _ rfl) | (exact t3; rintro _ rfl) | (exact t4; rintro _ rfl) | (exact t5; rintro _ rfl) | (exact lk3; rintro _ rfl) | (exact lkI; rintro _ rfl) | (exact lk4; rintro _ rfl) | (exact c2; rintro _ rfl) | (exact c31; rintro _ rfl) | (exact c3n; rintro _ rfl) | (exact c3a; rintro _ rfl) | (exact b1; rintro _ rfl) | (exact b2; rintro _ rfl) | (exact b3; rintro _ rfl) | (exact b4; rintro _ rfl))
        | refine al_nil ?_ | refine q_then_n ?_ | refine q_then_r ?_ | refine aw_seq ?_ | refine aw_reg ?_
        | refine aw_ret ?_ | refine al_fork ?_ ?_ | refine al_fork3 ?_ ?_ ?_)
    all_goals exact q_retB (resB_1 rfl (resV_t rfl)) ⟨_, rfl, rfl⟩
  · intro ht
    repeat' (first
        | exact ht _ _ ⟨rfl, rfl⟩
        | refine s_op rfl ?_ | (apply s_skipV; (iterate 2 (exact rfl))) | (apply s_skipU; (iterate 3 (exact rfl))) | (apply s_move; (iterate 4 (exact rfl))) | (apply s_fa_p tab_ok; (iterate 5 (exact rfl)))
        | (apply s_fa_f tab_ok; (iterate 6 (exact rfl))) | (apply s_ld_p tab_ok; (iterate 7 (exact rfl))) | (apply s_ld_f tab_ok; (iterate 6 (exact rfl))) | (apply s_ld_w tab_ok; (iterate 5 (exact rfl)); (first | exact askD_len _ | exact patD_len _ | exact valD_len _ | exact rowTD_len _ | exact brD_len _ | exact treeD_len _ | exact factD_len _ | exact bindD_len _)) | (apply s_assign; (iterate 4 (exact rfl)))
        | (apply s_pick_t; (iterate 5 (exact rfl))) | (apply s_pick_f; (iterate 5 (exact rfl))) | (apply s_len tab_ok; (iterate 5 (exact rfl))) | (apply s_lens str_ok; (iterate 4 (exact rfl))) | (apply s_idx tab_ok; (iterate 7 (exact rfl)); (first | exact patR_get (by assumption) | exact valR_get (by assumption) | exact row_map (by assumption) | exact brR_get (by assumption) | exact treeR_get (by assumption) | exact facts_get (by assumption) | assumption))
        | (apply s_build tabZ_ok; (iterate 5 (exact rfl))) | (apply s_alloc tabZ_ok; (iterate 7 (exact rfl))) | (apply s_store tab_ok; (iterate 10 (exact rfl))) | (apply s_lit tab_ok tabZ_ok; (iterate 10 (exact rfl))) | (apply s_lit1 tab_ok tabZ_ok; (iterate 9 (exact rfl)); (first | exact askD_len _ | exact patD_len _ | exact valD_len _ | exact rowTD_len _ | exact brD_len _ | exact treeD_len _ | exact factD_len _ | exact bindD_len _))
        | (apply s_eql_t; (iterate 5 (exact rfl)); omega) | (apply s_eql_f; (iterate 5 (exact rfl)); omega)
        | (apply s_idx tab_ok (row := [.v (.int .i64 4), intsD [0]]); (iterate 7 (exact rfl)); exact rfl)
        | (apply s_idx tab_ok (row := [.v (.int .i64 5), intsD [1, 0]]); (iterate 7 (exact rfl)); exact rfl)
        | (apply s_call; (iterate 6 (exact rfl)); first | (exact nn; rintro _ rfl) | (exact a0; rintro _ rfl) | (exact a1; rintro _ rfl) | (exact n0; rintro _ rfl) | (exact n1; rintro _ rfl) | (exact n2; rintro _ rfl) | (exact n3; rintro _ rfl) | (exact aa; rintro _ rfl) | (exact s1; rintro _ rfl) | (exact s2; rintro _ rfl) | (exact t1; rintro _ rfl) | (exact t2; rintro _ rfl) | (exact t3; rintro _ rfl) | (exact t4; rintro _ rfl) | (exact t5; rintro _ rfl) | (exact lk3; rintro _ rfl) | (exact lkI; rintro _ rfl) | (exact lk4; rintro _ rfl) | (exact c2; rintro _ rfl) | (exact c31; rintro _ rfl) | (exact c3n; rintro _ rfl) | (exact c3a; rintro _ rfl) | (exact b1; rintro _ rfl) | (exact b2; rintro _ rfl) | (exact b3; rintro _ rfl) | (exact b4; rintro _ rfl))
        | refine al_nil ?_ | refine q_then_n ?_ | refine q_then_r ?_ | refine aw_seq ?_ | refine aw_reg ?_
        | refine aw_ret ?_ | refine al_fork ?_ ?_ | refine al_fork3 ?_ ?_ ?_)
end Go.Proofs.Ytjflembhgjcgkaa
