/- C40, C41: in one. -/
import Derived.Test.YtjflembhgjcgkaaTP11C39x3
import Derived.Test.YtjflembhgjcgkaaTP11C58x2
import Derived.Test.YtjflembhgjcgkaaTP11XLdLzx2
set_option linter.unusedSimpArgs false
set_option linter.unusedVariables false
/- C40: One, There, of the document's trees. -/
namespace Go.Proofs.Ytjflembhgjcgkaa
open Go.RowKit

mutual
def TreeT.small : TreeT → Prop
  | .mk _ _ _ _ _ _ p c e => p.length ≤ 9223372036854775807 ∧ c.length ≤ 9223372036854775807 ∧ e.length ≤ 9223372036854775807 ∧ TreeT.smallL c ∧ TreeT.smallL e
def TreeT.smallL : List TreeT → Prop
  | [] => True
  | t :: l => t.small ∧ TreeT.smallL l
end
theorem TreeT.smallL_mem : ∀ {l : List TreeT}, TreeT.smallL l → ∀ t ∈ l, t.small
  | [], _, t, h => by cases h
  | a :: l, ⟨h1, h2⟩, t, h => by
    rcases List.mem_cons.1 h with rfl | h
    · exact h1
    · exact TreeT.smallL_mem h2 t h
theorem TreeT.smallL_of : ∀ {l : List TreeT}, (∀ t ∈ l, t.small) → TreeT.smallL l
  | [], _ => trivial
  | a :: l, h => ⟨h a (by simp), TreeT.smallL_of fun t ht => h t (by simp [ht])⟩
theorem oneC_drop {l m : List TreeT} {k : Nat} {a b : TreeT} (h1 : l[k]? = some a) (h2 : m[k]? = some b) : oneC (l.drop k) (m.drop k) = (decide (a.bk = b.bk ∧ a.bn = b.bn ∧ a.bi = b.bi ∧ a.bs = b.bs) && oneB a b && oneC (l.drop (k + 1)) (m.drop (k + 1))) := by
  rw [drop_get h1, drop_get h2, oneC]
theorem oneC_no {l m : List TreeT} {k : Nat} {a b : TreeT} (h1 : l[k]? = some a) (h2 : m[k]? = some b) (h : ¬ (a.bk = b.bk ∧ a.bn = b.bn ∧ a.bi = b.bi ∧ a.bs = b.bs)) : oneC (l.drop k) (m.drop k) = false := by
  rw [oneC_drop h1 h2, decide_eq_false h]; rfl
theorem oneC_yes {l m : List TreeT} {k : Nat} {a b : TreeT} (h1 : l[k]? = some a) (h2 : m[k]? = some b) (h : a.bk = b.bk ∧ a.bn = b.bn ∧ a.bi = b.bi ∧ a.bs = b.bs) : oneC (l.drop k) (m.drop k) = (oneB a b && oneC (l.drop (k + 1)) (m.drop (k + 1))) := by
  rw [oneC_drop h1 h2, decide_eq_true h]; rfl
theorem oneL_drop {l m : List TreeT} {k : Nat} {a b : TreeT} (h1 : l[k]? = some a) (h2 : m[k]? = some b) : oneL (l.drop k) (m.drop k) = (oneB a b && oneL (l.drop (k + 1)) (m.drop (k + 1))) := by
  rw [drop_get h1, drop_get h2, oneL]

section
variable {bk bn bi bk' bn' bi' k n k' n' : Int} {bs bs' : ByteArray} {p p' : List Int} {c e c' e' : List TreeT}
set_option maxRecDepth 100000 in
set_option maxHeartbeats 4000000 in
theorem one_not (hp : p.length ≤ 9223372036854775807) (hp' : p'.length ≤ 9223372036854775807) (h : ¬ (k = k' ∧ n = n' ∧ p = p' ∧ c.length = c'.length ∧ e.length = e'.length)) :
    RunsP Try.prog 16 [.agg (treeD (.mk bk bn bi bs k n p c e)), .agg (treeD (.mk bk' bn' bi' bs' k' n' p' c' e'))] (fun v => v = .v (.bool false)) := by
  have e1 := brR_len c
  have e2 := brR_len c'
  have e3 := treeR_len e
  have e4 := treeR_len e'
  have hs := same20_c p p' hp hp'
  refine enterP 117 Try.func16 rfl (by kernel_rfl) rfl rfl rfl ?_
  by_cases h1 : k = k'
  · by_cases h2 : n = n'
    · by_cases h3 : p = p'
      · rw [decide_eq_true h3] at hs
        by_cases h4 : c.length = c'.length
        · have h5 : e.length ≠ e'.length := fun h5 => h ⟨h1, h2, h3, h4, h5⟩
          repeat' (first | refine s_op rfl ?_ | (apply s_move; (iterate 4 (exact rfl))) | (apply s_fa_f tab_ok; (iterate 6 (exact rfl))) | (apply s_ld_f tab_ok; (iterate 6 (exact rfl))) | (apply s_assign; (iterate 4 (exact rfl))) | (apply s_pick_f; (iterate 5 (exact rfl))) | (apply s_len tab_ok; (iterate 5 (exact rfl))) | (apply s_boxZ; (iterate 5 (exact rfl)); first | exact rfl | exact allD_mapd _) | (apply s_not_t; (iterate 4 (exact rfl))) | (apply s_neq_t; (iterate 5 (exact rfl)); omega) | (apply s_neq_f; (iterate 5 (exact rfl)); omega) | (apply s_call; (iterate 6 (exact rfl)); first | (exact hs; rintro _ rfl)) | refine al_nil ?_ | refine q_then_n ?_ | refine q_then_r ?_ | refine aw_seq ?_ | refine aw_reg ?_ | refine aw_true rfl ?_ | refine aw_ret ?_)
          all_goals exact q_ret rfl ⟨_, rfl, rfl⟩
        · repeat' (first | refine s_op rfl ?_ | (apply s_skipV; (iterate 2 (exact rfl))) | (apply s_move; (iterate 4 (exact rfl))) | (apply s_fa_f tab_ok; (iterate 6 (exact rfl))) | (apply s_ld_f tab_ok; (iterate 6 (exact rfl))) | (apply s_assign; (iterate 4 (exact rfl))) | (apply s_pick_t; (iterate 5 (exact rfl))) | (apply s_pick_f; (iterate 5 (exact rfl))) | (apply s_len tab_ok; (iterate 5 (exact rfl))) | (apply s_boxZ; (iterate 5 (exact rfl)); first | exact rfl | exact allD_mapd _) | (apply s_not_t; (iterate 4 (exact rfl))) | (apply s_neq_t; (iterate 5 (exact rfl)); omega) | (apply s_neq_f; (iterate 5 (exact rfl)); omega) | (apply s_call; (iterate 6 (exact rfl)); first | (exact hs; rintro _ rfl)) | refine al_nil ?_ | refine q_then_n ?_ | refine q_then_r ?_ | refine aw_seq ?_ | refine aw_reg ?_ | refine aw_true rfl ?_ | refine aw_ret ?_)
          all_goals exact q_ret rfl ⟨_, rfl, rfl⟩
      · rw [decide_eq_false h3] at hs
        repeat' (first | refine s_op rfl ?_ | (apply s_skipV; (iterate 2 (exact rfl))) | (apply s_move; (iterate 4 (exact rfl))) | (apply s_fa_f tab_ok; (iterate 6 (exact rfl))) | (apply s_ld_f tab_ok; (iterate 6 (exact rfl))) | (apply s_assign; (iterate 4 (exact rfl))) | (apply s_pick_t; (iterate 5 (exact rfl))) | (apply s_pick_f; (iterate 5 (exact rfl))) | (apply s_boxZ; (iterate 5 (exact rfl)); first | exact rfl | exact allD_mapd _) | (apply s_not_f; (iterate 4 (exact rfl))) | (apply s_neq_f; (iterate 5 (exact rfl)); omega) | (apply s_call; (iterate 6 (exact rfl)); first | (exact hs; rintro _ rfl)) | refine al_nil ?_ | refine q_then_n ?_ | refine q_then_r ?_ | refine aw_seq ?_ | refine aw_reg ?_ | refine aw_true rfl ?_ | refine aw_ret ?_)
        all_goals exact q_ret rfl ⟨_, rfl, rfl⟩
    · repeat' (first | refine s_op rfl ?_ | (apply s_skipV; (iterate 2 (exact rfl))) | (apply s_move; (iterate 4 (exact rfl))) | (apply s_fa_f tab_ok; (iterate 6 (exact rfl))) | (apply s_ld_f tab_ok; (iterate 6 (exact rfl))) | (apply s_assign; (iterate 4 (exact rfl))) | (apply s_pick_t; (iterate 5 (exact rfl))) | (apply s_pick_f; (iterate 5 (exact rfl))) | (apply s_boxZ; (iterate 5 (exact rfl)); first | exact rfl | exact allD_mapd _) | (apply s_neq_t; (iterate 5 (exact rfl)); omega) | (apply s_neq_f; (iterate 5 (exact rfl)); omega) | refine al_nil ?_ | refine q_then_n ?_ | refine q_then_r ?_ | refine aw_seq ?_ | refine aw_reg ?_ | refine aw_true rfl ?_ | refine aw_ret ?_)
      all_goals exact q_ret rfl ⟨_, rfl, rfl⟩
  · repeat' (first | refine s_op rfl ?_ | (apply s_skipV; (iterate 2 (exact rfl))) | (apply s_move; (iterate 4 (exact rfl))) | (apply s_fa_f tab_ok; (iterate 6 (exact rfl))) | (apply s_ld_f tab_ok; (iterate 6 (exact rfl))) | (apply s_assign; (iterate 4 (exact rfl))) | (apply s_pick_t; (iterate 5 (exact rfl))) | (apply s_boxZ; (iterate 5 (exact rfl)); first | exact rfl | exact allD_mapd _) | (apply s_neq_t; (iterate 5 (exact rfl)); omega) | refine al_nil ?_ | refine q_then_n ?_ | refine q_then_r ?_ | refine aw_seq ?_ | refine aw_reg ?_ | refine aw_true rfl ?_ | refine aw_ret ?_)
    all_goals exact q_ret rfl ⟨_, rfl, rfl⟩
set_option maxRecDepth 100000 in
set_option maxHeartbeats 8000000 in
theorem one_same (hp : p.length ≤ 9223372036854775807) (hc : c.length ≤ 9223372036854775807) (he : e.length ≤ 9223372036854775807) (h1 : c.length = c'.length) (h2 : e.length = e'.length)
    (ihc : ∀ t ∈ c, ∀ u ∈ c', RunsP Try.prog 16 [.agg (treeD t), .agg (treeD u)] (fun v => v = .v (.bool (oneB t u)))) (ihe : ∀ t ∈ e, ∀ u ∈ e', RunsP Try.prog 16 [.agg (treeD t), .agg (treeD u)] (fun v => v = .v (.bool (oneB t u)))) :
    RunsP Try.prog 16 [.agg (treeD (.mk bk bn bi bs k n p c e)), .agg (treeD (.mk bk' bn' bi' bs' k n p c' e'))] (fun v => v = .v (.bool (oneC c c' && oneL e e'))) := by
  have e1 := brR_len c
  have e2 := brR_len c'
  have e3 := treeR_len e
  have e4 := treeR_len e'
  have hs := same20_c p p hp hp
  rw [decide_eq_true rfl] at hs
  refine enterP 117 Try.func16 rfl (by kernel_rfl) rfl rfl rfl ?_
  repeat' (first | refine s_op rfl ?_ | (apply s_move; (iterate 4 (exact rfl))) | (apply s_fa_f tab_ok; (iterate 6 (exact rfl))) | (apply s_ld_f tab_ok; (iterate 6 (exact rfl))) | (apply s_assign; (iterate 4 (exact rfl))) | (apply s_pick_f; (iterate 5 (exact rfl))) | (apply s_len tab_ok; (iterate 5 (exact rfl))) | (apply s_boxZ; (iterate 5 (exact rfl)); first | exact rfl | exact allD_mapd _) | (apply s_not_t; (iterate 4 (exact rfl))) | (apply s_neq_f; (iterate 5 (exact rfl)); omega) | (apply s_call; (iterate 6 (exact rfl)); first | (exact hs; rintro _ rfl)) | refine al_nil ?_ | refine q_then_n ?_ | refine aw_block ?_ | refine aw_seq ?_ | refine aw_reg ?_ | refine aw_false rfl ?_ | refine aw_skip ?_)
  refine w_loop [2, 3, 5] (fun n0 vs σ => ∃ j : Nat, vs = [.d (.fptr (treeD (.mk bk bn bi bs k n p c e))), .d (.fptr (treeD (.mk bk' bn' bi' bs' k n p c' e'))), .d (.v (.int .i64 (j : Int)))] ∧ j ≤ c.length ∧ n0 = c.length - j ∧ oneC c c' = oneC (c.drop j) (c'.drop j)) rfl ⟨0, rfl, by omega, rfl, rfl⟩ ?_
  rintro n0 vs σ ⟨j, rfl, hj, rfl, hq⟩ fr hfr
  cases hfr
  by_cases hlt : j < c.length
  · obtain ⟨x, hx⟩ := getS hlt
    obtain ⟨y, hy⟩ : ∃ y, c'[j]? = some y := getS (by omega)
    have hr := ihc x (List.mem_of_getElem? hx) y (List.mem_of_getElem? hy)
    obtain ⟨xk, xn, xi, xs, tk, tn, tp, tc, te⟩ := x
    obtain ⟨yk, yn, yi, ys, uk, un, up, uc, ue⟩ := y
    repeat' (first | refine s_op rfl ?_ | (apply s_move; (iterate 4 (exact rfl))) | (apply s_fa_f tab_ok; (iterate 6 (exact rfl))) | (apply s_ld_f tab_ok; (iterate 6 (exact rfl))) | (apply s_len tab_ok; (iterate 5 (exact rfl))) | (apply s_idx tab_ok; (iterate 7 (exact rfl)); (first | exact patR_get (by assumption) | exact valR_get (by assumption) | exact row_map (by assumption) | exact brR_get (by assumption) | exact treeR_get (by assumption) | exact facts_get (by assumption) | assumption)) | (apply s_lss_t; (iterate 5 (exact rfl)); omega) | (refine w_mid (c := .region 6 _ _) (fun fr σ => ∃ lx ly, getO [2, 3, 5, 6, 7] fr = some [.d (.fptr (treeD (.mk bk bn bi bs k n p c e))), .d (.fptr (treeD (.mk bk' bn' bi' bs' k n p c' e'))), .d (.v (.int .i64 (j : Int))), .ptr lx 0 0, .ptr ly 0 0] ∧ σ[lx]? = some (.row 81 ((brD (.mk xk xn xi xs tk tn tp tc te)).map .d)) ∧ σ[ly]? = some (.row 81 ((brD (.mk yk yn yi ys uk un up uc ue)).map .d))) ?_ ?_) | (apply s_allocF tabZ_ok (d := 6); (iterate 6 (exact rfl)); first | (intro locX σ hc; have hX := hc.at'; have nYX := hc.ne hY; replace hY := hc.keep hY; clear hc) | (intro locX σ hc; have hX := hc.at'; clear hc)) | (apply s_allocF tabZ_ok (d := 7); (iterate 6 (exact rfl)); first | (intro locY σ hc; have hY := hc.at'; have nXY := hc.ne hX; replace hX := hc.keep hX; clear hc) | (intro locY σ hc; have hY := hc.at'; clear hc)) | (apply s_storeF tab_ok; (iterate 7 (exact rfl)); exact hX; (iterate 2 (exact rfl)); first | (intro σ hc; replace hX := hc.at'; replace hY := hc.keep (by first | assumption | (apply Ne.symm; assumption) | omega) hY; clear hc) | (intro σ hc; replace hX := hc.at'; clear hc)) | (apply s_storeF tab_ok; (iterate 7 (exact rfl)); exact hY; (iterate 2 (exact rfl)); first | (intro σ hc; replace hY := hc.at'; replace hX := hc.keep (by first | assumption | (apply Ne.symm; assumption) | omega) hX; clear hc) | (intro σ hc; replace hY := hc.at'; clear hc)) | refine al_nil ?_ | refine q_then_n ?_ | refine aw_block ?_ | refine aw_seq ?_ | refine aw_reg ?_ | refine aw_true rfl ?_ | refine aw_skip ?_ | refine al_fork ?_ ?_ | refine al_fork3 ?_ ?_ ?_ | refine aw_draws (id := 6) (trO [0, 1, 2, 3, 4, 5, 7] (.fork3 6 (trO [8] (.fork3 9 (.fork 10 (trO [11, 12, 13] .nil) 11 (trO [10, 12, 13] .nil)) 10 (.fork 9 (trO [11, 12, 13] .nil) 11 (.fork 9 (trO [12, 13] .nil) 12 (trO [9, 13] .nil))) 11 (.fork 9 (trO [10, 12, 13] .nil) 10 (.fork 9 (trO [12, 13] .nil) 12 (trO [9, 13] .nil))))) 10 (.fork 6 (trO [8] (.fork 9 (trO [11, 12, 13] .nil) 11 (.fork 9 (trO [12, 13] .nil) 12 (trO [9, 13] .nil)))) 11 (.fork 6 (trO [8] (.fork 9 (trO [12, 13] .nil) 12 (trO [9, 13] .nil))) 12 (trO [6, 8, 9, 13] .nil))) 11 (.fork 6 (trO [8] (.fork 9 (trO [10, 12, 13] .nil) 10 (.fork 9 (trO [12, 13] .nil) 12 (trO [9, 13] .nil)))) 10 (.fork 6 (trO [8] (.fork 9 (trO [12, 13] .nil) 12 (trO [9, 13] .nil))) 12 (trO [6, 8, 9, 13] .nil))))) [6, 9, 10, 11, 12, 13] [12, 13] mixed_ok (by kernel_rfl) ?_)
    all_goals first | exact ⟨rfl, _, _, rfl, hX, hY⟩ | skip
    rintro fr σ ⟨lx, ly, hv, hX, hY⟩
    refine w_keep [2, 3, 5, 6, 7] hv rfl ?_
    clear hv
    by_cases g1 : xk = yk
    · by_cases g2 : xn = yn
      · by_cases g3 : xi = yi
        · by_cases g4 : xs = ys
          · rw [oneC_yes hx hy ⟨g1, g2, g3, g4⟩] at hq
            cases hb : oneB (.mk xk xn xi xs tk tn tp tc te) (.mk yk yn yi ys uk un up uc ue) <;> rw [hb] at hr hq
            · repeat' (first | refine s_op rfl ?_ | (apply s_move; (iterate 4 (exact rfl))) | (apply s_fa_p tab_ok; (iterate 5 (exact rfl))) | (apply s_assign; (iterate 4 (exact rfl))) | (apply s_pick_f; (iterate 5 (exact rfl))) | (apply s_not_f; (iterate 4 (exact rfl))) | (apply s_neq_f; (iterate 5 (exact rfl)); omega) | (apply s_strne_f; (iterate 5 (exact rfl)); assumption) | (apply s_ldF tab_ok; (iterate 5 (exact rfl)); (first | exact hX | exact hY); exact rfl) | (apply s_call; (iterate 6 (exact rfl)); first | (exact hr; rintro _ rfl)) | refine al_nil ?_ | refine q_then_n ?_ | refine q_blk_r ?_ | refine q_then_r ?_ | refine aw_seq ?_ | refine aw_reg ?_ | refine aw_true rfl ?_ | refine aw_ret ?_)
              all_goals exact q_ret rfl ⟨_, rfl, by simp [hq]⟩
            · repeat' (first | refine s_op rfl ?_ | (apply s_move; (iterate 4 (exact rfl))) | (apply s_fa_p tab_ok; (iterate 5 (exact rfl))) | (apply s_assign; (iterate 4 (exact rfl))) | (apply s_pick_f; (iterate 5 (exact rfl))) | (apply s_not_t; (iterate 4 (exact rfl))) | (apply s_neq_f; (iterate 5 (exact rfl)); omega) | (apply s_add64; (iterate 5 (exact rfl)); omega) | (apply s_strne_f; (iterate 5 (exact rfl)); assumption) | (apply s_ldF tab_ok; (iterate 5 (exact rfl)); (first | exact hX | exact hY); exact rfl) | (apply s_call; (iterate 6 (exact rfl)); first | (exact hr; rintro _ rfl)) | refine al_nil ?_ | refine q_then_n ?_ | refine q_blk_n ?_ | refine aw_seq ?_ | refine aw_reg ?_ | refine aw_false rfl ?_ | refine aw_skip ?_)
              all_goals exact ⟨_, _, rfl, by omega, j + 1, rfl, by omega, rfl, by simpa using hq⟩
          · rw [oneC_no hx hy (fun h => g4 h.2.2.2)] at hq
            repeat' (first | refine s_op rfl ?_ | (apply s_skipV; (iterate 2 (exact rfl))) | (apply s_move; (iterate 4 (exact rfl))) | (apply s_fa_p tab_ok; (iterate 5 (exact rfl))) | (apply s_assign; (iterate 4 (exact rfl))) | (apply s_pick_t; (iterate 5 (exact rfl))) | (apply s_pick_f; (iterate 5 (exact rfl))) | (apply s_neq_f; (iterate 5 (exact rfl)); omega) | (apply s_strne_t; (iterate 5 (exact rfl)); assumption) | (apply s_ldF tab_ok; (iterate 5 (exact rfl)); (first | exact hX | exact hY); exact rfl) | refine al_nil ?_ | refine q_then_n ?_ | refine q_blk_r ?_ | refine q_then_r ?_ | refine aw_seq ?_ | refine aw_reg ?_ | refine aw_true rfl ?_ | refine aw_ret ?_)
            all_goals exact q_ret rfl ⟨_, rfl, by simp [hq]⟩
        · rw [oneC_no hx hy (fun h => g3 h.2.2.1)] at hq
          repeat' (first | refine s_op rfl ?_ | (apply s_skipV; (iterate 2 (exact rfl))) | (apply s_move; (iterate 4 (exact rfl))) | (apply s_fa_p tab_ok; (iterate 5 (exact rfl))) | (apply s_assign; (iterate 4 (exact rfl))) | (apply s_pick_t; (iterate 5 (exact rfl))) | (apply s_pick_f; (iterate 5 (exact rfl))) | (apply s_neq_t; (iterate 5 (exact rfl)); omega) | (apply s_neq_f; (iterate 5 (exact rfl)); omega) | (apply s_ldF tab_ok; (iterate 5 (exact rfl)); (first | exact hX | exact hY); exact rfl) | refine al_nil ?_ | refine q_then_n ?_ | refine q_blk_r ?_ | refine q_then_r ?_ | refine aw_seq ?_ | refine aw_reg ?_ | refine aw_true rfl ?_ | refine aw_ret ?_)
          all_goals exact q_ret rfl ⟨_, rfl, by simp [hq]⟩
      · rw [oneC_no hx hy (fun h => g2 h.2.1)] at hq
        repeat' (first | refine s_op rfl ?_ | (apply s_skipV; (iterate 2 (exact rfl))) | (apply s_move; (iterate 4 (exact rfl))) | (apply s_fa_p tab_ok; (iterate 5 (exact rfl))) | (apply s_assign; (iterate 4 (exact rfl))) | (apply s_pick_t; (iterate 5 (exact rfl))) | (apply s_pick_f; (iterate 5 (exact rfl))) | (apply s_neq_t; (iterate 5 (exact rfl)); omega) | (apply s_neq_f; (iterate 5 (exact rfl)); omega) | (apply s_ldF tab_ok; (iterate 5 (exact rfl)); (first | exact hX | exact hY); exact rfl) | refine al_nil ?_ | refine q_then_n ?_ | refine q_blk_r ?_ | refine q_then_r ?_ | refine aw_seq ?_ | refine aw_reg ?_ | refine aw_true rfl ?_ | refine aw_ret ?_)
        all_goals exact q_ret rfl ⟨_, rfl, by simp [hq]⟩
    · rw [oneC_no hx hy (fun h => g1 h.1)] at hq
      repeat' (first | refine s_op rfl ?_ | (apply s_skipV; (iterate 2 (exact rfl))) | (apply s_move; (iterate 4 (exact rfl))) | (apply s_fa_p tab_ok; (iterate 5 (exact rfl))) | (apply s_assign; (iterate 4 (exact rfl))) | (apply s_pick_t; (iterate 5 (exact rfl))) | (apply s_neq_t; (iterate 5 (exact rfl)); omega) | (apply s_ldF tab_ok; (iterate 5 (exact rfl)); (first | exact hX | exact hY); exact rfl) | refine al_nil ?_ | refine q_then_n ?_ | refine q_blk_r ?_ | refine q_then_r ?_ | refine aw_seq ?_ | refine aw_reg ?_ | refine aw_true rfl ?_ | refine aw_ret ?_)
      all_goals exact q_ret rfl ⟨_, rfl, by simp [hq]⟩
  · have : c.drop j = [] := List.drop_eq_nil_of_le (by omega)
    rw [this] at hq
    have hq : oneC c c' = true := by rw [hq]; cases c'.drop j <;> rfl
    rw [hq, Bool.true_and]
    repeat' (first | refine s_op rfl ?_ | (apply s_move; (iterate 4 (exact rfl))) | (apply s_fa_f tab_ok; (iterate 6 (exact rfl))) | (apply s_ld_f tab_ok; (iterate 6 (exact rfl))) | (apply s_assign; (iterate 4 (exact rfl))) | (apply s_len tab_ok; (iterate 5 (exact rfl))) | (apply s_lss_f; (iterate 5 (exact rfl)); omega) | refine al_nil ?_ | refine q_then_n ?_ | refine q_blk_e ?_ | refine q_then_e ?_ | refine aw_block ?_ | refine aw_exit ?_ | refine aw_seq ?_ | refine aw_reg ?_ | refine aw_false rfl ?_)
    refine w_loop [2, 3, 8] (fun n0 vs σ => ∃ j : Nat, vs = [.d (.fptr (treeD (.mk bk bn bi bs k n p c e))), .d (.fptr (treeD (.mk bk' bn' bi' bs' k n p c' e'))), .d (.v (.int .i64 (j : Int)))] ∧ j ≤ e.length ∧ n0 = e.length - j ∧ oneL e e' = oneL (e.drop j) (e'.drop j)) rfl ⟨0, rfl, by omega, rfl, rfl⟩ ?_
    rintro n0 vs σ ⟨j, rfl, hj, rfl, hq⟩ fr hfr
    cases hfr
    by_cases hlt : j < e.length
    · obtain ⟨x, hx⟩ := getS hlt
      obtain ⟨y, hy⟩ : ∃ y, e'[j]? = some y := getS (by omega)
      have hr := ihe x (List.mem_of_getElem? hx) y (List.mem_of_getElem? hy)
      rw [oneL_drop hx hy] at hq
      cases hb : oneB x y <;> rw [hb] at hr hq
      · repeat' (first | refine s_op rfl ?_ | (apply s_move; (iterate 4 (exact rfl))) | (apply s_fa_f tab_ok; (iterate 6 (exact rfl))) | (apply s_ld_f tab_ok; (iterate 6 (exact rfl))) | (apply s_ld_w tab_ok; (iterate 5 (exact rfl)); (first | exact askD_len _ | exact patD_len _ | exact valD_len _ | exact rowTD_len _ | exact brD_len _ | exact treeD_len _ | exact factD_len _)) | (apply s_assign; (iterate 4 (exact rfl))) | (apply s_len tab_ok; (iterate 5 (exact rfl))) | (apply s_idx tab_ok; (iterate 7 (exact rfl)); (first | exact patR_get (by assumption) | exact valR_get (by assumption) | exact row_map (by assumption) | exact brR_get (by assumption) | exact treeR_get (by assumption) | exact facts_get (by assumption) | assumption)) | (apply s_not_f; (iterate 4 (exact rfl))) | (apply s_lss_t; (iterate 5 (exact rfl)); omega) | (apply s_call; (iterate 6 (exact rfl)); first | (exact hr; rintro _ rfl)) | refine al_nil ?_ | refine q_then_n ?_ | refine q_blk_r ?_ | refine aw_block ?_ | refine q_then_r ?_ | refine aw_seq ?_ | refine aw_reg ?_ | refine aw_true rfl ?_ | refine aw_skip ?_ | refine aw_ret ?_ | refine aw_draws (id := 12) (trO [0, 1, 2, 3, 4, 5, 6, 7, 8, 9, 10, 11] .nil) [10] [] mixed_ok (by kernel_rfl) ?_)
        all_goals exact q_ret rfl ⟨_, rfl, by simp [hq]⟩
      · repeat' (first | refine s_op rfl ?_ | (apply s_move; (iterate 4 (exact rfl))) | (apply s_fa_f tab_ok; (iterate 6 (exact rfl))) | (apply s_ld_f tab_ok; (iterate 6 (exact rfl))) | (apply s_ld_w tab_ok; (iterate 5 (exact rfl)); (first | exact askD_len _ | exact patD_len _ | exact valD_len _ | exact rowTD_len _ | exact brD_len _ | exact treeD_len _ | exact factD_len _)) | (apply s_assign; (iterate 4 (exact rfl))) | (apply s_len tab_ok; (iterate 5 (exact rfl))) | (apply s_idx tab_ok; (iterate 7 (exact rfl)); (first | exact patR_get (by assumption) | exact valR_get (by assumption) | exact row_map (by assumption) | exact brR_get (by assumption) | exact treeR_get (by assumption) | exact facts_get (by assumption) | assumption)) | (apply s_not_t; (iterate 4 (exact rfl))) | (apply s_lss_t; (iterate 5 (exact rfl)); omega) | (apply s_add64; (iterate 5 (exact rfl)); omega) | (apply s_call; (iterate 6 (exact rfl)); first | (exact hr; rintro _ rfl)) | refine al_nil ?_ | refine q_then_n ?_ | refine q_blk_n ?_ | refine aw_block ?_ | refine aw_seq ?_ | refine aw_reg ?_ | refine aw_true rfl ?_ | refine aw_false rfl ?_ | refine aw_skip ?_ | refine aw_draws (id := 12) (trO [0, 1, 2, 3, 4, 5, 6, 7, 8, 9, 10, 11] .nil) [10] [] mixed_ok (by kernel_rfl) ?_)
        all_goals exact ⟨_, _, rfl, by omega, j + 1, rfl, by omega, rfl, by simpa using hq⟩
    · have : e.drop j = [] := List.drop_eq_nil_of_le (by omega)
      rw [this] at hq
      have hq : oneL e e' = true := by rw [hq]; cases e'.drop j <;> rfl
      repeat' (first | refine s_op rfl ?_ | (apply s_move; (iterate 4 (exact rfl))) | (apply s_fa_f tab_ok; (iterate 6 (exact rfl))) | (apply s_ld_f tab_ok; (iterate 6 (exact rfl))) | (apply s_assign; (iterate 4 (exact rfl))) | (apply s_len tab_ok; (iterate 5 (exact rfl))) | (apply s_lss_f; (iterate 5 (exact rfl)); omega) | refine al_nil ?_ | refine q_then_n ?_ | refine q_blk_e ?_ | refine q_then_e ?_ | refine aw_exit ?_ | refine aw_seq ?_ | refine aw_reg ?_ | refine aw_false rfl ?_ | refine aw_ret ?_)
      all_goals exact q_ret rfl ⟨_, rfl, by simp [hq]⟩
end
theorem one_c : ∀ t : TreeT, t.small → ∀ u : TreeT, u.small → RunsP Try.prog 16 [.agg (treeD t), .agg (treeD u)] (fun v => v = .v (.bool (oneB t u))) := by
  refine rec_tree fun bk bn bi bs k n p c e ihc ihe ht u hu => ?_
  obtain ⟨bk', bn', bi', bs', k', n', p', c', e'⟩ := u
  obtain ⟨h1, h2, h3, h4, h5⟩ := ht
  obtain ⟨h1', h2', h3', h4', h5'⟩ := hu
  simp only [oneB]
  by_cases h : k = k' ∧ n = n' ∧ p = p' ∧ c.length = c'.length ∧ e.length = e'.length
  · rw [decide_eq_true h, Bool.true_and]
    obtain ⟨rfl, rfl, rfl, k1, k2⟩ := h
    exact one_same h1 h2 h3 k1 k2 (fun t ht u hu => ihc t ht (TreeT.smallL_mem h4 t ht) u (TreeT.smallL_mem h4' u hu)) fun t ht u hu => ihe t ht (TreeT.smallL_mem h5 t ht) u (TreeT.smallL_mem h5' u hu)
  · rw [decide_eq_false h, Bool.false_and, Bool.false_and]
    exact one_not h1 h1' h
end Go.Proofs.Ytjflembhgjcgkaa

/- C41: the small signature, patterns and trees of the law of chapter 16; builds. -/
namespace Go.Proofs.Ytjflembhgjcgkaa
open Go.RowKit

set_option maxRecDepth 100000 in
theorem small84_c : RunsP Try.prog 84 [] (fun v => v = .agg (sigD smallG)) := by
  refine RunsP.weak ?_
  refine enterPB 18 tab_ok Try.func84 rfl (by kernel_rfl) rfl rfl rfl ?_
  repeat' (first | refine s_op rfl ?_ | (apply s_ld_p tab_ok; (iterate 7 (exact rfl))) | (apply s_build tabZ_ok; (iterate 5 (exact rfl))) | (apply s_alloc tabZ_ok; (iterate 7 (exact rfl))) | (apply s_store tab_ok; (iterate 10 (exact rfl))) | (apply s_lit tab_ok tabZ_ok; (iterate 10 (exact rfl))) | refine al_nil ?_ | refine q_then_n ?_ | refine aw_seq ?_ | refine aw_reg ?_ | refine aw_ret ?_)
  refine q_retB (resB_1 rfl (resV_c (t := 25) rfl rfl rfl rfl)) ⟨_, rfl, ?_⟩
  repeat (first | exact Wk.refl _ | exact Wk.vnil _ | exact Wk.nil _ | apply Wk.agg | apply Wk.lst | apply WkL.cons | exact trivial | exact WkL.nil | (refine ⟨?_, ?_⟩))
set_option maxRecDepth 100000 in
theorem con48_c (n : Int) (l : List Pat) : RunsP Try.prog 48 [.v (.int .i64 n), patsD l] (fun v => v = .agg (patD (.mk 5 n 0 ⟨#[]⟩ 0 0 0 l))) := by
  refine enterPB 8 tab_ok Try.func48 rfl (by kernel_rfl) rfl rfl rfl ?_
  repeat' (first | refine s_op rfl ?_ | (apply s_move; (iterate 4 (exact rfl))) | (apply s_build tabZ_ok; (iterate 5 (exact rfl))) | (apply s_alloc tabZ_ok; (iterate 7 (exact rfl))) | (apply s_store tab_ok; (iterate 10 (exact rfl))) | refine al_nil ?_ | refine q_then_n ?_ | refine aw_seq ?_ | refine aw_reg ?_ | refine aw_ret ?_)
  exact q_retB (resB_1 rfl (resV_c (t := 41) rfl rfl rfl rfl)) ⟨_, rfl, rfl⟩
set_option maxRecDepth 100000 in
theorem name49_c (n : Int) : RunsP Try.prog 49 [.v (.int .i64 n)] (fun v => v = .agg (patD (.mk 1 n 0 ⟨#[]⟩ 0 0 0 []))) := by
  refine RunsP.weak ?_
  refine enterPB 5 tab_ok Try.func49 rfl (by kernel_rfl) rfl rfl rfl ?_
  repeat' (first | refine s_op rfl ?_ | (apply s_move; (iterate 4 (exact rfl))) | (apply s_build tabZ_ok; (iterate 5 (exact rfl))) | (apply s_alloc tabZ_ok; (iterate 7 (exact rfl))) | (apply s_store tab_ok; (iterate 10 (exact rfl))) | refine al_nil ?_ | refine q_then_n ?_ | refine aw_seq ?_ | refine aw_reg ?_ | refine aw_ret ?_)
  exact q_retB (resB_1 rfl (resV_c (t := 41) rfl rfl rfl rfl)) ⟨_, rfl, Wk.agg (wkL_patnil (Wk.nil 8))⟩
set_option maxRecDepth 100000 in
theorem anyone50_c : RunsP Try.prog 50 [] (fun v => v = .agg (patD anyP)) := by
  refine RunsP.weak ?_
  refine enterPB 2 tab_ok Try.func50 rfl (by kernel_rfl) rfl rfl rfl ?_
  repeat' (first | refine s_op rfl ?_ | (apply s_build tabZ_ok; (iterate 5 (exact rfl))) | (apply s_alloc tabZ_ok; (iterate 7 (exact rfl))) | (apply s_store tab_ok; (iterate 10 (exact rfl))) | refine al_nil ?_ | refine q_then_n ?_ | refine aw_seq ?_ | refine aw_reg ?_ | refine aw_ret ?_)
  exact q_retB (resB_1 rfl (resV_c (t := 41) rfl rfl rfl rfl)) ⟨_, rfl, Wk.agg (wkL_patnil (Wk.nil 8))⟩
set_option maxRecDepth 100000 in
theorem arm_c (n : Int) : RunsP Try.prog 47 [.v (.int .i64 n)] (fun v => v = .agg (treeD (bare 2 n [] [] []))) := by
  refine RunsP.weak ?_
  refine enterPB 5 tab_ok Try.func47 rfl (by kernel_rfl) rfl rfl rfl ?_
  repeat' (first | refine s_op rfl ?_ | (apply s_move; (iterate 4 (exact rfl))) | (apply s_build tabZ_ok; (iterate 5 (exact rfl))) | (apply s_alloc tabZ_ok; (iterate 7 (exact rfl))) | (apply s_store tab_ok; (iterate 10 (exact rfl))) | refine al_nil ?_ | refine q_then_n ?_ | refine aw_seq ?_ | refine aw_reg ?_ | refine aw_ret ?_)
  exact q_retB (resB_1 rfl (resV_c (t := 33) rfl rfl rfl rfl)) ⟨_, rfl, wk_bare 2 n⟩
set_option maxRecDepth 100000 in
theorem none52_c : RunsP Try.prog 52 [] (fun v => v = .agg (treeD (bare 1 0 [] [] []))) := by
  refine RunsP.weak ?_
  refine enterPB 2 tab_ok Try.func52 rfl (by kernel_rfl) rfl rfl rfl ?_
  repeat' (first | refine s_op rfl ?_ | (apply s_build tabZ_ok; (iterate 5 (exact rfl))) | (apply s_alloc tabZ_ok; (iterate 7 (exact rfl))) | (apply s_store tab_ok; (iterate 10 (exact rfl))) | refine al_nil ?_ | refine q_then_n ?_ | refine aw_seq ?_ | refine aw_reg ?_ | refine aw_ret ?_)
  exact q_retB (resB_1 rfl (resV_c (t := 33) rfl rfl rfl rfl)) ⟨_, rfl, wk_bare 1 0⟩
set_option maxRecDepth 100000 in
theorem look_c (p : List Int) (c : List TreeT) : RunsP Try.prog 46 [intsD p, .lst 9 (brR c)] (fun v => v = .agg (treeD (bare 3 0 p c []))) := by
  refine RunsP.weak ?_
  refine enterPB 8 tab_ok Try.func46 rfl (by kernel_rfl) rfl rfl rfl ?_
  repeat' (first | refine s_op rfl ?_ | (apply s_move; (iterate 4 (exact rfl))) | (apply s_build tabZ_ok; (iterate 5 (exact rfl))) | (apply s_alloc tabZ_ok; (iterate 7 (exact rfl))) | (apply s_store tab_ok; (iterate 10 (exact rfl))) | refine al_nil ?_ | refine q_then_n ?_ | refine aw_seq ?_ | refine aw_reg ?_ | refine aw_ret ?_)
  exact q_retB (resB_1 rfl (resV_c (t := 33) rfl rfl rfl rfl)) ⟨_, rfl, Wk.agg ⟨Wk.refl _, Wk.refl _, Wk.refl _, Wk.refl _, Wk.nil 5, trivial⟩⟩
set_option maxRecDepth 100000 in
theorem at53_c (n : Int) (t : TreeT) : RunsP Try.prog 53 [.v (.int .i64 n), .agg (treeD t)] (fun v => v = .agg (brD (t.at 5 n 0 ⟨#[]⟩))) := by
  obtain ⟨bk, bn, bi, bs, k, m, p, c, e⟩ := t
  refine enterPB 8 tab_ok Try.func53 rfl (by kernel_rfl) rfl rfl rfl ?_
  repeat' (first | refine s_op rfl ?_ | (apply s_move; (iterate 4 (exact rfl))) | (apply s_ld_f tab_ok; (iterate 6 (exact rfl))) | (apply s_build tabZ_ok; (iterate 5 (exact rfl))) | (apply s_alloc tabZ_ok; (iterate 7 (exact rfl))) | (apply s_boxZ; (iterate 5 (exact rfl)); first | exact rfl | exact allD_mapd _) | (apply s_store tab_ok; (iterate 10 (exact rfl))) | refine al_nil ?_ | refine q_then_n ?_ | refine aw_seq ?_ | refine aw_reg ?_ | refine aw_ret ?_)
  exact q_retB (resB_1 rfl (resV_c (t := 81) rfl rfl rfl rfl)) ⟨_, rfl, rfl⟩
theorem smallG_small' : smallG.Small := ⟨by decide, by decide, by simp [smallG], by simp [smallG]⟩
set_option maxRecDepth 100000 in
theorem builds_c {l : List Pat} {t : TreeT} (hl : massL l ≤ 100000) (ht : t.small) (h : buildT smallG l (mayZ smallG l) = (t, 0)) : RunsP Try.prog 51 [.agg (treeD t), patsD l] (fun v => v = .v (.bool true)) := by
  have hg := small84_c
  have hb := Build_c smallG_small' hl
  rw [h] at hb
  have ho := one_c t ht t ht
  rw [one_refl] at ho
  obtain ⟨bk, bn, bi, bs, k, m, p, c, e⟩ := t
  unfold builtD at hb
  refine enterPB 20 tab_ok Try.func51 rfl (by kernel_rfl) rfl rfl rfl ?_
  repeat' (first | refine s_op rfl ?_ | (apply s_move; (iterate 4 (exact rfl))) | (apply s_ld_p tab_ok; (iterate 7 (exact rfl))) | (apply s_ld_f tab_ok; (iterate 6 (exact rfl))) | (apply s_assign; (iterate 4 (exact rfl))) | (apply s_pick_t; (iterate 5 (exact rfl))) | (apply s_ext; (iterate 5 (exact rfl))) | (apply s_alloc tabZ_ok; (iterate 7 (exact rfl))) | (apply s_boxZ; (iterate 5 (exact rfl)); first | exact rfl | exact allD_mapd _) | (apply s_store tab_ok; (iterate 10 (exact rfl))) | (apply s_eql_t; (iterate 5 (exact rfl)); omega) | (apply s_call; (iterate 6 (exact rfl)); first | (exact hg; rintro _ rfl) | (exact hb; rintro _ rfl) | (exact ho; rintro _ rfl)) | refine al_nil ?_ | refine q_then_n ?_ | refine aw_seq ?_ | refine aw_reg ?_ | refine aw_ret ?_)
  all_goals exact q_retB (resB_1 rfl (resV_t rfl)) ⟨_, rfl, rfl⟩
end Go.Proofs.Ytjflembhgjcgkaa
