/- C33: tests, is, of the tree; IndexFunc, Grow, Concat of asks. -/
import Derived.Test.YtjflembhgjcgkaaTP11XC3C4
import Derived.Test.YtjflembhgjcgkaaTP11XM10CZM12
import Derived.Test.YtjflembhgjcgkaaTP11XAhAiAj
set_option linter.unusedSimpArgs false
set_option linter.unusedVariables false
namespace Go.Proofs.Ytjflembhgjcgkaa
open Go.RowKit

set_option maxRecDepth 100000 in
theorem tests_c (p : Pat) : RunsP Try.prog 54 [.agg (patD p)] (fun v => v = .v (.bool (testsB p))) := by
  obtain ⟨k, n, i, s, a, b, c, l⟩ := p
  simp only [testsB, Pat.kind]
  refine enterP 11 Try.func54 rfl (by kernel_rfl) rfl rfl rfl ?_
  by_cases h1 : 3 ≤ k
  · by_cases h2 : k ≤ 5
    · repeat' (first | refine s_op rfl ?_ | (apply s_move; (iterate 4 (exact rfl))) | (apply s_fa_f tab_ok; (iterate 6 (exact rfl))) | (apply s_ld_f tab_ok; (iterate 6 (exact rfl))) | (apply s_assign; (iterate 4 (exact rfl))) | (apply s_pick_t; (iterate 5 (exact rfl))) | (apply s_boxZ; (iterate 5 (exact rfl)); first | exact rfl | exact allD_mapd _) | (apply s_leq_t; (iterate 5 (exact rfl)); omega) | (apply s_geq_t; (iterate 5 (exact rfl)); omega) | refine al_nil ?_ | refine q_then_n ?_ | refine aw_seq ?_ | refine aw_reg ?_ | refine aw_ret ?_)
      exact q_ret rfl ⟨_, rfl, by simp [h1, h2]⟩
    · repeat' (first | refine s_op rfl ?_ | (apply s_move; (iterate 4 (exact rfl))) | (apply s_fa_f tab_ok; (iterate 6 (exact rfl))) | (apply s_ld_f tab_ok; (iterate 6 (exact rfl))) | (apply s_assign; (iterate 4 (exact rfl))) | (apply s_pick_t; (iterate 5 (exact rfl))) | (apply s_boxZ; (iterate 5 (exact rfl)); first | exact rfl | exact allD_mapd _) | (apply s_leq_f; (iterate 5 (exact rfl)); omega) | (apply s_geq_t; (iterate 5 (exact rfl)); omega) | refine al_nil ?_ | refine q_then_n ?_ | refine aw_seq ?_ | refine aw_reg ?_ | refine aw_ret ?_)
      exact q_ret rfl ⟨_, rfl, by simp [h1, h2]⟩
  · repeat' (first | refine s_op rfl ?_ | (apply s_skipV; (iterate 2 (exact rfl))) | (apply s_move; (iterate 4 (exact rfl))) | (apply s_fa_f tab_ok; (iterate 6 (exact rfl))) | (apply s_ld_f tab_ok; (iterate 6 (exact rfl))) | (apply s_assign; (iterate 4 (exact rfl))) | (apply s_pick_f; (iterate 5 (exact rfl))) | (apply s_boxZ; (iterate 5 (exact rfl)); first | exact rfl | exact allD_mapd _) | (apply s_geq_f; (iterate 5 (exact rfl)); omega) | refine al_nil ?_ | refine q_then_n ?_ | refine aw_seq ?_ | refine aw_reg ?_ | refine aw_ret ?_)
    exact q_ret rfl ⟨_, rfl, by simp [h1]⟩

set_option maxRecDepth 100000 in
theorem is_c (p q : Pat) : RunsP Try.prog 104 [.agg (patD p), .agg (patD q)] (fun v => v = .v (.bool (isB p q))) := by
  obtain ⟨k, n, i, s, a, b, c, l⟩ := p
  obtain ⟨k', n', i', s', a', b', c', l'⟩ := q
  simp only [isB, Pat.kind, Pat.n, Pat.i, Pat.s]
  refine enterP 36 Try.func104 rfl (by kernel_rfl) rfl rfl rfl ?_
  repeat' (first | refine s_op rfl ?_ | (apply s_skipV; (iterate 2 (exact rfl))) | (apply s_skipU; (iterate 3 (exact rfl))) | (apply s_move; (iterate 4 (exact rfl))) | (apply s_fa_f tab_ok; (iterate 6 (exact rfl))) | (apply s_ld_f tab_ok; (iterate 6 (exact rfl))) | (apply s_assign; (iterate 4 (exact rfl))) | (apply s_pick_t; (iterate 5 (exact rfl))) | (apply s_pick_f; (iterate 5 (exact rfl))) | (apply s_boxZ; (iterate 5 (exact rfl)); first | exact rfl | exact allD_mapd _) | (apply s_eqlS; (iterate 5 (exact rfl)); all_goals intro _) | (apply s_neqS; (iterate 5 (exact rfl)); all_goals intro _) | (apply s_streqS; (iterate 5 (exact rfl)); all_goals intro _) | refine al_nil ?_ | refine q_then_n ?_ | refine aw_seq ?_ | refine aw_reg ?_ | refine aw_ret ?_)
  all_goals (refine q_ret rfl ⟨_, rfl, ?_⟩; simp_all)

set_option maxRecDepth 100000 in
theorem at106_c (path : List Int) (a : AskT) (ha : a.path.length ≤ 1000000000) : RunsP Try.prog 106 [.agg (askD a), .fptr [intsD path]] (fun v => v = .v (.bool (decide (a.path = path)))) := by
  obtain ⟨ap, k, n, i, s, a0, b0, c0, l⟩ := a
  have h := equal_c ap path ha
  refine enterP 8 Try.func106 rfl (by kernel_rfl) rfl rfl rfl ?_
  cases hb : decide (ap = path) <;> rw [hb] at h
  · repeat' (first | refine s_op rfl ?_ | (apply s_fa_f tab_ok; (iterate 6 (exact rfl))) | (apply s_ld_f tab_ok; (iterate 6 (exact rfl))) | (apply s_assign; (iterate 4 (exact rfl))) | (apply s_boxZ; (iterate 5 (exact rfl)); first | exact rfl | exact allD_mapd _) | (apply s_call; (iterate 6 (exact rfl)); first | (exact h; rintro _ rfl)) | refine al_nil ?_ | refine q_then_n ?_ | refine aw_seq ?_ | refine aw_reg ?_ | refine aw_ret ?_)
    exact q_ret rfl ⟨_, rfl, by simp [hb]⟩
  · repeat' (first | refine s_op rfl ?_ | (apply s_fa_f tab_ok; (iterate 6 (exact rfl))) | (apply s_ld_f tab_ok; (iterate 6 (exact rfl))) | (apply s_assign; (iterate 4 (exact rfl))) | (apply s_boxZ; (iterate 5 (exact rfl)); first | exact rfl | exact allD_mapd _) | (apply s_call; (iterate 6 (exact rfl)); first | (exact h; rintro _ rfl)) | refine al_nil ?_ | refine q_then_n ?_ | refine aw_seq ?_ | refine aw_reg ?_ | refine aw_ret ?_)
    exact q_ret rfl ⟨_, rfl, by simp [hb]⟩

theorem asks_get {l : List AskT} {j : Nat} {a : AskT} (h : l[j]? = some a) : (l.map askD)[j]? = some (askD a) := by simp [h]
set_option maxRecDepth 100000 in
theorem indexA_c (l : List AskT) (path : List Int) (hp : ∀ a ∈ l, a.path.length ≤ 1000000000) (hl : l.length ≤ 9223372036854775807) :
    RunsP Try.prog 105 [asksD l, .clo (.func 106) [] [.fptr [intsD path]]] (fun v => v = .v (.int .i64 (fidx l fun a => decide (a.path = path)))) := by
  refine enterP 19 Try.func105 rfl (by kernel_rfl) rfl rfl rfl ?_
  have e1 : (l.map askD).length = l.length := by simp
  repeat' (first | refine s_op rfl ?_ | (apply s_move; (iterate 4 (exact rfl))) | (apply s_assign; (iterate 4 (exact rfl))) | (apply s_len tab_ok; (iterate 5 (exact rfl))) | refine al_nil ?_ | refine q_then_n ?_ | refine aw_block ?_ | refine aw_seq ?_ | refine aw_reg ?_)
  refine w_loop [0, 1, 7, 8] (fun n vs σ => ∃ k : Nat, vs = [.d (asksD l), .d (.clo (.func 106) [] [.fptr [intsD path]]), .d (.v (.int .i64 ((l.map askD).length : Int))), .d (.v (.int .i64 (k : Int)))] ∧ σ = [] ∧ k ≤ l.length ∧ n = l.length - k ∧ (l.take k).any (fun a => decide (a.path = path)) = false) rfl ⟨0, rfl, rfl, by omega, rfl, by simp⟩ ?_
  rintro n vs σ ⟨k, rfl, rfl, hk, rfl, hp'⟩ fr hfr
  cases hfr
  by_cases hlt : k < l.length
  · obtain ⟨q, hq⟩ := getS hlt
    have hr := at106_c path q (hp q (List.mem_of_getElem? hq))
    have hq2 := asks_get hq
    cases hb : decide (q.path = path) <;> rw [hb] at hr
    · repeat' (first | refine s_op rfl ?_ | (apply s_move; (iterate 4 (exact rfl))) | (apply s_ld_w tab_ok; (iterate 5 (exact rfl)); (first | exact askD_len _ | exact patD_len _ | exact valD_len _ | exact rowTD_len _ | exact brD_len _ | exact treeD_len _)) | (apply s_assign; (iterate 4 (exact rfl))) | (apply s_idx tab_ok; (iterate 7 (exact rfl)); (first | exact patR_get (by assumption) | exact valR_get (by assumption) | exact row_map (by assumption) | assumption)) | (apply s_lss_t; (iterate 5 (exact rfl)); omega) | (apply s_add64; (iterate 5 (exact rfl)); omega) | (apply s_call; (iterate 6 (exact rfl)); first | (exact hr; rintro _ rfl)) | refine al_nil ?_ | refine q_then_n ?_ | refine q_blk_n ?_ | refine aw_block ?_ | refine aw_seq ?_ | refine aw_reg ?_ | refine aw_true rfl ?_ | refine aw_false rfl ?_ | refine aw_skip ?_)
      exact ⟨_, _, rfl, by omega, k + 1, rfl, rfl, by omega, rfl, any_take hp' hq hb⟩
    · repeat' (first | refine s_op rfl ?_ | (apply s_move; (iterate 4 (exact rfl))) | (apply s_ld_w tab_ok; (iterate 5 (exact rfl)); (first | exact askD_len _ | exact patD_len _ | exact valD_len _ | exact rowTD_len _ | exact brD_len _ | exact treeD_len _)) | (apply s_assign; (iterate 4 (exact rfl))) | (apply s_idx tab_ok; (iterate 7 (exact rfl)); (first | exact patR_get (by assumption) | exact valR_get (by assumption) | exact row_map (by assumption) | assumption)) | (apply s_lss_t; (iterate 5 (exact rfl)); omega) | (apply s_call; (iterate 6 (exact rfl)); first | (exact hr; rintro _ rfl)) | refine al_nil ?_ | refine q_then_n ?_ | refine q_blk_r ?_ | refine aw_block ?_ | refine q_then_r ?_ | refine aw_seq ?_ | refine aw_reg ?_ | refine aw_true rfl ?_ | refine aw_skip ?_ | refine aw_ret ?_)
      exact q_ret rfl ⟨_, rfl, by rw [fidx_here hp' hq hb]⟩
  · repeat' (first | refine s_op rfl ?_ | (apply s_assign; (iterate 4 (exact rfl))) | (apply s_lss_f; (iterate 5 (exact rfl)); omega) | refine al_nil ?_ | refine q_then_n ?_ | refine q_blk_e ?_ | refine q_then_e ?_ | refine aw_exit ?_ | refine aw_seq ?_ | refine aw_reg ?_ | refine aw_false rfl ?_ | refine aw_ret ?_)
    exact q_ret rfl ⟨_, rfl, by rw [fidx_none]; rwa [List.take_of_length_le (by omega)] at hp'⟩

theorem z98 : ∃ z, find1 tabZ.zs 98 = some z ∧ Nat.beq z.length 9 = true := ⟨_, rfl, rfl⟩

set_option maxRecDepth 100000 in
theorem growK_o (n : Nat) (σ : List AObj) (hl : n ≤ 1000000000) : Runs Try.prog 119 [.d .nil, .d (.v (.int .i64 (n : Int)))] σ (Roomy 98 9 n σ) := by
  obtain ⟨z, hz, hzl⟩ := z98
  refine enter 27 Try.func119 rfl (by kernel_rfl) rfl rfl rfl ?_
  by_cases hn : n = 0
  · subst hn
    repeat' (first | refine s_op rfl ?_ | (apply s_move; (iterate 4 (exact rfl))) | (apply s_assign; (iterate 4 (exact rfl))) | (apply s_len tab_ok; (iterate 5 (exact rfl))) | (apply s_lss_f; (iterate 5 (exact rfl)); omega) | (apply s_gtr_f; (iterate 5 (exact rfl)); omega) | (apply s_sub64; (iterate 5 (exact rfl)); omega) | (apply s_capN; (iterate 3 (exact rfl)); exact Try.underlying94; exact rfl) | refine al_nil ?_ | refine q_then_n ?_ | refine aw_seq ?_ | refine aw_reg ?_ | refine aw_false rfl ?_ | refine aw_skip ?_ | refine aw_ret ?_)
    exact q_ret rfl (.inl ⟨rfl, rfl⟩)
  · repeat' (first | refine s_op rfl ?_ | (apply s_move; (iterate 4 (exact rfl))) | (apply s_assign; (iterate 4 (exact rfl))) | (apply s_len tab_ok; (iterate 5 (exact rfl))) | (apply s_lss_f; (iterate 5 (exact rfl)); omega) | (apply s_gtr_t; (iterate 5 (exact rfl)); omega) | (apply s_capN; (iterate 3 (exact rfl)); exact Try.underlying94; exact rfl) | (apply s_sliceN tab_ok; (iterate 7 (exact rfl))) | (apply s_subV 0; (iterate 5 (exact rfl)); omega) | (apply s_subV (n : Int); (iterate 5 (exact rfl)); omega) | (refine o_adoptF 20 98 9 rfl ?_; intro loc σ hc) | (apply s_appF tab_ok tabZ_ok (rows2 := List.replicate n (z.map .v)) (rows3 := List.replicate n (z.map .v)) (m := n); (iterate 10 (exact rfl)); exact hc.at'; exact src_make (k' := .i64) (TabZ.z tabZ_ok hz) hzl Try.underlying3 (n := n) rfl (by omega) (Tab.tyIs tab_ok (t := 98) rfl) rfl; exact List.nil_append _; (simp; omega); intro σ hc2; have hc3 := fresh_chg hc hc2) | (apply s_sliceOV 0 0 tab_ok; (iterate 8 (exact rfl)); exact hc3.at'; (simp); (simp)) | (refine w_shrinkF (c := .ret) 0 hc3.at' ?_; intro σ hc4; have hc5 := fresh_chg hc3 hc4; clear hc3) | refine al_nil ?_ | refine q_then_n ?_ | refine aw_seq ?_ | refine aw_reg ?_ | refine aw_true rfl ?_ | refine aw_false rfl ?_ | refine aw_skip ?_ | refine aw_ret ?_)
    exact q_ret rfl (.inr ⟨loc, 1, rfl, hc5⟩)

set_option maxRecDepth 100000 in
set_option maxHeartbeats 4000000 in
theorem concatK_o (a b c : List (List DV)) (σ : List AObj) (ha : a.length ≤ 100000000) (hb : b.length ≤ 100000000) (hc : c.length ≤ 100000000) : Runs Try.prog 108 [.d (.lst 1 [[.lst 9 a], [.lst 9 b], [.lst 9 c]])] σ (Copied 98 9 (a ++ b ++ c) σ) := by
  refine enter 36 Try.func108 rfl (by kernel_rfl) rfl rfl rfl ?_
  repeat' (first | refine s_op rfl ?_ | (apply s_move; (iterate 4 (exact rfl))) | (apply s_assign; (iterate 4 (exact rfl))) | (apply s_len tab_ok; (iterate 5 (exact rfl))) | refine al_nil ?_ | refine q_then_n ?_ | refine aw_block ?_ | refine aw_seq ?_ | refine aw_reg ?_)
  refine w_loop [0, 3, 9, 10, 11] (fun n vs σ' => ∃ (k : Nat) (s : Int), vs = [.d (.lst 1 [[.lst 9 a], [.lst 9 b], [.lst 9 c]]), .d (.v (.int .i64 s)), .d (.lst 1 [[.lst 9 a], [.lst 9 b], [.lst 9 c]]), .d (.v (.int .i64 ((3 : Nat) : Int))), .d (.v (.int .i64 (k : Int)))] ∧ σ' = σ ∧ n = 3 - k ∧ ((k = 0 ∧ s = 0) ∨ (k = 1 ∧ s = a.length) ∨ (k = 2 ∧ s = (a.length + b.length : Nat)) ∨ (k = 3 ∧ s = (a.length + b.length + c.length : Nat)))) rfl ⟨0, 0, rfl, rfl, rfl, .inl ⟨rfl, rfl⟩⟩ ?_
  rintro n vs σ' ⟨k, s, rfl, rfl, rfl, hk⟩ fr hfr
  cases hfr
  rcases hk with ⟨rfl, rfl⟩ | ⟨rfl, rfl⟩ | ⟨rfl, rfl⟩ | ⟨rfl, rfl⟩
  · repeat' (first | refine s_op rfl ?_ | (apply s_move; (iterate 4 (exact rfl))) | (apply s_ld_f tab_ok; (iterate 6 (exact rfl))) | (apply s_assign; (iterate 4 (exact rfl))) | (apply s_len tab_ok; (iterate 5 (exact rfl))) | (apply s_lss_t; (iterate 5 (exact rfl)); omega) | (apply s_lss_f; (iterate 5 (exact rfl)); omega) | (apply s_add64; (iterate 5 (exact rfl)); omega) | (apply s_idx tab_ok (row := [.lst 9 a]); (iterate 7 (exact rfl)); exact rfl) | refine al_nil ?_ | refine q_then_n ?_ | refine q_blk_n ?_ | refine aw_block ?_ | refine aw_seq ?_ | refine aw_reg ?_ | refine aw_true rfl ?_ | refine aw_false rfl ?_ | refine aw_skip ?_)
    exact ⟨_, _, rfl, by omega, 1, _, rfl, rfl, rfl, .inr (.inl ⟨rfl, by simp⟩)⟩
  · repeat' (first | refine s_op rfl ?_ | (apply s_move; (iterate 4 (exact rfl))) | (apply s_ld_f tab_ok; (iterate 6 (exact rfl))) | (apply s_assign; (iterate 4 (exact rfl))) | (apply s_len tab_ok; (iterate 5 (exact rfl))) | (apply s_lss_t; (iterate 5 (exact rfl)); omega) | (apply s_lss_f; (iterate 5 (exact rfl)); omega) | (apply s_add64; (iterate 5 (exact rfl)); omega) | (apply s_idx tab_ok (row := [.lst 9 b]); (iterate 7 (exact rfl)); exact rfl) | refine al_nil ?_ | refine q_then_n ?_ | refine q_blk_n ?_ | refine aw_block ?_ | refine aw_seq ?_ | refine aw_reg ?_ | refine aw_true rfl ?_ | refine aw_false rfl ?_ | refine aw_skip ?_)
    exact ⟨_, _, rfl, by omega, 2, _, rfl, rfl, rfl, .inr (.inr (.inl ⟨rfl, by simp⟩))⟩
  · repeat' (first | refine s_op rfl ?_ | (apply s_move; (iterate 4 (exact rfl))) | (apply s_ld_f tab_ok; (iterate 6 (exact rfl))) | (apply s_assign; (iterate 4 (exact rfl))) | (apply s_len tab_ok; (iterate 5 (exact rfl))) | (apply s_lss_t; (iterate 5 (exact rfl)); omega) | (apply s_lss_f; (iterate 5 (exact rfl)); omega) | (apply s_add64; (iterate 5 (exact rfl)); omega) | (apply s_idx tab_ok (row := [.lst 9 c]); (iterate 7 (exact rfl)); exact rfl) | refine al_nil ?_ | refine q_then_n ?_ | refine q_blk_n ?_ | refine aw_block ?_ | refine aw_seq ?_ | refine aw_reg ?_ | refine aw_true rfl ?_ | refine aw_false rfl ?_ | refine aw_skip ?_)
    exact ⟨_, _, rfl, by omega, 3, _, rfl, rfl, rfl, .inr (.inr (.inr ⟨rfl, by simp⟩))⟩
  · have hg := growK_o (a.length + b.length + c.length) σ' (by omega)
    repeat' (first | refine s_op rfl ?_ | (apply s_move; (iterate 4 (exact rfl))) | (apply s_assign; (iterate 4 (exact rfl))) | (apply s_len tab_ok; (iterate 5 (exact rfl))) | (apply s_lss_f; (iterate 5 (exact rfl)); omega) | (apply s_callS; (iterate 6 (exact rfl)); exact hg; rintro v σ (⟨rfl, rfl⟩ | ⟨loc, ver, rfl, hf⟩)) | (refine w_adoptF (c := .loop _) 6 98 9 rfl ?_; intro loc σ hf) | refine al_nil ?_ | refine q_then_n ?_ | refine q_blk_e ?_ | refine q_then_e ?_ | refine aw_block ?_ | refine aw_exit ?_ | refine aw_seq ?_ | refine aw_reg ?_ | refine aw_false rfl ?_)
    · refine w_loop [6, 25, 26, 27] (fun n vs σ2 => ∃ (k : Nat) (rows : List (List DV)) (ver : Nat), vs = [.own loc ver 9 0 rows.length, .d (.lst 1 [[.lst 9 a], [.lst 9 b], [.lst 9 c]]), .d (.v (.int .i64 ((3 : Nat) : Int))), .d (.v (.int .i64 (k : Int)))] ∧ Fresh _ loc (.arr 98 9 ver rows) σ2 ∧ n = 3 - k ∧ ((k = 0 ∧ rows = []) ∨ (k = 1 ∧ rows = a) ∨ (k = 2 ∧ rows = a ++ b) ∨ (k = 3 ∧ rows = a ++ b ++ c))) rfl ⟨0, [], _, rfl, hf, rfl, .inl ⟨rfl, rfl⟩⟩ ?_
      rintro n vs σ2 ⟨k, rows, ver, rfl, hf, rfl, hk⟩ fr hfr
      cases hfr
      rcases hk with ⟨rfl, rfl⟩ | ⟨rfl, rfl⟩ | ⟨rfl, rfl⟩ | ⟨rfl, rfl⟩
      · repeat' (first | refine s_op rfl ?_ | (apply s_move; (iterate 4 (exact rfl))) | (apply s_ld_f tab_ok; (iterate 6 (exact rfl))) | (apply s_assign; (iterate 4 (exact rfl))) | (apply s_lss_t; (iterate 5 (exact rfl)); omega) | (apply s_add64; (iterate 5 (exact rfl)); omega) | (apply s_idx tab_ok (row := [.lst 9 a]); (iterate 7 (exact rfl)); exact rfl) | (apply s_appF tab_ok tabZ_ok (rows2 := a) (rows3 := a) (m := a.length); (iterate 10 (exact rfl)); exact hf.at'; exact src_of (Tab.slIs tab_ok (t := 94) rfl) (rows_d rfl); exact List.nil_append _; (simp; omega); intro σ hc2; have hc3 := fresh_chg hf hc2) | refine al_nil ?_ | refine q_then_n ?_ | refine q_blk_n ?_ | refine aw_block ?_ | refine aw_seq ?_ | refine aw_reg ?_ | refine aw_true rfl ?_ | refine aw_skip ?_)
        exact ⟨_, _, rfl, by omega, 1, _, _, rfl, hc3, rfl, .inr (.inl ⟨rfl, rfl⟩)⟩
      · repeat' (first | refine s_op rfl ?_ | (apply s_move; (iterate 4 (exact rfl))) | (apply s_ld_f tab_ok; (iterate 6 (exact rfl))) | (apply s_assign; (iterate 4 (exact rfl))) | (apply s_lss_t; (iterate 5 (exact rfl)); omega) | (apply s_add64; (iterate 5 (exact rfl)); omega) | (apply s_idx tab_ok (row := [.lst 9 b]); (iterate 7 (exact rfl)); exact rfl) | (apply s_appF tab_ok tabZ_ok (rows2 := b) (rows3 := rows ++ b) (m := rows.length + b.length); (iterate 10 (exact rfl)); exact hf.at'; exact src_of (Tab.slIs tab_ok (t := 94) rfl) (rows_d rfl); exact rfl; (refine ⟨rfl, ?_, rfl⟩; omega); intro σ hc2; have hc3 := fresh_chg hf hc2) | refine al_nil ?_ | refine q_then_n ?_ | refine q_blk_n ?_ | refine aw_block ?_ | refine aw_seq ?_ | refine aw_reg ?_ | refine aw_true rfl ?_ | refine aw_skip ?_)
        exact ⟨_, _, rfl, by omega, 2, _, _, by rw [List.length_append]; rfl, hc3, rfl, .inr (.inr (.inl ⟨rfl, rfl⟩))⟩
      · repeat' (first | refine s_op rfl ?_ | (apply s_move; (iterate 4 (exact rfl))) | (apply s_ld_f tab_ok; (iterate 6 (exact rfl))) | (apply s_assign; (iterate 4 (exact rfl))) | (apply s_lss_t; (iterate 5 (exact rfl)); omega) | (apply s_add64; (iterate 5 (exact rfl)); omega) | (apply s_idx tab_ok (row := [.lst 9 c]); (iterate 7 (exact rfl)); exact rfl) | (apply s_appF tab_ok tabZ_ok (rows2 := c) (rows3 := a ++ b ++ c) (m := (a ++ b).length + c.length); (iterate 10 (exact rfl)); exact hf.at'; exact src_of (Tab.slIs tab_ok (t := 94) rfl) (rows_d rfl); exact rfl; (refine ⟨rfl, ?_, rfl⟩; simp only [List.length_append]; omega); intro σ hc2; have hc3 := fresh_chg hf hc2) | refine al_nil ?_ | refine q_then_n ?_ | refine q_blk_n ?_ | refine aw_block ?_ | refine aw_seq ?_ | refine aw_reg ?_ | refine aw_true rfl ?_ | refine aw_skip ?_)
        exact ⟨_, _, rfl, by omega, 3, _, _, by simp only [List.length_append]; rfl, hc3, rfl, .inr (.inr (.inr ⟨rfl, rfl⟩))⟩
      · repeat' (first | refine s_op rfl ?_ | (apply s_move; (iterate 4 (exact rfl))) | (apply s_assign; (iterate 4 (exact rfl))) | (apply s_lss_f; (iterate 5 (exact rfl)); omega) | refine al_nil ?_ | refine q_then_n ?_ | refine q_blk_e ?_ | refine q_then_e ?_ | refine aw_exit ?_ | refine aw_seq ?_ | refine aw_reg ?_ | refine aw_false rfl ?_ | refine aw_ret ?_)
        exact q_ret rfl ⟨loc, _, rfl, hf⟩
    · refine w_loop [6, 25, 26, 27] (fun n vs σ2 => ∃ (k : Nat) (rows : List (List DV)) (ver : Nat), vs = [.own loc ver 9 0 rows.length, .d (.lst 1 [[.lst 9 a], [.lst 9 b], [.lst 9 c]]), .d (.v (.int .i64 ((3 : Nat) : Int))), .d (.v (.int .i64 (k : Int)))] ∧ Fresh _ loc (.arr 98 9 ver rows) σ2 ∧ n = 3 - k ∧ ((k = 0 ∧ rows = []) ∨ (k = 1 ∧ rows = a) ∨ (k = 2 ∧ rows = a ++ b) ∨ (k = 3 ∧ rows = a ++ b ++ c))) rfl ⟨0, [], _, rfl, hf, rfl, .inl ⟨rfl, rfl⟩⟩ ?_
      rintro n vs σ2 ⟨k, rows, ver, rfl, hf, rfl, hk⟩ fr hfr
      cases hfr
      rcases hk with ⟨rfl, rfl⟩ | ⟨rfl, rfl⟩ | ⟨rfl, rfl⟩ | ⟨rfl, rfl⟩
      · repeat' (first | refine s_op rfl ?_ | (apply s_move; (iterate 4 (exact rfl))) | (apply s_ld_f tab_ok; (iterate 6 (exact rfl))) | (apply s_assign; (iterate 4 (exact rfl))) | (apply s_lss_t; (iterate 5 (exact rfl)); omega) | (apply s_add64; (iterate 5 (exact rfl)); omega) | (apply s_idx tab_ok (row := [.lst 9 a]); (iterate 7 (exact rfl)); exact rfl) | (apply s_appF tab_ok tabZ_ok (rows2 := a) (rows3 := a) (m := a.length); (iterate 10 (exact rfl)); exact hf.at'; exact src_of (Tab.slIs tab_ok (t := 94) rfl) (rows_d rfl); exact List.nil_append _; (simp; omega); intro σ hc2; have hc3 := fresh_chg hf hc2) | refine al_nil ?_ | refine q_then_n ?_ | refine q_blk_n ?_ | refine aw_block ?_ | refine aw_seq ?_ | refine aw_reg ?_ | refine aw_true rfl ?_ | refine aw_skip ?_)
        exact ⟨_, _, rfl, by omega, 1, _, _, rfl, hc3, rfl, .inr (.inl ⟨rfl, rfl⟩)⟩
      · repeat' (first | refine s_op rfl ?_ | (apply s_move; (iterate 4 (exact rfl))) | (apply s_ld_f tab_ok; (iterate 6 (exact rfl))) | (apply s_assign; (iterate 4 (exact rfl))) | (apply s_lss_t; (iterate 5 (exact rfl)); omega) | (apply s_add64; (iterate 5 (exact rfl)); omega) | (apply s_idx tab_ok (row := [.lst 9 b]); (iterate 7 (exact rfl)); exact rfl) | (apply s_appF tab_ok tabZ_ok (rows2 := b) (rows3 := rows ++ b) (m := rows.length + b.length); (iterate 10 (exact rfl)); exact hf.at'; exact src_of (Tab.slIs tab_ok (t := 94) rfl) (rows_d rfl); exact rfl; (refine ⟨rfl, ?_, rfl⟩; omega); intro σ hc2; have hc3 := fresh_chg hf hc2) | refine al_nil ?_ | refine q_then_n ?_ | refine q_blk_n ?_ | refine aw_block ?_ | refine aw_seq ?_ | refine aw_reg ?_ | refine aw_true rfl ?_ | refine aw_skip ?_)
        exact ⟨_, _, rfl, by omega, 2, _, _, by rw [List.length_append]; rfl, hc3, rfl, .inr (.inr (.inl ⟨rfl, rfl⟩))⟩
      · repeat' (first | refine s_op rfl ?_ | (apply s_move; (iterate 4 (exact rfl))) | (apply s_ld_f tab_ok; (iterate 6 (exact rfl))) | (apply s_assign; (iterate 4 (exact rfl))) | (apply s_lss_t; (iterate 5 (exact rfl)); omega) | (apply s_add64; (iterate 5 (exact rfl)); omega) | (apply s_idx tab_ok (row := [.lst 9 c]); (iterate 7 (exact rfl)); exact rfl) | (apply s_appF tab_ok tabZ_ok (rows2 := c) (rows3 := a ++ b ++ c) (m := (a ++ b).length + c.length); (iterate 10 (exact rfl)); exact hf.at'; exact src_of (Tab.slIs tab_ok (t := 94) rfl) (rows_d rfl); exact rfl; (refine ⟨rfl, ?_, rfl⟩; simp only [List.length_append]; omega); intro σ hc2; have hc3 := fresh_chg hf hc2) | refine al_nil ?_ | refine q_then_n ?_ | refine q_blk_n ?_ | refine aw_block ?_ | refine aw_seq ?_ | refine aw_reg ?_ | refine aw_true rfl ?_ | refine aw_skip ?_)
        exact ⟨_, _, rfl, by omega, 3, _, _, by simp only [List.length_append]; rfl, hc3, rfl, .inr (.inr (.inr ⟨rfl, rfl⟩))⟩
      · repeat' (first | refine s_op rfl ?_ | (apply s_move; (iterate 4 (exact rfl))) | (apply s_assign; (iterate 4 (exact rfl))) | (apply s_lss_f; (iterate 5 (exact rfl)); omega) | refine al_nil ?_ | refine q_then_n ?_ | refine q_blk_e ?_ | refine q_then_e ?_ | refine aw_exit ?_ | refine aw_seq ?_ | refine aw_reg ?_ | refine aw_false rfl ?_ | refine aw_ret ?_)
        exact q_ret rfl ⟨loc, _, rfl, hf⟩

theorem concatK_c (a b c : List (List DV)) (ha : a.length ≤ 100000000) (hb : b.length ≤ 100000000) (hc : c.length ≤ 100000000) : RunsP Try.prog 108 [.lst 1 [[.lst 9 a], [.lst 9 b], [.lst 9 c]]] (fun v => v = .lst 9 (a ++ b ++ c)) := Copied.own (concatK_o a b c [] ha hb hc)
end Go.Proofs.Ytjflembhgjcgkaa
