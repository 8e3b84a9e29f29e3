/- C30: within, of the document. -/
import Derived.Test.YtjflembhgjcgkaaXC3C4
set_option linter.unusedSimpArgs false
set_option linter.unusedVariables false
-- ALLUNDEF -- BOXZ
namespace Go.Proofs.Ytjflembhgjcgkaa
open Go.RowKit

mutual
def withinB : Pat → Pat → Bool
  | .mk k n i s a b c l, .mk k' n' i' s' a' b' c' l' =>
    if k' = 1 ∨ k' = 2 then true
    else if (k = 1 ∨ k = 2) ∨ k ≠ k' ∨ n ≠ n' ∨ i ≠ i' ∨ s ≠ s' ∨ l.length ≠ l'.length then false
    else withinL l l'
def withinL : List Pat → List Pat → Bool
  | p :: l, q :: m => withinB p q && withinL l m
  | _, _ => true
end
theorem withinL_drop {l m : List Pat} {j : Nat} {p q : Pat} (hp : l[j]? = some p) (hq : m[j]? = some q) : withinL (l.drop j) (m.drop j) = (withinB p q && withinL (l.drop (j + 1)) (m.drop (j + 1))) := by
  rw [drop_get hp, drop_get hq, withinL]

section
variable {k n i a b c k' n' i' a' b' c' : Int} {s s' : ByteArray} {l l' : List Pat}

set_option maxRecDepth 100000 in
theorem within1_c (o1 : RunsP Try.prog 75 [.agg (patD (.mk k n i s a b c l))] (fun v => v = .v (.bool true))) (o2 : RunsP Try.prog 75 [.agg (patD (.mk k' n' i' s' a' b' c' l'))] (fun v => v = .v (.bool true))) : RunsP Try.prog 116 [.agg (patD (.mk k n i s a b c l)), .agg (patD (.mk k' n' i' s' a' b' c' l'))] (fun r => r = .v (.bool true)) := by
  refine enterP 66 Try.func116 rfl (by kernel_rfl) rfl rfl rfl ?_
  repeat' (first | refine s_op rfl ?_ | (apply s_ld_f tab_ok; (iterate 6 (exact rfl))) | (apply s_assign; (iterate 4 (exact rfl))) | (apply s_boxZ; (iterate 5 (exact rfl)); first | exact rfl | exact allD_mapd _) | (apply s_call; (iterate 6 (exact rfl)); first | (exact o2; rintro _ rfl) | (exact o1; rintro _ rfl)) | refine al_nil ?_ | refine q_then_n ?_ | refine q_then_r ?_ | refine aw_seq ?_ | refine aw_reg ?_ | refine aw_true rfl ?_ | refine aw_ret ?_)
  all_goals exact q_ret rfl ⟨_, rfl, rfl⟩

set_option maxRecDepth 100000 in
theorem within1b_c (o1 : RunsP Try.prog 75 [.agg (patD (.mk k n i s a b c l))] (fun v => v = .v (.bool false))) (o2 : RunsP Try.prog 75 [.agg (patD (.mk k' n' i' s' a' b' c' l'))] (fun v => v = .v (.bool true))) : RunsP Try.prog 116 [.agg (patD (.mk k n i s a b c l)), .agg (patD (.mk k' n' i' s' a' b' c' l'))] (fun r => r = .v (.bool true)) := by
  refine enterP 66 Try.func116 rfl (by kernel_rfl) rfl rfl rfl ?_
  repeat' (first | refine s_op rfl ?_ | (apply s_ld_f tab_ok; (iterate 6 (exact rfl))) | (apply s_assign; (iterate 4 (exact rfl))) | (apply s_boxZ; (iterate 5 (exact rfl)); first | exact rfl | exact allD_mapd _) | (apply s_call; (iterate 6 (exact rfl)); first | (exact o2; rintro _ rfl) | (exact o1; rintro _ rfl)) | refine al_nil ?_ | refine q_then_n ?_ | refine q_then_r ?_ | refine aw_seq ?_ | refine aw_reg ?_ | refine aw_true rfl ?_ | refine aw_ret ?_)
  all_goals exact q_ret rfl ⟨_, rfl, rfl⟩

set_option maxRecDepth 100000 in
theorem within2_c (o1 : RunsP Try.prog 75 [.agg (patD (.mk k n i s a b c l))] (fun v => v = .v (.bool true))) (o2 : RunsP Try.prog 75 [.agg (patD (.mk k' n' i' s' a' b' c' l'))] (fun v => v = .v (.bool false))) : RunsP Try.prog 116 [.agg (patD (.mk k n i s a b c l)), .agg (patD (.mk k' n' i' s' a' b' c' l'))] (fun r => r = .v (.bool false)) := by
  refine enterP 66 Try.func116 rfl (by kernel_rfl) rfl rfl rfl ?_
  repeat' (first | refine s_op rfl ?_ | (apply s_skipV; (iterate 2 (exact rfl))) | (apply s_move; (iterate 4 (exact rfl))) | (apply s_ld_f tab_ok; (iterate 6 (exact rfl))) | (apply s_assign; (iterate 4 (exact rfl))) | (apply s_pick_t; (iterate 5 (exact rfl))) | (apply s_boxZ; (iterate 5 (exact rfl)); first | exact rfl | exact allD_mapd _) | (apply s_call; (iterate 6 (exact rfl)); first | (exact o2; rintro _ rfl) | (exact o1; rintro _ rfl)) | refine al_nil ?_ | refine q_then_n ?_ | refine q_then_r ?_ | refine aw_seq ?_ | refine aw_reg ?_ | refine aw_true rfl ?_ | refine aw_false rfl ?_ | refine aw_skip ?_ | refine aw_ret ?_)
  all_goals exact q_ret rfl ⟨_, rfl, rfl⟩

set_option maxRecDepth 100000 in
theorem within3_c (o1 : RunsP Try.prog 75 [.agg (patD (.mk k n i s a b c l))] (fun v => v = .v (.bool false))) (o2 : RunsP Try.prog 75 [.agg (patD (.mk k' n' i' s' a' b' c' l'))] (fun v => v = .v (.bool false))) (h1 : k ≠ k') : RunsP Try.prog 116 [.agg (patD (.mk k n i s a b c l)), .agg (patD (.mk k' n' i' s' a' b' c' l'))] (fun r => r = .v (.bool false)) := by
  refine enterP 66 Try.func116 rfl (by kernel_rfl) rfl rfl rfl ?_
  repeat' (first | refine s_op rfl ?_ | (apply s_skipV; (iterate 2 (exact rfl))) | (apply s_move; (iterate 4 (exact rfl))) | (apply s_fa_f tab_ok; (iterate 6 (exact rfl))) | (apply s_ld_f tab_ok; (iterate 6 (exact rfl))) | (apply s_assign; (iterate 4 (exact rfl))) | (apply s_pick_t; (iterate 5 (exact rfl))) | (apply s_pick_f; (iterate 5 (exact rfl))) | (apply s_boxZ; (iterate 5 (exact rfl)); first | exact rfl | exact allD_mapd _) | (apply s_neq_t; (iterate 5 (exact rfl)); omega) | (apply s_call; (iterate 6 (exact rfl)); first | (exact o2; rintro _ rfl) | (exact o1; rintro _ rfl)) | refine al_nil ?_ | refine q_then_n ?_ | refine q_then_r ?_ | refine aw_seq ?_ | refine aw_reg ?_ | refine aw_true rfl ?_ | refine aw_false rfl ?_ | refine aw_skip ?_ | refine aw_ret ?_)
  all_goals exact q_ret rfl ⟨_, rfl, rfl⟩

set_option maxRecDepth 100000 in
theorem within4_c (o1 : RunsP Try.prog 75 [.agg (patD (.mk k n i s a b c l))] (fun v => v = .v (.bool false))) (o2 : RunsP Try.prog 75 [.agg (patD (.mk k' n' i' s' a' b' c' l'))] (fun v => v = .v (.bool false))) (h1 : k = k') (h2 : n ≠ n') : RunsP Try.prog 116 [.agg (patD (.mk k n i s a b c l)), .agg (patD (.mk k' n' i' s' a' b' c' l'))] (fun r => r = .v (.bool false)) := by
  refine enterP 66 Try.func116 rfl (by kernel_rfl) rfl rfl rfl ?_
  repeat' (first | refine s_op rfl ?_ | (apply s_skipV; (iterate 2 (exact rfl))) | (apply s_move; (iterate 4 (exact rfl))) | (apply s_fa_f tab_ok; (iterate 6 (exact rfl))) | (apply s_ld_f tab_ok; (iterate 6 (exact rfl))) | (apply s_assign; (iterate 4 (exact rfl))) | (apply s_pick_t; (iterate 5 (exact rfl))) | (apply s_pick_f; (iterate 5 (exact rfl))) | (apply s_boxZ; (iterate 5 (exact rfl)); first | exact rfl | exact allD_mapd _) | (apply s_neq_t; (iterate 5 (exact rfl)); omega) | (apply s_neq_f; (iterate 5 (exact rfl)); omega) | (apply s_call; (iterate 6 (exact rfl)); first | (exact o2; rintro _ rfl) | (exact o1; rintro _ rfl)) | refine al_nil ?_ | refine q_then_n ?_ | refine q_then_r ?_ | refine aw_seq ?_ | refine aw_reg ?_ | refine aw_true rfl ?_ | refine aw_false rfl ?_ | refine aw_skip ?_ | refine aw_ret ?_)
  all_goals exact q_ret rfl ⟨_, rfl, rfl⟩

set_option maxRecDepth 100000 in
theorem within5_c (o1 : RunsP Try.prog 75 [.agg (patD (.mk k n i s a b c l))] (fun v => v = .v (.bool false))) (o2 : RunsP Try.prog 75 [.agg (patD (.mk k' n' i' s' a' b' c' l'))] (fun v => v = .v (.bool false))) (h1 : k = k') (h2 : n = n') (h3 : i ≠ i') : RunsP Try.prog 116 [.agg (patD (.mk k n i s a b c l)), .agg (patD (.mk k' n' i' s' a' b' c' l'))] (fun r => r = .v (.bool false)) := by
  refine enterP 66 Try.func116 rfl (by kernel_rfl) rfl rfl rfl ?_
  repeat' (first | refine s_op rfl ?_ | (apply s_skipV; (iterate 2 (exact rfl))) | (apply s_move; (iterate 4 (exact rfl))) | (apply s_fa_f tab_ok; (iterate 6 (exact rfl))) | (apply s_ld_f tab_ok; (iterate 6 (exact rfl))) | (apply s_assign; (iterate 4 (exact rfl))) | (apply s_pick_t; (iterate 5 (exact rfl))) | (apply s_pick_f; (iterate 5 (exact rfl))) | (apply s_boxZ; (iterate 5 (exact rfl)); first | exact rfl | exact allD_mapd _) | (apply s_neq_t; (iterate 5 (exact rfl)); omega) | (apply s_neq_f; (iterate 5 (exact rfl)); omega) | (apply s_call; (iterate 6 (exact rfl)); first | (exact o2; rintro _ rfl) | (exact o1; rintro _ rfl)) | refine al_nil ?_ | refine q_then_n ?_ | refine q_then_r ?_ | refine aw_seq ?_ | refine aw_reg ?_ | refine aw_true rfl ?_ | refine aw_false rfl ?_ | refine aw_skip ?_ | refine aw_ret ?_)
  all_goals exact q_ret rfl ⟨_, rfl, rfl⟩

set_option maxRecDepth 100000 in
theorem within6_c (o1 : RunsP Try.prog 75 [.agg (patD (.mk k n i s a b c l))] (fun v => v = .v (.bool false))) (o2 : RunsP Try.prog 75 [.agg (patD (.mk k' n' i' s' a' b' c' l'))] (fun v => v = .v (.bool false))) (h1 : k = k') (h2 : n = n') (h3 : i = i') (h4 : s ≠ s') : RunsP Try.prog 116 [.agg (patD (.mk k n i s a b c l)), .agg (patD (.mk k' n' i' s' a' b' c' l'))] (fun r => r = .v (.bool false)) := by
  refine enterP 66 Try.func116 rfl (by kernel_rfl) rfl rfl rfl ?_
  repeat' (first | refine s_op rfl ?_ | (apply s_skipV; (iterate 2 (exact rfl))) | (apply s_move; (iterate 4 (exact rfl))) | (apply s_fa_f tab_ok; (iterate 6 (exact rfl))) | (apply s_ld_f tab_ok; (iterate 6 (exact rfl))) | (apply s_assign; (iterate 4 (exact rfl))) | (apply s_pick_t; (iterate 5 (exact rfl))) | (apply s_pick_f; (iterate 5 (exact rfl))) | (apply s_boxZ; (iterate 5 (exact rfl)); first | exact rfl | exact allD_mapd _) | (apply s_neq_f; (iterate 5 (exact rfl)); omega) | (apply s_strne_t; (iterate 5 (exact rfl)); assumption) | (apply s_call; (iterate 6 (exact rfl)); first | (exact o2; rintro _ rfl) | (exact o1; rintro _ rfl)) | refine al_nil ?_ | refine q_then_n ?_ | refine q_then_r ?_ | refine aw_seq ?_ | refine aw_reg ?_ | refine aw_true rfl ?_ | refine aw_false rfl ?_ | refine aw_skip ?_ | refine aw_ret ?_)
  all_goals exact q_ret rfl ⟨_, rfl, rfl⟩

set_option maxRecDepth 100000 in
theorem within7_c (o1 : RunsP Try.prog 75 [.agg (patD (.mk k n i s a b c l))] (fun v => v = .v (.bool false))) (o2 : RunsP Try.prog 75 [.agg (patD (.mk k' n' i' s' a' b' c' l'))] (fun v => v = .v (.bool false))) (h1 : k = k') (h2 : n = n') (h3 : i = i') (h4 : s = s') (h5 : l.length ≠ l'.length) : RunsP Try.prog 116 [.agg (patD (.mk k n i s a b c l)), .agg (patD (.mk k' n' i' s' a' b' c' l'))] (fun r => r = .v (.bool false)) := by
  have e1 := patR_len l
  have e2 := patR_len l'
  refine enterP 66 Try.func116 rfl (by kernel_rfl) rfl rfl rfl ?_
  repeat' (first | refine s_op rfl ?_ | (apply s_move; (iterate 4 (exact rfl))) | (apply s_fa_f tab_ok; (iterate 6 (exact rfl))) | (apply s_ld_f tab_ok; (iterate 6 (exact rfl))) | (apply s_assign; (iterate 4 (exact rfl))) | (apply s_pick_f; (iterate 5 (exact rfl))) | (apply s_len tab_ok; (iterate 5 (exact rfl))) | (apply s_boxZ; (iterate 5 (exact rfl)); first | exact rfl | exact allD_mapd _) | (apply s_neq_t; (iterate 5 (exact rfl)); omega) | (apply s_neq_f; (iterate 5 (exact rfl)); omega) | (apply s_strne_f; (iterate 5 (exact rfl)); assumption) | (apply s_call; (iterate 6 (exact rfl)); first | (exact o2; rintro _ rfl) | (exact o1; rintro _ rfl)) | refine al_nil ?_ | refine q_then_n ?_ | refine q_then_r ?_ | refine aw_seq ?_ | refine aw_reg ?_ | refine aw_true rfl ?_ | refine aw_false rfl ?_ | refine aw_skip ?_ | refine aw_ret ?_)
  all_goals exact q_ret rfl ⟨_, rfl, rfl⟩

set_option maxRecDepth 100000 in
theorem within8_c (o1 : RunsP Try.prog 75 [.agg (patD (.mk k n i s a b c l))] (fun v => v = .v (.bool false))) (o2 : RunsP Try.prog 75 [.agg (patD (.mk k' n' i' s' a' b' c' l'))] (fun v => v = .v (.bool false))) (h1 : k = k') (h2 : n = n') (h3 : i = i') (h4 : s = s') (h5 : l.length = l'.length) (hl : l.length ≤ 9223372036854775807)
    (ih : ∀ p ∈ l, ∀ q ∈ l', RunsP Try.prog 116 [.agg (patD p), .agg (patD q)] (fun r => r = .v (.bool (withinB p q)))) : RunsP Try.prog 116 [.agg (patD (.mk k n i s a b c l)), .agg (patD (.mk k' n' i' s' a' b' c' l'))] (fun r => r = .v (.bool (withinL l l'))) := by
  have e1 := patR_len l
  have e2 := patR_len l'
  refine enterP 66 Try.func116 rfl (by kernel_rfl) rfl rfl rfl ?_
  repeat' (first | refine s_op rfl ?_ | (apply s_move; (iterate 4 (exact rfl))) | (apply s_fa_f tab_ok; (iterate 6 (exact rfl))) | (apply s_ld_f tab_ok; (iterate 6 (exact rfl))) | (apply s_assign; (iterate 4 (exact rfl))) | (apply s_pick_f; (iterate 5 (exact rfl))) | (apply s_len tab_ok; (iterate 5 (exact rfl))) | (apply s_boxZ; (iterate 5 (exact rfl)); first | exact rfl | exact allD_mapd _) | (apply s_neq_f; (iterate 5 (exact rfl)); omega) | (apply s_strne_f; (iterate 5 (exact rfl)); assumption) | (apply s_call; (iterate 6 (exact rfl)); first | (exact o2; rintro _ rfl) | (exact o1; rintro _ rfl)) | refine al_nil ?_ | refine q_then_n ?_ | refine aw_block ?_ | refine aw_seq ?_ | refine aw_reg ?_ | refine aw_false rfl ?_ | refine aw_skip ?_)
  refine w_loop [2, 3, 5] (fun n0 vs' σ => ∃ j : Nat, vs' = [.d (.fptr (patD (.mk k n i s a b c l))), .d (.fptr (patD (.mk k' n' i' s' a' b' c' l'))), .d (.v (.int .i64 (j : Int)))] ∧ j ≤ l.length ∧ n0 = l.length - j ∧ withinL l l' = withinL (l.drop j) (l'.drop j)) rfl ⟨0, rfl, by omega, rfl, rfl⟩ ?_
  rintro n0 vs' σ ⟨j, rfl, hj, rfl, hs⟩ fr hfr
  cases hfr
  by_cases hlt : j < l.length
  · obtain ⟨q, hq⟩ := getS hlt
    obtain ⟨u, hu⟩ : ∃ u, l'[j]? = some u := getS (by omega)
    have hr := ih q (List.mem_of_getElem? hq) u (List.mem_of_getElem? hu)
    rw [withinL_drop hq hu] at hs
    cases hb2 : withinB q u <;> rw [hb2] at hr hs
    · repeat' (first | refine s_op rfl ?_ | (apply s_move; (iterate 4 (exact rfl))) | (apply s_fa_f tab_ok; (iterate 6 (exact rfl))) | (apply s_ld_f tab_ok; (iterate 6 (exact rfl))) | (apply s_ld_w tab_ok; (iterate 5 (exact rfl)); (first | exact patD_len _ | exact valD_len _)) | (apply s_assign; (iterate 4 (exact rfl))) | (apply s_len tab_ok; (iterate 5 (exact rfl))) | (apply s_idx tab_ok; (iterate 7 (exact rfl)); (first | exact patR_get (by assumption) | exact valR_get (by assumption) | exact row_map (by assumption) | assumption)) | (apply s_not_f; (iterate 4 (exact rfl))) | (apply s_lss_t; (iterate 5 (exact rfl)); omega) | (apply s_call; (iterate 6 (exact rfl)); first | (exact hr; rintro _ rfl)) | refine al_nil ?_ | refine q_then_n ?_ | refine q_blk_r ?_ | refine aw_block ?_ | refine q_then_r ?_ | refine aw_seq ?_ | refine aw_reg ?_ | refine aw_true rfl ?_ | refine aw_skip ?_ | refine aw_ret ?_ | refine aw_draws (id := 8) (trO [0, 1, 2, 3, 4, 5, 6, 7, 8, 9, 10, 11] .nil) [10] [] mixed_ok (by kernel_rfl) ?_)
      all_goals exact q_ret rfl ⟨_, rfl, by simp [hs]⟩
    · repeat' (first | refine s_op rfl ?_ | (apply s_move; (iterate 4 (exact rfl))) | (apply s_fa_f tab_ok; (iterate 6 (exact rfl))) | (apply s_ld_f tab_ok; (iterate 6 (exact rfl))) | (apply s_ld_w tab_ok; (iterate 5 (exact rfl)); (first | exact patD_len _ | exact valD_len _)) | (apply s_assign; (iterate 4 (exact rfl))) | (apply s_len tab_ok; (iterate 5 (exact rfl))) | (apply s_idx tab_ok; (iterate 7 (exact rfl)); (first | exact patR_get (by assumption) | exact valR_get (by assumption) | exact row_map (by assumption) | assumption)) | (apply s_not_t; (iterate 4 (exact rfl))) | (apply s_lss_t; (iterate 5 (exact rfl)); omega) | (apply s_add64; (iterate 5 (exact rfl)); omega) | (apply s_call; (iterate 6 (exact rfl)); first | (exact hr; rintro _ rfl)) | refine al_nil ?_ | refine q_then_n ?_ | refine q_blk_n ?_ | refine aw_block ?_ | refine aw_seq ?_ | refine aw_reg ?_ | refine aw_true rfl ?_ | refine aw_false rfl ?_ | refine aw_skip ?_ | refine aw_draws (id := 8) (trO [0, 1, 2, 3, 4, 5, 6, 7, 8, 9, 10, 11] .nil) [10] [] mixed_ok (by kernel_rfl) ?_)
      all_goals exact ⟨_, _, rfl, by omega, j + 1, rfl, by omega, rfl, by simpa using hs⟩
  · have : l.drop j = [] := List.drop_eq_nil_of_le (by omega)
    rw [this] at hs
    repeat' (first | refine s_op rfl ?_ | (apply s_move; (iterate 4 (exact rfl))) | (apply s_fa_f tab_ok; (iterate 6 (exact rfl))) | (apply s_ld_f tab_ok; (iterate 6 (exact rfl))) | (apply s_assign; (iterate 4 (exact rfl))) | (apply s_len tab_ok; (iterate 5 (exact rfl))) | (apply s_lss_f; (iterate 5 (exact rfl)); omega) | refine al_nil ?_ | refine q_then_n ?_ | refine q_blk_e ?_ | refine q_then_e ?_ | refine aw_exit ?_ | refine aw_seq ?_ | refine aw_reg ?_ | refine aw_false rfl ?_ | refine aw_ret ?_)
    all_goals exact q_ret rfl ⟨_, rfl, by simp [hs, withinL]⟩
end

theorem within_c (m : Nat) (hm : m ≤ 9223372036854775807) : ∀ p : Pat, p.small m → ∀ q : Pat, q.small m → RunsP Try.prog 116 [.agg (patD p), .agg (patD q)] (fun r => r = .v (.bool (withinB p q))) := by
  refine rec_pat fun k n i s a b c l ih hp q hq => ?_
  obtain ⟨k', n', i', s', a', b', c', l'⟩ := q
  have hl : l.length ≤ m := hp.1
  have o1 := open_c (.mk k n i s a b c l)
  have o2 := open_c (.mk k' n' i' s' a' b' c' l')
  simp only [withinB]
  by_cases h2 : k' = 1 ∨ k' = 2
  · rw [if_pos h2]
    rw [show openB (.mk k' n' i' s' a' b' c' l') = true from decide_eq_true h2] at o2
    cases hb : openB (.mk k n i s a b c l) <;> rw [hb] at o1
    · exact within1b_c o1 o2
    · exact within1_c o1 o2
  rw [if_neg h2]
  rw [show openB (.mk k' n' i' s' a' b' c' l') = false from decide_eq_false h2] at o2
  by_cases h1 : k = 1 ∨ k = 2
  · rw [if_pos (.inl h1)]
    rw [show openB (.mk k n i s a b c l) = true from decide_eq_true h1] at o1
    exact within2_c o1 o2
  rw [show openB (.mk k n i s a b c l) = false from decide_eq_false h1] at o1
  by_cases e1 : k = k'
  · by_cases e2 : n = n'
    · by_cases e3 : i = i'
      · by_cases e4 : s = s'
        · by_cases e5 : l.length = l'.length
          · rw [if_neg (by simp [h1, e1, e2, e3, e4, e5]; simpa [e1] using h2)]
            exact within8_c o1 o2 e1 e2 e3 e4 e5 (by omega) fun p hp' q hq' => ih p hp' (Pat.smallL_mem hp.2.2 p hp') q (Pat.smallL_mem hq.2.2 q hq')
          · rw [if_pos (.inr (.inr (.inr (.inr (.inr e5)))))]; exact within7_c o1 o2 e1 e2 e3 e4 e5
        · rw [if_pos (.inr (.inr (.inr (.inr (.inl e4)))))]; exact within6_c o1 o2 e1 e2 e3 e4
      · rw [if_pos (.inr (.inr (.inr (.inl e3))))]; exact within5_c o1 o2 e1 e2 e3
    · rw [if_pos (.inr (.inr (.inl e2)))]; exact within4_c o1 o2 e1 e2
  · rw [if_pos (.inr (.inl e1))]; exact within3_c o1 o2 e1
end Go.Proofs.Ytjflembhgjcgkaa
