/- C13: alone, pair: of the document; may: of the program. -/
import Derived.Test.YtjflembhgjcgkaaTP10XC3C4
import Derived.Test.YtjflembhgjcgkaaTP10XM3C12
import Derived.Test.YtjflembhgjcgkaaTP10XAhAiAj
set_option linter.unusedSimpArgs false
set_option linter.unusedVariables false
namespace Go.Proofs.Ytjflembhgjcgkaa
open Go.RowKit

theorem arity_at {g : Sg} {m : Nat} {nm : ByteArray} {dt : Int} {fs ms : List (List DV)} (h : g.cons[m]? = some ⟨nm, dt, fs, ms⟩) : g.arity (m : Int) = fs.length := by
  unfold Sg.arity; rw [con_of h]
theorem dataOf_at {g : Sg} {m : Nat} {nm : ByteArray} {dt : Int} {fs ms : List (List DV)} (h : g.cons[m]? = some ⟨nm, dt, fs, ms⟩) : g.dataOf (m : Int) = dt := by
  unfold Sg.dataOf; rw [con_of h]

set_option maxRecDepth 100000 in
set_option maxHeartbeats 4000000 in
theorem ralone_c (g : Sg) (hs : g.Small) (k n i : Int) (s : ByteArray) (a b c : Int) (l : List Pat) (hl : l.length ≤ 1000000000) : RunsP Try.prog 70 [.agg (sigD g), .agg (patD (.mk k n i s a b c l))] (fun v => v = .v (.bool (aloneB g (.mk k n i s a b c l)))) := by
  have l1 := hs.cons
  have e0 := patR_len l
  have e1 : (g.cons.map conD).length = g.cons.length := by simp
  by_cases h5 : k = 5 ∧ 0 ≤ n ∧ n < g.cons.length
  · obtain ⟨h5, h6, h7⟩ := h5
    obtain ⟨m, rfl⟩ : ∃ m : Nat, n = m := ⟨n.toNat, by omega⟩
    obtain ⟨⟨nm, dt, fs, ms⟩, hq⟩ : ∃ c, g.cons[m]? = some c := getS (by omega)
    have hf : fs.length ≤ 1000000000 := hs.fields _ (List.mem_of_getElem? hq)
    have har := arity_at hq
    refine enterP 113 Try.func70 rfl (by kernel_rfl) rfl rfl rfl ?_
    repeat' (first | refine s_op rfl ?_ | (apply s_skipV; (iterate 2 (exact rfl))) | (apply s_move; (iterate 4 (exact rfl))) | (apply s_fa_f tab_ok; (iterate 6 (exact rfl))) | (apply s_ld_f tab_ok; (iterate 6 (exact rfl))) | (apply s_assign; (iterate 4 (exact rfl))) | (apply s_pick_t; (iterate 5 (exact rfl))) | (apply s_pick_f; (iterate 5 (exact rfl))) | (apply s_len tab_ok; (iterate 5 (exact rfl))) | (apply s_idx tab_ok; (iterate 7 (exact rfl)); (first | exact patR_get (by assumption) | exact valR_get (by assumption) | exact row_map (by assumption) | assumption)) | (apply s_boxZ; (iterate 5 (exact rfl)); first | exact rfl | exact allD_mapd _) | (apply s_eql_t; (iterate 5 (exact rfl)); omega) | (apply s_eql_f; (iterate 5 (exact rfl)); omega) | (apply s_lss_t; (iterate 5 (exact rfl)); omega) | (apply s_geq_t; (iterate 5 (exact rfl)); omega) | (apply s_eqlS; (iterate 5 (exact rfl)); all_goals intro _) | (apply s_streqS; (iterate 5 (exact rfl)); all_goals intro _) | refine al_nil ?_ | refine q_then_n ?_ | refine q_blk_r ?_ | refine aw_block ?_ | refine q_then_r ?_ | refine aw_seq ?_ | refine aw_reg ?_ | refine aw_true rfl ?_ | refine aw_false rfl ?_ | refine aw_ret ?_ | refine aw_draws (id := 11) (trO [0, 1, 2, 3, 4, 5, 6, 7, 8, 9, 10, 11, 12, 13, 14, 15, 16, 17, 18, 19, 20, 21, 22, 23, 24, 25, 26, 27, 28, 29, 30, 31, 32, 33, 34, 35] .nil) [] [] mixed_ok (by kernel_rfl) ?_)
    all_goals (refine q_ret rfl ⟨_, rfl, ?_⟩; congr 2; simp only [aloneB]; subst h5; simp [har, *] <;> omega)
  · refine enterP 113 Try.func70 rfl (by kernel_rfl) rfl rfl rfl ?_
    repeat' (first | refine s_op rfl ?_ | (apply s_skipV; (iterate 2 (exact rfl))) | (apply s_move; (iterate 4 (exact rfl))) | (apply s_fa_f tab_ok; (iterate 6 (exact rfl))) | (apply s_ld_f tab_ok; (iterate 6 (exact rfl))) | (apply s_assign; (iterate 4 (exact rfl))) | (apply s_pick_t; (iterate 5 (exact rfl))) | (apply s_pick_f; (iterate 5 (exact rfl))) | (apply s_len tab_ok; (iterate 5 (exact rfl))) | (apply s_boxZ; (iterate 5 (exact rfl)); first | exact rfl | exact allD_mapd _) | (apply s_lss_f; (iterate 5 (exact rfl)); omega) | (apply s_eqlS; (iterate 5 (exact rfl)); all_goals intro _) | (apply s_geqS; (iterate 5 (exact rfl)); all_goals intro _) | (apply s_streqS; (iterate 5 (exact rfl)); all_goals intro _) | refine al_nil ?_ | refine q_then_n ?_ | refine q_blk_n ?_ | refine q_blk_r ?_ | refine aw_block ?_ | refine q_then_r ?_ | refine aw_seq ?_ | refine aw_reg ?_ | refine aw_true rfl ?_ | refine aw_false rfl ?_ | refine aw_skip ?_ | refine aw_ret ?_ | refine aw_draws (id := 11) (trO [0, 1, 2, 3, 4, 5, 6, 7, 8, 9, 10, 11, 12, 13, 14, 15, 16, 17, 18, 19, 20, 21, 22, 23, 24, 25, 26, 27, 28, 29, 30, 31, 32, 33, 34, 35] .nil) [] [] mixed_ok (by kernel_rfl) ?_)
    all_goals (refine q_ret rfl ⟨_, rfl, ?_⟩; congr 2; simp only [aloneB]; first | (simp [*, -List.length_eq_zero_iff]; done) | (simp [*, -List.length_eq_zero_iff]; omega) | (simp only [*] at h5; simp [*, -List.length_eq_zero_iff]; omega))

set_option maxRecDepth 100000 in
set_option maxHeartbeats 4000000 in
theorem may_c (g : Sg) (hs : g.Small) (k n i : Int) (s : ByteArray) (a b c : Int) (l : List Pat) (hl : l.length ≤ 1000000000) : RunsP Try.prog 99 [.agg (sigD g), .agg (patD (.mk k n i s a b c l))] (fun v => v = .v (.bool (aloneB g (.mk k n i s a b c l)))) := by
  have l1 := hs.cons
  have e0 := patR_len l
  have e1 : (g.cons.map conD).length = g.cons.length := by simp
  by_cases h5 : k = 5 ∧ 0 ≤ n ∧ n < g.cons.length
  · obtain ⟨h5, h6, h7⟩ := h5
    obtain ⟨m, rfl⟩ : ∃ m : Nat, n = m := ⟨n.toNat, by omega⟩
    obtain ⟨⟨nm, dt, fs, ms⟩, hq⟩ : ∃ c, g.cons[m]? = some c := getS (by omega)
    have hf : fs.length ≤ 1000000000 := hs.fields _ (List.mem_of_getElem? hq)
    have har := arity_at hq
    refine enterP 80 Try.func99 rfl (by kernel_rfl) rfl rfl rfl ?_
    repeat' (first | refine s_op rfl ?_ | (apply s_skipV; (iterate 2 (exact rfl))) | (apply s_skipU; (iterate 3 (exact rfl))) | (apply s_move; (iterate 4 (exact rfl))) | (apply s_fa_f tab_ok; (iterate 6 (exact rfl))) | (apply s_ld_f tab_ok; (iterate 6 (exact rfl))) | (apply s_assign; (iterate 4 (exact rfl))) | (apply s_pick_t; (iterate 5 (exact rfl))) | (apply s_pick_f; (iterate 5 (exact rfl))) | (apply s_len tab_ok; (iterate 5 (exact rfl))) | (apply s_idx tab_ok; (iterate 7 (exact rfl)); (first | exact patR_get (by assumption) | exact valR_get (by assumption) | exact row_map (by assumption) | assumption)) | (apply s_boxZ; (iterate 5 (exact rfl)); first | exact rfl | exact allD_mapd _) | (apply s_eql_t; (iterate 5 (exact rfl)); omega) | (apply s_neq_t; (iterate 5 (exact rfl)); omega) | (apply s_neq_f; (iterate 5 (exact rfl)); omega) | (apply s_lss_t; (iterate 5 (exact rfl)); omega) | (apply s_geq_t; (iterate 5 (exact rfl)); omega) | (apply s_eqlS; (iterate 5 (exact rfl)); all_goals intro _) | (apply s_neqS; (iterate 5 (exact rfl)); all_goals intro _) | (apply s_strneS; (iterate 5 (exact rfl)); all_goals intro _) | refine al_nil ?_ | refine q_then_n ?_ | refine q_then_r ?_ | refine aw_seq ?_ | refine aw_reg ?_ | refine aw_true rfl ?_ | refine aw_false rfl ?_ | refine aw_skip ?_ | refine aw_ret ?_ | refine aw_draws (id := 4) (trO [0, 1, 2, 3, 4, 5, 6, 7, 8, 9, 10, 11, 12, 13, 14, 15, 16, 17, 18, 19, 20, 21, 22, 23, 24, 25] .nil) [] [] mixed_ok (by kernel_rfl) ?_)
    all_goals (refine q_ret rfl ⟨_, rfl, ?_⟩; congr 2; simp only [aloneB]; subst h5; first | (simp [har, *, -List.length_eq_zero_iff]; done) | (simp [har, *, -List.length_eq_zero_iff]; omega))
  · refine enterP 80 Try.func99 rfl (by kernel_rfl) rfl rfl rfl ?_
    repeat' (first | refine s_op rfl ?_ | (apply s_skipV; (iterate 2 (exact rfl))) | (apply s_skipU; (iterate 3 (exact rfl))) | (apply s_move; (iterate 4 (exact rfl))) | (apply s_fa_f tab_ok; (iterate 6 (exact rfl))) | (apply s_ld_f tab_ok; (iterate 6 (exact rfl))) | (apply s_assign; (iterate 4 (exact rfl))) | (apply s_pick_t; (iterate 5 (exact rfl))) | (apply s_pick_f; (iterate 5 (exact rfl))) | (apply s_len tab_ok; (iterate 5 (exact rfl))) | (apply s_boxZ; (iterate 5 (exact rfl)); first | exact rfl | exact allD_mapd _) | (apply s_eql_t; (iterate 5 (exact rfl)); omega) | (apply s_eql_f; (iterate 5 (exact rfl)); omega) | (apply s_neq_t; (iterate 5 (exact rfl)); omega) | (apply s_lss_f; (iterate 5 (exact rfl)); omega) | (apply s_leq_t; (iterate 5 (exact rfl)); omega) | (apply s_geq_t; (iterate 5 (exact rfl)); omega) | (apply s_neqS; (iterate 5 (exact rfl)); all_goals intro _) | (apply s_gtrS; (iterate 5 (exact rfl)); all_goals intro _) | (apply s_leqS; (iterate 5 (exact rfl)); all_goals intro _) | (apply s_geqS; (iterate 5 (exact rfl)); all_goals intro _) | (apply s_strneS; (iterate 5 (exact rfl)); all_goals intro _) | refine al_nil ?_ | refine q_then_n ?_ | refine q_then_r ?_ | refine aw_seq ?_ | refine aw_reg ?_ | refine aw_true rfl ?_ | refine aw_false rfl ?_ | refine aw_skip ?_ | refine aw_ret ?_ | refine aw_draws (id := 4) (trO [0, 1, 2, 3, 4, 5, 6, 7, 8, 9, 10, 11, 12, 13, 14, 15, 16, 17, 18, 19, 20, 21, 22, 23, 24, 25] .nil) [] [] mixed_ok (by kernel_rfl) ?_)
    all_goals (refine q_ret rfl ⟨_, rfl, ?_⟩; congr 2; simp only [aloneB]; first | (simp [*, -List.length_eq_zero_iff]; done) | (simp [*, -List.length_eq_zero_iff]; omega) | ((repeat' split) <;> first | (simp [*, -List.length_eq_zero_iff]; done) | (simp [*, -List.length_eq_zero_iff]; omega) | omega))
end Go.Proofs.Ytjflembhgjcgkaa
