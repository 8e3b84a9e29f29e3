/- C13: alone, pair: of the document; may: of the program. -/
import Derived.Test.YtjflembhgjcgkaaTP11XC3C4
import Derived.Test.YtjflembhgjcgkaaTP11XM3C12
import Derived.Test.YtjflembhgjcgkaaTP11XAhAiAj
import Derived.Test.YtjflembhgjcgkaaTP11XM4M7M5
set_option linter.unusedSimpArgs false
set_option linter.unusedVariables false
namespace Go.Proofs.Ytjflembhgjcgkaa
open Go.RowKit

theorem arity_at {g : Sg} {m : Nat} {nm : ByteArray} {dt : Int} {fs ms : List (List DV)} (h : g.cons[m]? = some ⟨nm, dt, fs, ms⟩) : g.arity (m : Int) = fs.length := by
  unfold Sg.arity; rw [con_of h]
theorem dataOf_at {g : Sg} {m : Nat} {nm : ByteArray} {dt : Int} {fs ms : List (List DV)} (h : g.cons[m]? = some ⟨nm, dt, fs, ms⟩) : g.dataOf (m : Int) = dt := by
  unfold Sg.dataOf; rw [con_of h]

set_option maxRecDepth 100000 in
set_option maxHeartbeats 4000000 in
theorem ralone_c (g : Sg) (hs : g.Small) (k n i : Int) (s : ByteArray) (a b c : Int) (l : List Pat) (hl : l.length ≤ 1000000000) : RunsP Try.prog 70 [.agg (sigD g), .agg (patD (.mk k n i s a b c l))] (fun v => v = .v (.bool (aloneB g (.mk k n i s a b c l)))) := by
  have l1 := hs.cons
  have e0 := patR_len l
  have e1 : (g.cons.map conD).length = g.cons.length := by simp
  by_cases h5 : k = 5 ∧ 0 ≤ n ∧ n < g.cons.length
  · obtain ⟨h5, h6, h7⟩ := h5
    obtain ⟨m, rfl⟩ : ∃ m : Nat, n = m := ⟨n.toNat, by omega⟩
    obtain ⟨⟨nm, dt, fs, ms⟩, hq⟩ : ∃ c, g.cons[m]? = some c := getS (by omega)
    have hf : fs.length ≤ 1000000000 := hs.fields _ (List.mem_of_getElem? hq)
    have har := arity_at hq
    refine enterP 113 Try.func70 rfl (by kernel_rfl) rfl rfl rfl ?_
    repeat' (first | refine s_op rfl ?_ | (apply s_skipV; (iterate 2 (exact rfl))) | (apply s_move; (iterate 4 (exact rfl))) | (apply s_fa_f tab_ok; (iterate 6 (exact rfl))) | (apply s_ld_f tab_ok; (iterate 6 (exact rfl))) | (apply s_assign; (iterate 4 (exact rfl))) | (apply s_pick_t; (iterate 5 (exact rfl))) | (apply s_pick_f; (iterate 5 (exact rfl))) | (apply s_len tab_ok; (iterate 5 (exact rfl))) | (apply s_idx tab_ok; (iterate 7 (exact rfl)); (first | exact patR_get (by assumption) | exact valR_get (by assumption) | exact row_map (by assumption) | assumption)) | (apply s_boxZ; (iterate 5 (exact rfl)); first | exact rfl | exact allD_mapd _) | (apply s_eql_t; (iterate 5 (exact rfl)); omega) | (apply s_eql_f; (iterate 5 (exact rfl)); omega) | (apply s_lss_t; (iterate 5 (exact rfl)); omega) | (apply s_geq_t; (iterate 5 (exact rfl)); omega) | (apply s_eqlS; (iterate 5 (exact rfl)); all_goals intro _) | (apply s_streqS; (iterate 5 (exact rfl)); all_goals intro _) | refine al_nil ?_ | refine q_then_n ?_ | refine q_blk_r ?_ | refine aw_block ?_ | refine q_then_r ?_ | refine aw_seq ?_ | refine aw_reg ?_ | refine aw_true rfl ?_ | refine aw_false rfl ?_ | refine aw_ret ?_ | refine aw_draws (id := 11) (trO [0, 1, 2, 3, 4, 5, 6, 7, 8, 9, 10, 11, 12, 13, 14, 15, 16, 17, 18, 19, 20, 21, 22, 23, 24, 25, 26, 27, 28, 29, 30, 31, 32, 33, 34, 35] .nil) [] [] mixed_ok (by kernel_rfl) ?_)
    all_goals (refine q_ret rfl ⟨_, rfl, ?_⟩; congr 2; simp only [aloneB]; subst h5; simp [har, *] <;> omega)
  · refine enterP 113 Try.func70 rfl (by kernel_rfl) rfl rfl rfl ?_
    repeat' (first | refine s_op rfl ?_ | (apply s_skipV; (iterate 2 (exact rfl))) | (apply s_move; (iterate 4 (exact rfl))) | (apply s_fa_f tab_ok; (iterate 6 (exact rfl))) | (apply s_ld_f tab_ok; (iterate 6 (exact rfl))) | (apply s_assign; (iterate 4 (exact rfl))) | (apply s_pick_t; (iterate 5 (exact rfl))) | (apply s_pick_f; (iterate 5 (exact rfl))) | (apply s_len tab_ok; (iterate 5 (exact rfl))) | (apply s_boxZ; (iterate 5 (exact rfl)); first | exact rfl | exact allD_mapd _) | (apply s_lss_f; (iterate 5 (exact rfl)); omega) | (apply s_eqlS; (iterate 5 (exact rfl)); all_goals intro _) | (apply s_geqS; (iterate 5 (exact rfl)); all_goals intro _) | (apply s_streqS; (iterate 5 (exact rfl)); all_goals intro _) | refine al_nil ?_ | refine q_then_n ?_ | refine q_blk_n ?_ | refine q_blk_r ?_ | refine aw_block ?_ | refine q_then_r ?_ | refine aw_seq ?_ | refine aw_reg ?_ | refine aw_true rfl ?_ | refine aw_false rfl ?_ | refine aw_skip ?_ | refine aw_ret ?_ | refine aw_draws (id := 11) (trO [0, 1, 2, 3, 4, 5, 6, 7, 8, 9, 10, 11, 12, 13, 14, 15, 16, 17, 18, 19, 20, 21, 22, 23, 24, 25, 26, 27, 28, 29, 30, 31, 32, 33, 34, 35] .nil) [] [] mixed_ok (by kernel_rfl) ?_)
    all_goals (refine q_ret rfl ⟨_, rfl, ?_⟩; congr 2; simp only [aloneB]; first | (simp [*, -List.length_eq_zero_iff]; done) | (simp [*, -List.length_eq_zero_iff]; omega) | (simp only [*] at h5; simp [*, -List.length_eq_zero_iff]; omega))

set_option maxRecDepth 100000 in
set_option maxHeartbeats 4000000 in
theorem may_c (g : Sg) (hs : g.Small) (k n i : Int) (s : ByteArray) (a b c : Int) (l : List Pat) (hl : l.length ≤ 1000000000) : RunsP Try.prog 99 [.agg (sigD g), .agg (patD (.mk k n i s a b c l))] (fun v => v = .v (.bool (aloneB g (.mk k n i s a b c l)))) := by
  have l1 := hs.cons
  have e0 := patR_len l
  have e1 : (g.cons.map conD).length = g.cons.length := by simp
  by_cases h5 : k = 5 ∧ 0 ≤ n ∧ n < g.cons.length
  · obtain ⟨h5, h6, h7⟩ := h5
    obtain ⟨m, rfl⟩ : ∃ m : Nat, n = m := ⟨n.toNat, by omega⟩
    obtain ⟨⟨nm, dt, fs, ms⟩, hq⟩ : ∃ c, g.cons[m]? = some c := getS (by omega)
    have hf : fs.length ≤ 1000000000 := hs.fields _ (List.mem_of_getElem? hq)
    have har := arity_at hq
    refine enterP 80 Try.func99 rfl (by kernel_rfl) rfl rfl rfl ?_
    repeat' (first | refine s_op rfl ?_ | (apply s_skipV; (iterate 2 (exact rfl))) | (apply s_skipU; (iterate 3 (exact rfl))) | (apply s_move; (iterate 4 (exact rfl))) | (apply s_fa_f tab_ok; (iterate 6 (exact rfl))) | (apply s_ld_f tab_ok; (iterate 6 (exact rfl))) | (apply s_assign; (iterate 4 (exact rfl))) | (apply s_pick_t; (iterate 5 (exact rfl))) | (apply s_pick_f; (iterate 5 (exact rfl))) | (apply s_len tab_ok; (iterate 5 (exact rfl))) | (apply s_idx tab_ok; (iterate 7 (exact rfl)); (first | exact patR_get (by assumption) | exact valR_get (by assumption) | exact row_map (by assumption) | assumption)) | (apply s_boxZ; (iterate 5 (exact rfl)); first | exact rfl | exact allD_mapd _) | (apply s_eql_t; (iterate 5 (exact rfl)); omega) | (apply s_neq_t; (iterate 5 (exact rfl)); omega) | (apply s_neq_f; (iterate 5 (exact rfl)); omega) | (apply s_lss_t; (iterate 5 (exact rfl)); omega) | (apply s_geq_t; (iterate 5 (exact rfl)); omega) | (apply s_eqlS; (iterate 5 (exact rfl)); all_goals intro _) | (apply s_neqS; (iterate 5 (exact rfl)); all_goals intro _) | (apply s_strneS; (iterate 5 (exact rfl)); all_goals intro _) | refine al_nil ?_ | refine q_then_n ?_ | refine q_then_r ?_ | refine aw_seq ?_ | refine aw_reg ?_ | refine aw_true rfl ?_ | refine aw_false rfl ?_ | refine aw_skip ?_ | refine aw_ret ?_ | refine aw_draws (id := 4) (trO [0, 1, 2, 3, 4, 5, 6, 7, 8, 9, 10, 11, 12, 13, 14, 15, 16, 17, 18, 19, 20, 21, 22, 23, 24, 25] .nil) [] [] mixed_ok (by kernel_rfl) ?_)
    all_goals (refine q_ret rfl ⟨_, rfl, ?_⟩; congr 2; simp only [aloneB]; subst h5; first | (simp [har, *, -List.length_eq_zero_iff]; done) | (simp [har, *, -List.length_eq_zero_iff]; omega))
  · refine enterP 80 Try.func99 rfl (by kernel_rfl) rfl rfl rfl ?_
    repeat' (first | refine s_op rfl ?_ | (apply s_skipV; (iterate 2 (exact rfl))) | (apply s_skipU; (iterate 3 (exact rfl))) | (apply s_move; (iterate 4 (exact rfl))) | (apply s_fa_f tab_ok; (iterate 6 (exact rfl))) | (apply s_ld_f tab_ok; (iterate 6 (exact rfl))) | (apply s_assign; (iterate 4 (exact rfl))) | (apply s_pick_t; (iterate 5 (exact rfl))) | (apply s_pick_f; (iterate 5 (exact rfl))) | (apply s_len tab_ok; (iterate 5 (exact rfl))) | (apply s_boxZ; (iterate 5 (exact rfl)); first | exact rfl | exact allD_mapd _) | (apply s_eql_t; (iterate 5 (exact rfl)); omega) | (apply s_eql_f; (iterate 5 (exact rfl)); omega) | (apply s_neq_t; (iterate 5 (exact rfl)); omega) | (apply s_lss_f; (iterate 5 (exact rfl)); omega) | (apply s_leq_t; (iterate 5 (exact rfl)); omega) | (apply s_geq_t; (iterate 5 (exact rfl)); omega) | (apply s_neqS; (iterate 5 (exact rfl)); all_goals intro _) | (apply s_gtrS; (iterate 5 (exact rfl)); all_goals intro _) | (apply s_leqS; (iterate 5 (exact rfl)); all_goals intro _) | (apply s_geqS; (iterate 5 (exact rfl)); all_goals intro _) | (apply s_strneS; (iterate 5 (exact rfl)); all_goals intro _) | refine al_nil ?_ | refine q_then_n ?_ | refine q_then_r ?_ | refine aw_seq ?_ | refine aw_reg ?_ | refine aw_true rfl ?_ | refine aw_false rfl ?_ | refine aw_skip ?_ | refine aw_ret ?_ | refine aw_draws (id := 4) (trO [0, 1, 2, 3, 4, 5, 6, 7, 8, 9, 10, 11, 12, 13, 14, 15, 16, 17, 18, 19, 20, 21, 22, 23, 24, 25] .nil) [] [] mixed_ok (by kernel_rfl) ?_)
    all_goals (refine q_ret rfl ⟨_, rfl, ?_⟩; congr 2; simp only [aloneB]; first | (simp [*, -List.length_eq_zero_iff]; done) | (simp [*, -List.length_eq_zero_iff]; omega) | ((repeat' split) <;> first | (simp [*, -List.length_eq_zero_iff]; done) | (simp [*, -List.length_eq_zero_iff]; omega) | omega))
end Go.Proofs.Ytjflembhgjcgkaa
/- C14, C15: in one. -/
set_option linter.unusedSimpArgs false
set_option linter.unusedVariables false
/- C14: Together, named, anys, of the document; anys, of the program. -/
namespace Go.Proofs.Ytjflembhgjcgkaa
open Go.RowKit

theorem getM {l : List Pat} {j : Nat} (h : j < l.length) : ∃ k n i s a b c q, l[j]? = some (Pat.mk k n i s a b c q) := by
  obtain ⟨p, hp⟩ := getS h
  cases p with
  | mk k n i s a b c q => exact ⟨k, n, i, s, a, b, c, q, hp⟩

theorem replicate_next {α : Type} (x : α) (k : Nat) : List.replicate k x ++ [x] = List.replicate (k + 1) x := by rw [List.replicate_succ']

set_option maxRecDepth 100000 in
theorem ranys_c (n : Nat) (hn : n ≤ 1000000000) : RunsP Try.prog 122 [.v (.int .i64 (n : Int))] (fun v => v = patsD (anysL n)) := by
  refine RunsP.weak ((RunsP.ofOwn (rows := List.replicate n rowNil) ?_).mono fun v h => h ▸ wk_anys n)
  refine enter 15 Try.func122 rfl (by kernel_rfl) rfl rfl rfl ?_
  repeat' (first | refine s_op rfl ?_ | (apply s_assign; (iterate 4 (exact rfl))) | refine al_nil ?_ | refine q_then_n ?_ | refine aw_block ?_ | refine aw_seq ?_ | refine aw_reg ?_)
  refine w_adoptF 3 41 8 rfl ?_
  intro loc σ hc
  refine w_loop [0, 3, 4] (fun n' vs σ => ∃ k ver : Nat, vs = [.d (.v (.int .i64 (n : Int))), .own loc ver 8 0 (List.replicate k rowNil).length, .d (.v (.int .i64 (k : Int)))] ∧ σ[loc]? = some (.arr 41 8 ver (List.replicate k rowNil)) ∧ k ≤ n ∧ n' = n - k) rfl ⟨0, 0, rfl, hc.at', by omega, rfl⟩ ?_
  clear hc
  rintro n' vs σ ⟨k, ver, rfl, hA, hk, rfl⟩ fr hfr
  cases hfr
  by_cases hlt : k < n
  · repeat' (first | refine s_op rfl ?_ | (apply s_move; (iterate 4 (exact rfl))) | (apply s_assign; (iterate 4 (exact rfl))) | (apply s_build tabZ_ok; (iterate 5 (exact rfl))) | (apply s_lit tab_ok tabZ_ok; (iterate 10 (exact rfl))) | (apply s_lss_t; (iterate 5 (exact rfl)); omega) | (apply s_add64; (iterate 5 (exact rfl)); omega) | (apply s_appF tab_ok tabZ_ok (rows2 := [rowNil]) (rows3 := List.replicate (k + 1) rowNil) (m := (List.replicate (k + 1) rowNil).length); (iterate 10 (exact rfl)); exact hA; exact src_of (Tab.slIs tab_ok (t := 26) rfl) (rows_d rfl); exact replicate_next _ _; (simp; omega); intro σ hc; replace hA := hc.at'; clear hc) | refine al_nil ?_ | refine q_then_n ?_ | refine q_blk_n ?_ | refine aw_block ?_ | refine aw_seq ?_ | refine aw_reg ?_ | refine aw_true rfl ?_ | refine aw_skip ?_)
    exact ⟨_, _, rfl, by omega, k + 1, _, rfl, hA, by omega, rfl⟩
  · have : k = n := by omega
    subst this
    repeat' (first | refine s_op rfl ?_ | (apply s_move; (iterate 4 (exact rfl))) | (apply s_assign; (iterate 4 (exact rfl))) | (apply s_lss_f; (iterate 5 (exact rfl)); omega) | refine al_nil ?_ | refine q_then_n ?_ | refine q_blk_e ?_ | refine q_then_e ?_ | refine aw_exit ?_ | refine aw_seq ?_ | refine aw_reg ?_ | refine aw_false rfl ?_ | refine aw_ret ?_)
    exact q_ret rfl ⟨loc, ver, 41, rfl, hA⟩

end Go.Proofs.Ytjflembhgjcgkaa

/- C15: anys, of the program. -/
namespace Go.Proofs.Ytjflembhgjcgkaa
open Go.RowKit

theorem set_next {α : Type} (x y : α) (k n : Nat) (h : k < n) : (List.replicate k y ++ List.replicate (n - k) x).set k y = List.replicate (k + 1) y ++ List.replicate (n - (k + 1)) x := by
  rw [List.set_append_right _ _ (by simp)]
  obtain ⟨r, hr⟩ : ∃ r, n - k = r + 1 := ⟨n - k - 1, by omega⟩
  rw [hr, List.replicate_succ, show n - (k + 1) = r by omega, ← replicate_next]
  simp

theorem get_next {α : Type} (x y : α) (k n : Nat) (h : k < n) : (List.replicate k y ++ List.replicate (n - k) x)[k]? = some x := by
  rw [List.getElem?_append_right (by simp), List.length_replicate, Nat.sub_self, List.getElem?_replicate, if_pos (by omega)]
set_option maxRecDepth 100000 in
theorem anys_c (n : Nat) (hn : n ≤ 1000000000) : RunsP Try.prog 65 [.v (.int .i64 (n : Int))] (fun v => v = patsD (anysL n)) := by
  refine RunsP.weak ((RunsP.ofOwn (rows := List.replicate n (rowVnil 2)) ?_).mono fun v h => h ▸ wk_vanys n)
  refine enter 18 Try.func65 rfl (by kernel_rfl) rfl rfl rfl ?_
  repeat' (first | refine s_op rfl ?_ | (apply s_move; (iterate 4 (exact rfl))) | (apply s_assign; (iterate 4 (exact rfl))) | (apply s_len tab_ok; (iterate 5 (exact rfl))) | (apply s_makeSliceF tab_ok tabZ_ok n; (iterate 11 (exact rfl)); exact ⟨by omega, rfl⟩; intro loc σ hc) | refine al_nil ?_ | refine q_then_n ?_ | refine aw_block ?_ | refine aw_seq ?_ | refine aw_reg ?_)
  refine w_loop [3, 8, 9] (fun n' vs σ => ∃ k : Nat, vs = [.own loc 0 8 0 n, .d (.v (.int .i64 (n : Int))), .d (.v (.int .i64 (k : Int)))] ∧ σ[loc]? = some (.arr 41 8 0 (List.replicate k (rowVnil 2) ++ List.replicate (n - k) (rowVnil 0))) ∧ k ≤ n ∧ n' = n - k) rfl ⟨0, rfl, hc.at', by omega, rfl⟩ ?_
  clear hc
  rintro n' vs σ ⟨k, rfl, hA, hk, rfl⟩ fr hfr
  cases hfr
  by_cases hlt : k < n
  · repeat' (first | refine s_op rfl ?_ | (apply s_move; (iterate 4 (exact rfl))) | (apply s_fa_p tab_ok; (iterate 5 (exact rfl))) | (apply s_assign; (iterate 4 (exact rfl))) | (apply s_lss_t; (iterate 5 (exact rfl)); omega) | (apply s_add64; (iterate 5 (exact rfl)); omega) | (apply s_idxO (k * 8) tab_ok; (iterate 7 (exact rfl)); exact hA; exact ⟨by omega, by omega⟩) | (apply s_stA k 0 tab_ok (r := rowVnil 0); (iterate 8 (exact rfl)); exact hA; exact get_next _ _ _ _ hlt; omega; omega; exact set_next _ _ _ _ hlt; intro σ hc; replace hA := hc.at'; clear hc) | refine al_nil ?_ | refine q_then_n ?_ | refine q_blk_n ?_ | refine aw_block ?_ | refine aw_seq ?_ | refine aw_reg ?_ | refine aw_true rfl ?_ | refine aw_skip ?_)
    exact ⟨_, _, rfl, by omega, k + 1, rfl, hA, by omega, rfl⟩
  · have : k = n := by omega
    subst this
    repeat' (first | refine s_op rfl ?_ | (apply s_move; (iterate 4 (exact rfl))) | (apply s_assign; (iterate 4 (exact rfl))) | (apply s_lss_f; (iterate 5 (exact rfl)); omega) | refine al_nil ?_ | refine q_then_n ?_ | refine q_blk_e ?_ | refine q_then_e ?_ | refine aw_exit ?_ | refine aw_seq ?_ | refine aw_reg ?_ | refine aw_false rfl ?_ | refine aw_ret ?_)
    refine q_ret rfl ⟨loc, 0, 41, ?_, ?_⟩
    · rw [List.length_replicate]; rfl
    · rw [hA]; simp
end Go.Proofs.Ytjflembhgjcgkaa
