/- C14, C15: in one. -/
import Derived.Test.YtjflembhgjcgkaaXM3C12
import Derived.Test.YtjflembhgjcgkaaC13
import Derived.Test.YtjflembhgjcgkaaXM4M7M5
set_option linter.unusedSimpArgs false
set_option linter.unusedVariables false
/- C14: Together, named, anys, of the document; anys, of the program. -/
-- ALLUNDEF -- BOXZ
namespace Go.Proofs.Ytjflembhgjcgkaa
open Go.RowKit

theorem getM {l : List Pat} {j : Nat} (h : j < l.length) : ∃ k n i s a b c q, l[j]? = some (Pat.mk k n i s a b c q) := by
  obtain ⟨p, hp⟩ := getS h
  cases p with
  | mk k n i s a b c q => exact ⟨k, n, i, s, a, b, c, q, hp⟩

set_option maxRecDepth 100000 in
set_option maxHeartbeats 8000000 in
theorem rtog_c (g : Sg) (hs : g.Small) (m : Nat) (hm : m ≤ 1000000000) (l : List Pat) : SmallP m l → RunsP Try.prog 26 [.agg (sigD g), patsD l] (fun v => v = .v (.bool (togB g l))) := by
  induction hN : szL l using Nat.strongRecOn generalizing l with
  | ind N ih =>
  intro hl
  subst hN
  have e1 := patR_len l
  have hlen := hl.len
  refine enterP 65 Try.func26 rfl (by kernel_rfl) rfl rfl rfl ?_
  repeat' (first | refine s_op rfl ?_ | (apply s_assign; (iterate 4 (exact rfl))) | (apply s_boxZ; (iterate 5 (exact rfl)); first | exact rfl | exact allD_mapd _) | refine al_nil ?_ | refine q_then_n ?_ | refine aw_block ?_ | refine aw_seq ?_ | refine aw_reg ?_)
  refine w_loop [1, 2, 5] (fun n vs σ => ∃ k : Nat, vs = [.d (patsD l), .d (.fptr (sigD g)), .d (.v (.int .i64 (k : Int)))] ∧ k ≤ l.length ∧ n = l.length - k ∧ ∀ i, i < k → ∀ p, l[i]? = some p → aloneB g p = true) rfl ⟨0, rfl, by omega, rfl, fun i hi => absurd hi (Nat.not_lt_zero i)⟩ ?_
  rintro n vs σ ⟨k, rfl, hk, rfl, hp⟩ fr hfr
  cases hfr
  by_cases hlt : k < l.length
  · obtain ⟨pk, pn, pi, ps, pa, pb, pc, pl, hq⟩ := getM hlt
    have hpl : pl.length ≤ 1000000000 := Nat.le_trans (hl.each _ (List.mem_of_getElem? hq)).1 hm
    have ha := ralone_c g hs pk pn pi ps pa pb pc pl hpl
    cases hb : aloneB g (.mk pk pn pi ps pa pb pc pl) <;> rw [hb] at ha
    · repeat' (first | refine s_op rfl ?_ | (apply s_move; (iterate 4 (exact rfl))) | (apply s_ld_f tab_ok; (iterate 6 (exact rfl))) | (apply s_assign; (iterate 4 (exact rfl))) | (apply s_len tab_ok; (iterate 5 (exact rfl))) | (apply s_idx tab_ok; (iterate 7 (exact rfl)); (first | exact patR_get (by assumption) | exact valR_get (by assumption) | exact row_map (by assumption) | assumption)) | (apply s_not_f; (iterate 4 (exact rfl))) | (apply s_lss_t; (iterate 5 (exact rfl)); omega) | (apply s_call; (iterate 6 (exact rfl)); first | (exact ha; rintro _ rfl)) | refine al_nil ?_ | refine q_then_n ?_ | refine q_blk_r ?_ | refine aw_block ?_ | refine q_then_r ?_ | refine aw_seq ?_ | refine aw_reg ?_ | refine aw_true rfl ?_ | refine aw_skip ?_ | refine aw_ret ?_ | refine aw_draws (id := 4) (trO [0, 1, 2, 3, 4, 5, 6] .nil) [5] [] mixed_ok (by kernel_rfl) ?_)
      exact q_ret rfl ⟨_, rfl, by rw [tog_alone (List.mem_of_getElem? hq) hb]⟩
    · repeat' (first | refine s_op rfl ?_ | (apply s_move; (iterate 4 (exact rfl))) | (apply s_ld_f tab_ok; (iterate 6 (exact rfl))) | (apply s_assign; (iterate 4 (exact rfl))) | (apply s_len tab_ok; (iterate 5 (exact rfl))) | (apply s_idx tab_ok; (iterate 7 (exact rfl)); (first | exact patR_get (by assumption) | exact valR_get (by assumption) | exact row_map (by assumption) | assumption)) | (apply s_not_t; (iterate 4 (exact rfl))) | (apply s_lss_t; (iterate 5 (exact rfl)); omega) | (apply s_add64; (iterate 5 (exact rfl)); omega) | (apply s_call; (iterate 6 (exact rfl)); first | (exact ha; rintro _ rfl)) | refine al_nil ?_ | refine q_then_n ?_ | refine q_blk_n ?_ | refine aw_block ?_ | refine aw_seq ?_ | refine aw_reg ?_ | refine aw_true rfl ?_ | refine aw_false rfl ?_ | refine aw_skip ?_ | refine aw_draws (id := 4) (trO [0, 1, 2, 3, 4, 5, 6] .nil) [5] [] mixed_ok (by kernel_rfl) ?_)
      exact ⟨_, _, rfl, by omega, k + 1, rfl, by omega, rfl, fun i hi p hip => by
        by_cases e : i = k
        · subst e; rw [hq] at hip; injection hip with hip; rw [← hip]; exact hb
        · exact hp i (by omega) p hip⟩
  have hA : ∀ p ∈ l, aloneB g p = true := forall_get fun i p hip => hp i (by have := (List.getElem?_eq_some_iff.1 hip).1; omega) p hip
  clear hp
  repeat' (first | refine s_op rfl ?_ | (apply s_move; (iterate 4 (exact rfl))) | (apply s_assign; (iterate 4 (exact rfl))) | (apply s_len tab_ok; (iterate 5 (exact rfl))) | (apply s_lss_f; (iterate 5 (exact rfl)); omega) | refine al_nil ?_ | refine q_then_n ?_ | refine q_blk_e ?_ | refine q_then_e ?_ | refine aw_block ?_ | refine aw_exit ?_ | refine aw_seq ?_ | refine aw_reg ?_ | refine aw_false rfl ?_)
  clear hlt hk
  refine w_loop [1, 2, 6] (fun n vs σ => ∃ k : Nat, vs = [.d (patsD l), .d (.fptr (sigD g)), .d (.v (.int .i64 (k : Int)))] ∧ k ≤ l.length ∧ n = l.length - k ∧ ∀ i, i < k → ∀ p, l[i]? = some p → (∀ j, j < i → ∀ q, l[j]? = some q → pairB g p q = true) ∧ ∀ f, f < p.l.length → togB g (kidsL l p.n f) = true) rfl ⟨0, rfl, by omega, rfl, fun i hi => absurd hi (Nat.not_lt_zero i)⟩ ?_
  rintro n vs σ ⟨k, rfl, hk, rfl, hp⟩ fr hfr
  cases hfr
  by_cases hlt : k < l.length
  · obtain ⟨pk, pn, pi, ps, pa, pb, pc, pl, hq⟩ := getM hlt
    have hmem := List.mem_of_getElem? hq
    have hpl : pl.length ≤ 1000000000 := Nat.le_trans (hl.each _ hmem).1 hm
    have e2 := patR_len pl
    repeat' (first | refine s_op rfl ?_ | (apply s_move; (iterate 4 (exact rfl))) | (apply s_assign; (iterate 4 (exact rfl))) | (apply s_len tab_ok; (iterate 5 (exact rfl))) | (apply s_lss_t; (iterate 5 (exact rfl)); omega) | refine al_nil ?_ | refine q_then_n ?_ | refine aw_block ?_ | refine aw_seq ?_ | refine aw_reg ?_ | refine aw_true rfl ?_ | refine aw_skip ?_)
    refine w_loop [1, 2, 6, 7] (fun n vs σ => ∃ j : Nat, vs = [.d (patsD l), .d (.fptr (sigD g)), .d (.v (.int .i64 (k : Int))), .d (.v (.int .i64 (j : Int)))] ∧ j ≤ k ∧ n = k - j ∧ ∀ i, i < j → ∀ q, l[i]? = some q → pairB g (.mk pk pn pi ps pa pb pc pl) q = true) rfl ⟨0, rfl, by omega, rfl, fun i hi => absurd hi (Nat.not_lt_zero i)⟩ ?_
    rintro n vs σ ⟨j, rfl, hj, rfl, hp2⟩ fr hfr
    cases hfr
    by_cases hjk : j < k
    · obtain ⟨qk, qn, qi, qs, qa, qb, qc, ql, hq2⟩ := getM (l := l) (j := j) (by omega)
      have hmem2 := List.mem_of_getElem? hq2
      have ha := rpair_c g hs pk pn pi ps pa pb pc pl qk qn qi qs qa qb qc ql (hA _ hmem) (hA _ hmem2)
      cases hb : pairB g (.mk pk pn pi ps pa pb pc pl) (.mk qk qn qi qs qa qb qc ql) <;> rw [hb] at ha
      · repeat' (first | refine s_op rfl ?_ | (apply s_move; (iterate 4 (exact rfl))) | (apply s_ld_f tab_ok; (iterate 6 (exact rfl))) | (apply s_assign; (iterate 4 (exact rfl))) | (apply s_idx tab_ok; (iterate 7 (exact rfl)); (first | exact patR_get (by assumption) | exact valR_get (by assumption) | exact row_map (by assumption) | assumption)) | (apply s_not_f; (iterate 4 (exact rfl))) | (apply s_lss_t; (iterate 5 (exact rfl)); omega) | (apply s_call; (iterate 6 (exact rfl)); first | (exact ha; rintro _ rfl)) | refine al_nil ?_ | refine q_then_n ?_ | refine q_blk_r ?_ | refine aw_block ?_ | refine q_then_r ?_ | refine aw_seq ?_ | refine aw_reg ?_ | refine aw_true rfl ?_ | refine aw_skip ?_ | refine aw_ret ?_ | refine aw_draws (id := 12) (trO [0, 1, 2, 3, 4, 5, 6, 7, 8, 9, 10] .nil) [9] [] mixed_ok (by kernel_rfl) ?_)
        exact q_ret rfl ⟨_, rfl, by rw [tog_pair hmem hmem2 hb]⟩
      · repeat' (first | refine s_op rfl ?_ | (apply s_move; (iterate 4 (exact rfl))) | (apply s_ld_f tab_ok; (iterate 6 (exact rfl))) | (apply s_assign; (iterate 4 (exact rfl))) | (apply s_idx tab_ok; (iterate 7 (exact rfl)); (first | exact patR_get (by assumption) | exact valR_get (by assumption) | exact row_map (by assumption) | assumption)) | (apply s_not_t; (iterate 4 (exact rfl))) | (apply s_lss_t; (iterate 5 (exact rfl)); omega) | (apply s_add64; (iterate 5 (exact rfl)); omega) | (apply s_call; (iterate 6 (exact rfl)); first | (exact ha; rintro _ rfl)) | refine al_nil ?_ | refine q_then_n ?_ | refine q_blk_n ?_ | refine aw_block ?_ | refine aw_seq ?_ | refine aw_reg ?_ | refine aw_true rfl ?_ | refine aw_false rfl ?_ | refine aw_skip ?_ | refine aw_draws (id := 12) (trO [0, 1, 2, 3, 4, 5, 6, 7, 8, 9, 10] .nil) [9] [] mixed_ok (by kernel_rfl) ?_)
        exact ⟨_, _, rfl, by omega, j + 1, rfl, by omega, rfl, fun i hi q hiq => by
          by_cases e : i = j
          · subst e; rw [hq2] at hiq; injection hiq with hiq; rw [← hiq]; exact hb
          · exact hp2 i (by omega) q hiq⟩
    have hjk : j = k := by omega
    subst hjk
    repeat' (first | refine s_op rfl ?_ | (apply s_move; (iterate 4 (exact rfl))) | (apply s_assign; (iterate 4 (exact rfl))) | (apply s_lss_f; (iterate 5 (exact rfl)); omega) | refine al_nil ?_ | refine q_then_n ?_ | refine q_blk_e ?_ | refine q_then_e ?_ | refine aw_block ?_ | refine aw_exit ?_ | refine aw_seq ?_ | refine aw_reg ?_ | refine aw_false rfl ?_)
    clear hj
    refine w_loop [1, 2, 6, 8] (fun n vs σ => ∃ f : Nat, vs = [.d (patsD l), .d (.fptr (sigD g)), .d (.v (.int .i64 (j : Int))), .d (.v (.int .i64 (f : Int)))] ∧ f ≤ pl.length ∧ n = pl.length - f ∧ ∀ i, i < f → togB g (kidsL l pn i) = true) rfl ⟨0, rfl, by omega, rfl, fun i hi => absurd hi (Nat.not_lt_zero i)⟩ ?_
    rintro n vs σ ⟨f, rfl, hf, rfl, hp3⟩ fr hfr
    cases hfr
    by_cases hfl : f < pl.length
    · have h5 : pk = 5 := by
        by_cases q : pk = 5
        · exact q
        · have : pl = [] := alone_leaf (hA _ hmem) q
          rw [this] at hfl; cases hfl
      have hlt2 := kidsL_lt (k := f) hmem h5 hfl
      have hr := ih _ hlt2 _ rfl (hl.kids pn f)
      have hkd := rkids_c l pn f (by omega) (fun p hp => Nat.le_trans (small_kids (hl.each p hp)).len hm) (by omega)
      simp only [Pat.n] at hr
      cases hb : togB g (kidsL l pn f) <;> rw [hb] at hr
      · repeat' (first | refine s_op rfl ?_ | (apply s_move; (iterate 4 (exact rfl))) | (apply s_fa_f tab_ok; (iterate 6 (exact rfl))) | (apply s_ld_f tab_ok; (iterate 6 (exact rfl))) | (apply s_assign; (iterate 4 (exact rfl))) | (apply s_len tab_ok; (iterate 5 (exact rfl))) | (apply s_idx tab_ok; (iterate 7 (exact rfl)); (first | exact patR_get (by assumption) | exact valR_get (by assumption) | exact row_map (by assumption) | assumption)) | (apply s_not_f; (iterate 4 (exact rfl))) | (apply s_lss_t; (iterate 5 (exact rfl)); omega) | (apply s_call; (iterate 6 (exact rfl)); first | (exact hr; rintro _ rfl) | (exact hkd; rintro _ rfl)) | refine al_nil ?_ | refine q_then_n ?_ | refine q_blk_r ?_ | refine aw_block ?_ | refine q_then_r ?_ | refine aw_seq ?_ | refine aw_reg ?_ | refine aw_true rfl ?_ | refine aw_skip ?_ | refine aw_ret ?_ | refine aw_draws (id := 17) (trO [0, 1, 2, 3, 4, 5, 6, 7, 8, 9, 10] .nil) [8, 9] [] mixed_ok (by kernel_rfl) ?_)
        exact q_ret rfl ⟨_, rfl, by rw [tog_kid (g := g) (m := f) hmem hfl hb]⟩
      · repeat' (first | refine s_op rfl ?_ | (apply s_move; (iterate 4 (exact rfl))) | (apply s_fa_f tab_ok; (iterate 6 (exact rfl))) | (apply s_ld_f tab_ok; (iterate 6 (exact rfl))) | (apply s_assign; (iterate 4 (exact rfl))) | (apply s_len tab_ok; (iterate 5 (exact rfl))) | (apply s_idx tab_ok; (iterate 7 (exact rfl)); (first | exact patR_get (by assumption) | exact valR_get (by assumption) | exact row_map (by assumption) | assumption)) | (apply s_not_t; (iterate 4 (exact rfl))) | (apply s_lss_t; (iterate 5 (exact rfl)); omega) | (apply s_add64; (iterate 5 (exact rfl)); omega) | (apply s_call; (iterate 6 (exact rfl)); first | (exact hr; rintro _ rfl) | (exact hkd; rintro _ rfl)) | refine al_nil ?_ | refine q_then_n ?_ | refine q_blk_n ?_ | refine aw_block ?_ | refine aw_seq ?_ | refine aw_reg ?_ | refine aw_true rfl ?_ | refine aw_false rfl ?_ | refine aw_skip ?_ | refine aw_draws (id := 17) (trO [0, 1, 2, 3, 4, 5, 6, 7, 8, 9, 10] .nil) [8, 9] [] mixed_ok (by kernel_rfl) ?_)
        exact ⟨_, _, rfl, by omega, f + 1, rfl, by omega, rfl, upto_next (p := fun i => togB g (kidsL l pn i)) hp3 hb⟩
    · repeat' (first | refine s_op rfl ?_ | (apply s_move; (iterate 4 (exact rfl))) | (apply s_fa_f tab_ok; (iterate 6 (exact rfl))) | (apply s_ld_f tab_ok; (iterate 6 (exact rfl))) | (apply s_assign; (iterate 4 (exact rfl))) | (apply s_len tab_ok; (iterate 5 (exact rfl))) | (apply s_idx tab_ok; (iterate 7 (exact rfl)); (first | exact patR_get (by assumption) | exact valR_get (by assumption) | exact row_map (by assumption) | assumption)) | (apply s_lss_f; (iterate 5 (exact rfl)); omega) | (apply s_add64; (iterate 5 (exact rfl)); omega) | refine al_nil ?_ | refine q_then_n ?_ | refine q_blk_n ?_ | refine q_blk_e ?_ | refine q_then_e ?_ | refine aw_exit ?_ | refine aw_seq ?_ | refine aw_reg ?_ | refine aw_false rfl ?_)
      exact ⟨_, _, rfl, by omega, j + 1, rfl, by omega, rfl, fun i hi p hip => by
        by_cases e : i = j
        · subst e
          rw [hq] at hip
          injection hip with hip
          rw [← hip]
          exact ⟨hp2, fun f hf => hp3 f (by simp only [Pat.l] at hf; omega)⟩
        · exact hp i (by omega) p hip⟩
  · repeat' (first | refine s_op rfl ?_ | (apply s_move; (iterate 4 (exact rfl))) | (apply s_assign; (iterate 4 (exact rfl))) | (apply s_len tab_ok; (iterate 5 (exact rfl))) | (apply s_lss_f; (iterate 5 (exact rfl)); omega) | refine al_nil ?_ | refine q_then_n ?_ | refine q_blk_e ?_ | refine q_then_e ?_ | refine aw_exit ?_ | refine aw_seq ?_ | refine aw_reg ?_ | refine aw_false rfl ?_ | refine aw_ret ?_)
    refine q_ret rfl ⟨_, rfl, ?_⟩
    rw [tog_ok hA ?_ ?_]
    · intro p hp1 q hq1
      obtain ⟨i, hi⟩ := List.getElem?_of_mem hp1
      obtain ⟨j, hj⟩ := List.getElem?_of_mem hq1
      have li := (List.getElem?_eq_some_iff.1 hi).1
      have lj := (List.getElem?_eq_some_iff.1 hj).1
      by_cases h1 : j < i
      · exact (hp i (by omega) p hi).1 j h1 q hj
      · by_cases h2 : i < j
        · rw [pair_comm]; exact (hp j (by omega) q hj).1 i h2 p hi
        · have : i = j := by omega
          subst this
          rw [hi] at hj
          injection hj with hj
          rw [hj]; exact pair_self g q
    · exact forall_get fun i p hip => (hp i (by have := (List.getElem?_eq_some_iff.1 hip).1; omega) p hip).2

set_option maxRecDepth 100000 in
theorem rnamed_c (m : Nat) (hm : m ≤ 1000000000) : ∀ p : Pat, p.small m → RunsP Try.prog 73 [.agg (patD p)] (fun v => v = .v (.bool (namedB p))) := by
  refine rec_pat fun k n i s a b c l ih hp => ?_
  have hl : l.length ≤ m := hp.1
  have e1 := patR_len l
  refine enterP 20 Try.func73 rfl (by kernel_rfl) rfl rfl rfl ?_
  repeat' (first | refine s_op rfl ?_ | (apply s_assign; (iterate 4 (exact rfl))) | (apply s_boxZ; (iterate 5 (exact rfl)); first | exact rfl | exact allD_mapd _) | refine al_nil ?_ | refine q_then_n ?_ | refine aw_block ?_ | refine aw_seq ?_ | refine aw_reg ?_)
  refine w_loop [1, 3] (fun n' vs σ => ∃ j : Nat, vs = [.d (.fptr (patD (.mk k n i s a b c l))), .d (.v (.int .i64 (j : Int)))] ∧ j ≤ l.length ∧ n' = l.length - j ∧ namedL l = namedL (l.drop j)) rfl ⟨0, rfl, by omega, rfl, rfl⟩ ?_
  rintro n' vs σ ⟨j, rfl, hj, rfl, hs⟩ fr hfr
  cases hfr
  by_cases hlt : j < l.length
  · obtain ⟨q, hq⟩ := getS hlt
    have hr := ih q (List.mem_of_getElem? hq) (Pat.small_get hp hq)
    rw [namedL_drop hq] at hs
    cases hb : namedB q <;> rw [hb] at hr hs
    · repeat' (first | refine s_op rfl ?_ | (apply s_move; (iterate 4 (exact rfl))) | (apply s_fa_f tab_ok; (iterate 6 (exact rfl))) | (apply s_ld_f tab_ok; (iterate 6 (exact rfl))) | (apply s_ld_w tab_ok; (iterate 5 (exact rfl)); (first | exact patD_len _ | exact valD_len _)) | (apply s_assign; (iterate 4 (exact rfl))) | (apply s_len tab_ok; (iterate 5 (exact rfl))) | (apply s_idx tab_ok; (iterate 7 (exact rfl)); (first | exact patR_get (by assumption) | exact valR_get (by assumption) | exact row_map (by assumption) | assumption)) | (apply s_lss_t; (iterate 5 (exact rfl)); omega) | (apply s_add64; (iterate 5 (exact rfl)); omega) | (apply s_call; (iterate 6 (exact rfl)); first | (exact hr; rintro _ rfl)) | refine al_nil ?_ | refine q_then_n ?_ | refine q_blk_n ?_ | refine aw_block ?_ | refine aw_seq ?_ | refine aw_reg ?_ | refine aw_true rfl ?_ | refine aw_false rfl ?_ | refine aw_skip ?_)
      exact ⟨_, _, rfl, by omega, j + 1, rfl, by omega, rfl, by simpa using hs⟩
    · repeat' (first | refine s_op rfl ?_ | (apply s_move; (iterate 4 (exact rfl))) | (apply s_fa_f tab_ok; (iterate 6 (exact rfl))) | (apply s_ld_f tab_ok; (iterate 6 (exact rfl))) | (apply s_ld_w tab_ok; (iterate 5 (exact rfl)); (first | exact patD_len _ | exact valD_len _)) | (apply s_assign; (iterate 4 (exact rfl))) | (apply s_len tab_ok; (iterate 5 (exact rfl))) | (apply s_idx tab_ok; (iterate 7 (exact rfl)); (first | exact patR_get (by assumption) | exact valR_get (by assumption) | exact row_map (by assumption) | assumption)) | (apply s_lss_t; (iterate 5 (exact rfl)); omega) | (apply s_call; (iterate 6 (exact rfl)); first | (exact hr; rintro _ rfl)) | refine al_nil ?_ | refine q_then_n ?_ | refine q_blk_r ?_ | refine aw_block ?_ | refine q_then_r ?_ | refine aw_seq ?_ | refine aw_reg ?_ | refine aw_true rfl ?_ | refine aw_skip ?_ | refine aw_ret ?_)
      exact q_ret rfl ⟨_, rfl, by simp [namedB, hs]⟩
  · have : l.drop j = [] := List.drop_eq_nil_of_le (by omega)
    rw [this] at hs
    by_cases h1 : k = 1
    · repeat' (first | refine s_op rfl ?_ | (apply s_move; (iterate 4 (exact rfl))) | (apply s_fa_f tab_ok; (iterate 6 (exact rfl))) | (apply s_ld_f tab_ok; (iterate 6 (exact rfl))) | (apply s_assign; (iterate 4 (exact rfl))) | (apply s_len tab_ok; (iterate 5 (exact rfl))) | (apply s_eql_t; (iterate 5 (exact rfl)); omega) | (apply s_lss_f; (iterate 5 (exact rfl)); omega) | refine al_nil ?_ | refine q_then_n ?_ | refine q_blk_e ?_ | refine q_then_e ?_ | refine aw_exit ?_ | refine aw_seq ?_ | refine aw_reg ?_ | refine aw_false rfl ?_ | refine aw_ret ?_)
      exact q_ret rfl ⟨_, rfl, by simp [namedB, h1]⟩
    · repeat' (first | refine s_op rfl ?_ | (apply s_move; (iterate 4 (exact rfl))) | (apply s_fa_f tab_ok; (iterate 6 (exact rfl))) | (apply s_ld_f tab_ok; (iterate 6 (exact rfl))) | (apply s_assign; (iterate 4 (exact rfl))) | (apply s_len tab_ok; (iterate 5 (exact rfl))) | (apply s_eql_f; (iterate 5 (exact rfl)); omega) | (apply s_lss_f; (iterate 5 (exact rfl)); omega) | refine al_nil ?_ | refine q_then_n ?_ | refine q_blk_e ?_ | refine q_then_e ?_ | refine aw_exit ?_ | refine aw_seq ?_ | refine aw_reg ?_ | refine aw_false rfl ?_ | refine aw_ret ?_)
      exact q_ret rfl ⟨_, rfl, by simp [namedB, hs, namedL, h1]⟩

theorem replicate_next {α : Type} (x : α) (k : Nat) : List.replicate k x ++ [x] = List.replicate (k + 1) x := by rw [List.replicate_succ']

set_option maxRecDepth 100000 in
theorem ranys_c (n : Nat) (hn : n ≤ 1000000000) : RunsP Try.prog 122 [.v (.int .i64 (n : Int))] (fun v => v = patsD (anysL n)) := by
  refine RunsP.weak ((RunsP.ofOwn (rows := List.replicate n rowNil) ?_).mono fun v h => h ▸ wk_anys n)
  refine enter 15 Try.func122 rfl (by kernel_rfl) rfl rfl rfl ?_
  repeat' (first | refine s_op rfl ?_ | (apply s_assign; (iterate 4 (exact rfl))) | refine al_nil ?_ | refine q_then_n ?_ | refine aw_block ?_ | refine aw_seq ?_ | refine aw_reg ?_)
  refine w_adoptF 3 41 8 rfl ?_
  intro loc σ hc
  refine w_loop [0, 3, 4] (fun n' vs σ => ∃ k ver : Nat, vs = [.d (.v (.int .i64 (n : Int))), .own loc ver 8 0 (List.replicate k rowNil).length, .d (.v (.int .i64 (k : Int)))] ∧ σ[loc]? = some (.arr 41 8 ver (List.replicate k rowNil)) ∧ k ≤ n ∧ n' = n - k) rfl ⟨0, 0, rfl, hc.at', by omega, rfl⟩ ?_
  clear hc
  rintro n' vs σ ⟨k, ver, rfl, hA, hk, rfl⟩ fr hfr
  cases hfr
  by_cases hlt : k < n
  · repeat' (first | refine s_op rfl ?_ | (apply s_move; (iterate 4 (exact rfl))) | (apply s_assign; (iterate 4 (exact rfl))) | (apply s_build tabZ_ok; (iterate 5 (exact rfl))) | (apply s_lit tab_ok tabZ_ok; (iterate 10 (exact rfl))) | (apply s_lss_t; (iterate 5 (exact rfl)); omega) | (apply s_add64; (iterate 5 (exact rfl)); omega) | (apply s_appF tab_ok tabZ_ok (rows2 := [rowNil]) (rows3 := List.replicate (k + 1) rowNil) (m := (List.replicate (k + 1) rowNil).length); (iterate 10 (exact rfl)); exact hA; exact src_of (Tab.slIs tab_ok (t := 26) rfl) (rows_d rfl); exact replicate_next _ _; (simp; omega); intro σ hc; replace hA := hc.at'; clear hc) | refine al_nil ?_ | refine q_then_n ?_ | refine q_blk_n ?_ | refine aw_block ?_ | refine aw_seq ?_ | refine aw_reg ?_ | refine aw_true rfl ?_ | refine aw_skip ?_)
    exact ⟨_, _, rfl, by omega, k + 1, _, rfl, hA, by omega, rfl⟩
  · have : k = n := by omega
    subst this
    repeat' (first | refine s_op rfl ?_ | (apply s_move; (iterate 4 (exact rfl))) | (apply s_assign; (iterate 4 (exact rfl))) | (apply s_lss_f; (iterate 5 (exact rfl)); omega) | refine al_nil ?_ | refine q_then_n ?_ | refine q_blk_e ?_ | refine q_then_e ?_ | refine aw_exit ?_ | refine aw_seq ?_ | refine aw_reg ?_ | refine aw_false rfl ?_ | refine aw_ret ?_)
    exact q_ret rfl ⟨loc, ver, 41, rfl, hA⟩

end Go.Proofs.Ytjflembhgjcgkaa

/- C15: anys, of the program. -/
-- ALLUNDEF -- BOXZ
namespace Go.Proofs.Ytjflembhgjcgkaa
open Go.RowKit

theorem set_next {α : Type} (x y : α) (k n : Nat) (h : k < n) : (List.replicate k y ++ List.replicate (n - k) x).set k y = List.replicate (k + 1) y ++ List.replicate (n - (k + 1)) x := by
  rw [List.set_append_right _ _ (by simp)]
  obtain ⟨r, hr⟩ : ∃ r, n - k = r + 1 := ⟨n - k - 1, by omega⟩
  rw [hr, List.replicate_succ, show n - (k + 1) = r by omega, ← replicate_next]
  simp

theorem get_next {α : Type} (x y : α) (k n : Nat) (h : k < n) : (List.replicate k y ++ List.replicate (n - k) x)[k]? = some x := by
  rw [List.getElem?_append_right (by simp), List.length_replicate, Nat.sub_self, List.getElem?_replicate, if_pos (by omega)]
set_option maxRecDepth 100000 in
theorem anys_c (n : Nat) (hn : n ≤ 1000000000) : RunsP Try.prog 65 [.v (.int .i64 (n : Int))] (fun v => v = patsD (anysL n)) := by
  refine RunsP.weak ((RunsP.ofOwn (rows := List.replicate n (rowVnil 2)) ?_).mono fun v h => h ▸ wk_vanys n)
  refine enter 18 Try.func65 rfl (by kernel_rfl) rfl rfl rfl ?_
  repeat' (first | refine s_op rfl ?_ | (apply s_move; (iterate 4 (exact rfl))) | (apply s_assign; (iterate 4 (exact rfl))) | (apply s_len tab_ok; (iterate 5 (exact rfl))) | (apply s_makeSliceF tab_ok tabZ_ok n; (iterate 11 (exact rfl)); exact ⟨by omega, rfl⟩; intro loc σ hc) | refine al_nil ?_ | refine q_then_n ?_ | refine aw_block ?_ | refine aw_seq ?_ | refine aw_reg ?_)
  refine w_loop [3, 8, 9] (fun n' vs σ => ∃ k : Nat, vs = [.own loc 0 8 0 n, .d (.v (.int .i64 (n : Int))), .d (.v (.int .i64 (k : Int)))] ∧ σ[loc]? = some (.arr 41 8 0 (List.replicate k (rowVnil 2) ++ List.replicate (n - k) (rowVnil 0))) ∧ k ≤ n ∧ n' = n - k) rfl ⟨0, rfl, hc.at', by omega, rfl⟩ ?_
  clear hc
  rintro n' vs σ ⟨k, rfl, hA, hk, rfl⟩ fr hfr
  cases hfr
  by_cases hlt : k < n
  · repeat' (first | refine s_op rfl ?_ | (apply s_move; (iterate 4 (exact rfl))) | (apply s_fa_p tab_ok; (iterate 5 (exact rfl))) | (apply s_assign; (iterate 4 (exact rfl))) | (apply s_lss_t; (iterate 5 (exact rfl)); omega) | (apply s_add64; (iterate 5 (exact rfl)); omega) | (apply s_idxO (k * 8) tab_ok; (iterate 7 (exact rfl)); exact hA; exact ⟨by omega, by omega⟩) | (apply s_stA k 0 tab_ok (r := rowVnil 0); (iterate 8 (exact rfl)); exact hA; exact get_next _ _ _ _ hlt; omega; omega; exact set_next _ _ _ _ hlt; intro σ hc; replace hA := hc.at'; clear hc) | refine al_nil ?_ | refine q_then_n ?_ | refine q_blk_n ?_ | refine aw_block ?_ | refine aw_seq ?_ | refine aw_reg ?_ | refine aw_true rfl ?_ | refine aw_skip ?_)
    exact ⟨_, _, rfl, by omega, k + 1, rfl, hA, by omega, rfl⟩
  · have : k = n := by omega
    subst this
    repeat' (first | refine s_op rfl ?_ | (apply s_move; (iterate 4 (exact rfl))) | (apply s_assign; (iterate 4 (exact rfl))) | (apply s_lss_f; (iterate 5 (exact rfl)); omega) | refine al_nil ?_ | refine q_then_n ?_ | refine q_blk_e ?_ | refine q_then_e ?_ | refine aw_exit ?_ | refine aw_seq ?_ | refine aw_reg ?_ | refine aw_false rfl ?_ | refine aw_ret ?_)
    refine q_ret rfl ⟨loc, 0, 41, ?_, ?_⟩
    · rw [List.length_replicate]; rfl
    · rw [hA]; simp
end Go.Proofs.Ytjflembhgjcgkaa
