/- C43: May, Asks, There, of the document's tree. -/
import Derived.Test.YtjflembhgjcgkaaC39
import Derived.Test.YtjflembhgjcgkaaXC3C4
import Derived.Test.YtjflembhgjcgkaaXM1M11C1
set_option linter.unusedSimpArgs false
set_option linter.unusedVariables false
-- ALLUNDEF -- BOXZ
-- LEN: askD_len patD_len valD_len rowTD_len brD_len treeD_len factD_len
-- ROW: patR_get valR_get row_map brR_get treeR_get facts_get
-- DEF ALF: (apply s_allocF tabZ_ok (d := 7); (iterate 6 (exact rfl)); intro locF σ hc; have hF := hc.at'; clear hc)
-- DEF STF: (apply s_storeF tab_ok; (iterate 7 (exact rfl)); exact hF; (iterate 2 (exact rfl)); intro σ hc; replace hF := hc.at'; clear hc)
-- DEF LDF: (apply s_ldF tab_ok; (iterate 5 (exact rfl)); exact hF; exact rfl)
namespace Go.Proofs.Ytjflembhgjcgkaa
open Go.RowKit

def rowZ : List DV := [.v (.int .u8 0), .v (.int .i64 0), .v (.int .i64 0), .v (.string ⟨#[]⟩), .v (.int .i64 0), .v (.int .i64 0), .v (.int .i64 0), .nil]
structure FOk (L : List FactT) : Prop where
  len : L.length ≤ 1000000
  each : ∀ f ∈ L, f.path.length ≤ 1000000000 ∧ f.no.length ≤ 1000000000000
theorem FOk.known {L : List FactT} (h : FOk L) {path : List Int} (hp : path.length ≤ 1000000000) : RunsP Try.prog 109 [factsD L, intsD path] (fun v => v = knownD (knownF L path)) :=
  known109_c L path (by have := h.len; omega) (by omega) fun f hf => by have := (h.each f hf).1; omega
theorem known_mem {L : List FactT} {path : List Int} {f : FactT} (h : knownF L path = some f) : f ∈ L ∧ f.path = path := ⟨List.mem_of_find?_eq_some h, by have := List.find?_some h; simpa using this⟩
theorem mayL_drop {L : List FactT} {l : List Pat} {k : Nat} {p : Pat} {path : List Int} (h : l[k]? = some p) : mayL L (l.drop k) path k = (mayF L p (path ++ [(k : Int)]) && mayL L (l.drop (k + 1)) path (k + 1)) := by
  rw [drop_get h, mayL]
theorem asksL_drop {L : List FactT} {l : List Pat} {k : Nat} {p : Pat} {path : List Int} (h : l[k]? = some p) : asksL L (l.drop k) path k = (asksF L p (path ++ [(k : Int)])).or (asksL L (l.drop (k + 1)) path (k + 1)) := by
  rw [drop_get h, asksL]
  cases asksF L p (path ++ [(k : Int)]) <;> rfl

section
variable {L : List FactT} {k n i a b c : Int} {s : ByteArray} {l : List Pat} {path : List Int}
set_option maxRecDepth 100000 in
theorem may87_open (o : RunsP Try.prog 75 [.agg (patD (.mk k n i s a b c l))] (fun v => v = .v (.bool true))) : RunsP Try.prog 87 [factsD L, .agg (patD (.mk k n i s a b c l)), intsD path] (fun v => v = .v (.bool true)) := by
  refine enterPB 64 tab_ok Try.func87 rfl (by kernel_rfl) rfl rfl rfl ?_
  repeat' (first | refine s_op rfl ?_ | (apply s_ld_f tab_ok; (iterate 6 (exact rfl))) | (apply s_assign; (iterate 4 (exact rfl))) | (apply s_boxZ; (iterate 5 (exact rfl)); first | exact rfl | exact allD_mapd _) | (apply s_call; (iterate 6 (exact rfl)); first | (exact o; rintro _ rfl)) | refine al_nil ?_ | refine q_then_n ?_ | refine q_then_r ?_ | refine aw_seq ?_ | refine aw_reg ?_ | refine aw_true rfl ?_ | refine aw_ret ?_)
  all_goals exact q_retB (resB_1 rfl (resV_t rfl)) ⟨_, rfl, rfl⟩
set_option maxRecDepth 100000 in
theorem may87_un (o : RunsP Try.prog 75 [.agg (patD (.mk k n i s a b c l))] (fun v => v = .v (.bool false))) (hk : RunsP Try.prog 109 [factsD L, intsD path] (fun v => v = knownD none)) : RunsP Try.prog 87 [factsD L, .agg (patD (.mk k n i s a b c l)), intsD path] (fun v => v = .v (.bool true)) := by
  unfold knownD at hk
  refine enterPB 64 tab_ok Try.func87 rfl (by kernel_rfl) rfl rfl rfl ?_
  repeat' (first | refine s_op rfl ?_ | (apply s_move; (iterate 4 (exact rfl))) | (apply s_ld_f tab_ok; (iterate 6 (exact rfl))) | (apply s_assign; (iterate 4 (exact rfl))) | (apply s_ext; (iterate 5 (exact rfl))) | (apply s_boxZ; (iterate 5 (exact rfl)); first | exact rfl | exact allD_mapd _) | (apply s_not_f; (iterate 4 (exact rfl))) | (apply s_allocF tabZ_ok (d := 7); (iterate 6 (exact rfl)); intro locF σ hc; have hF := hc.at'; clear hc) | (apply s_storeF tab_ok; (iterate 7 (exact rfl)); exact hF; (iterate 2 (exact rfl)); intro σ hc; replace hF := hc.at'; clear hc) | (apply s_call; (iterate 6 (exact rfl)); first | (exact o; rintro _ rfl) | (exact hk; rintro _ rfl)) | refine al_nil ?_ | refine q_then_n ?_ | refine q_then_r ?_ | refine aw_seq ?_ | refine aw_reg ?_ | refine aw_true rfl ?_ | refine aw_false rfl ?_ | refine aw_skip ?_ | refine aw_ret ?_)
  all_goals exact q_retB (resB_1 rfl (resV_t rfl)) ⟨_, rfl, rfl⟩
set_option maxRecDepth 100000 in
set_option maxHeartbeats 4000000 in
theorem may87_fact (o : RunsP Try.prog 75 [.agg (patD (.mk k n i s a b c l))] (fun v => v = .v (.bool false))) {f : FactT} (hk : RunsP Try.prog 109 [factsD L, intsD path] (fun v => v = knownD (some f))) (hfl : f.no.length ≤ 1000000000000) (hl : l.length ≤ 1000000000) (hp : path.length ≤ 10000000)
    (ih : ∀ (j : Nat) (q : Pat), l[j]? = some q → RunsP Try.prog 87 [factsD L, .agg (patD q), intsD (path ++ [(j : Int)])] (fun v => v = .v (.bool (mayF L q (path ++ [(j : Int)]))))) :
    RunsP Try.prog 87 [factsD L, .agg (patD (.mk k n i s a b c l)), intsD path] (fun v => v = .v (.bool (factB f (.mk k n i s a b c l) && mayL L l path 0))) := by
  obtain ⟨fp, ⟨gk, gn, gi, gs, ga, gb, gc, gl⟩, fn⟩ := f
  have hfl : fn.length ≤ 1000000000000 := hfl
  unfold knownD factD at hk
  simp only at hk
  have e1 := patR_len l
  have e2 := patR_len fn
  refine enterPB 64 tab_ok Try.func87 rfl (by kernel_rfl) rfl rfl rfl ?_
  repeat' (first | refine s_op rfl ?_ | (apply s_move; (iterate 4 (exact rfl))) | (apply s_ld_f tab_ok; (iterate 6 (exact rfl))) | (apply s_assign; (iterate 4 (exact rfl))) | (apply s_ext; (iterate 5 (exact rfl))) | (apply s_boxZ; (iterate 5 (exact rfl)); first | exact rfl | exact allD_mapd _) | (apply s_not_t; (iterate 4 (exact rfl))) | (apply s_allocF tabZ_ok (d := 7); (iterate 6 (exact rfl)); intro locF σ hc; have hF := hc.at'; clear hc) | (apply s_storeF tab_ok; (iterate 7 (exact rfl)); exact hF; (iterate 2 (exact rfl)); intro σ hc; replace hF := hc.at'; clear hc) | (apply s_call; (iterate 6 (exact rfl)); first | (exact o; rintro _ rfl) | (exact hk; rintro _ rfl)) | refine al_nil ?_ | refine q_then_n ?_ | refine aw_block ?_ | refine aw_seq ?_ | refine aw_reg ?_ | refine aw_false rfl ?_ | refine aw_skip ?_)
  refine w_loop [0, 2, 4, 7, 9] (fun n0 vs σ => ∃ j : Nat, vs = [.d (factsD L), .d (intsD path), .d (.fptr (patD (.mk k n i s a b c l))), .ptr locF 0 0, .d (.v (.int .i64 (j : Int)))] ∧ σ[locF]? = some (.row 146 ((factD ⟨fp, .mk gk gn gi gs ga gb gc gl, fn⟩).map .d)) ∧ j ≤ fn.length ∧ n0 = fn.length - j ∧ (fn.take j).any (fun q => isB q (.mk k n i s a b c l)) = false) rfl ⟨0, rfl, hF, by omega, rfl, by simp⟩ ?_
  clear hF
  rintro n0 vs σ ⟨j, rfl, hF, hj, rfl, hany⟩ fr hfr
  cases hfr
  by_cases hlt : j < fn.length
  · obtain ⟨q, hq⟩ := getS hlt
    have hr := alike_c q (.mk k n i s a b c l)
    cases hb : isB q (.mk k n i s a b c l) <;> rw [hb] at hr
    · repeat' (first | refine s_op rfl ?_ | (apply s_move; (iterate 4 (exact rfl))) | (apply s_fa_p tab_ok; (iterate 5 (exact rfl))) | (apply s_ld_f tab_ok; (iterate 6 (exact rfl))) | (apply s_ld_w tab_ok; (iterate 5 (exact rfl)); (first | exact askD_len _ | exact patD_len _ | exact valD_len _ | exact rowTD_len _ | exact brD_len _ | exact treeD_len _ | exact factD_len _)) | (apply s_assign; (iterate 4 (exact rfl))) | (apply s_len tab_ok; (iterate 5 (exact rfl))) | (apply s_idx tab_ok; (iterate 7 (exact rfl)); (first | exact patR_get (by assumption) | exact valR_get (by assumption) | exact row_map (by assumption) | exact brR_get (by assumption) | exact treeR_get (by assumption) | exact facts_get (by assumption) | assumption)) | (apply s_lss_t; (iterate 5 (exact rfl)); omega) | (apply s_add64; (iterate 5 (exact rfl)); omega) | (apply s_ldF tab_ok; (iterate 5 (exact rfl)); exact hF; exact rfl) | (apply s_call; (iterate 6 (exact rfl)); first | (exact hr; rintro _ rfl)) | refine al_nil ?_ | refine q_then_n ?_ | refine q_blk_n ?_ | refine aw_block ?_ | refine aw_seq ?_ | refine aw_reg ?_ | refine aw_true rfl ?_ | refine aw_false rfl ?_ | refine aw_skip ?_ | refine aw_draws (id := 9) (trO [0, 1, 2, 3, 4, 5, 6] .nil) [6] [] mixed_ok (by kernel_rfl) ?_)
      all_goals exact ⟨_, _, rfl, by omega, j + 1, rfl, hF, by omega, rfl, any_take hany hq hb⟩
    · have hfb : factB ⟨fp, .mk gk gn gi gs ga gb gc gl, fn⟩ (.mk k n i s a b c l) = false := by
        unfold factB
        have : fn.any (fun q => isB q (.mk k n i s a b c l)) = true := List.any_eq_true.2 ⟨q, List.mem_of_getElem? hq, hb⟩
        simp only [this]; rfl
      repeat' (first | refine s_op rfl ?_ | (apply s_move; (iterate 4 (exact rfl))) | (apply s_fa_p tab_ok; (iterate 5 (exact rfl))) | (apply s_ld_f tab_ok; (iterate 6 (exact rfl))) | (apply s_ld_w tab_ok; (iterate 5 (exact rfl)); (first | exact askD_len _ | exact patD_len _ | exact valD_len _ | exact rowTD_len _ | exact brD_len _ | exact treeD_len _ | exact factD_len _)) | (apply s_assign; (iterate 4 (exact rfl))) | (apply s_len tab_ok; (iterate 5 (exact rfl))) | (apply s_idx tab_ok; (iterate 7 (exact rfl)); (first | exact patR_get (by assumption) | exact valR_get (by assumption) | exact row_map (by assumption) | exact brR_get (by assumption) | exact treeR_get (by assumption) | exact facts_get (by assumption) | assumption)) | (apply s_lss_t; (iterate 5 (exact rfl)); omega) | (apply s_ldF tab_ok; (iterate 5 (exact rfl)); exact hF; exact rfl) | (apply s_call; (iterate 6 (exact rfl)); first | (exact hr; rintro _ rfl)) | refine al_nil ?_ | refine q_then_n ?_ | refine q_blk_r ?_ | refine aw_block ?_ | refine q_then_r ?_ | refine aw_seq ?_ | refine aw_reg ?_ | refine aw_true rfl ?_ | refine aw_skip ?_ | refine aw_ret ?_ | refine aw_draws (id := 9) (trO [0, 1, 2, 3, 4, 5, 6] .nil) [6] [] mixed_ok (by kernel_rfl) ?_)
      all_goals exact q_retB (resB_1 rfl (resV_t rfl)) ⟨_, rfl, by rw [hfb]; rfl⟩
  · rw [List.take_of_length_le (by omega)] at hany
    have hr := alike_c (.mk gk gn gi gs ga gb gc gl) (.mk k n i s a b c l)
    have loop : factB ⟨fp, .mk gk gn gi gs ga gb gc gl, fn⟩ (.mk k n i s a b c l) = true → ∀ (locF : Nat) (σ : List AObj), True := fun _ _ _ => trivial
    by_cases hne : fn.length = 0
    · have hfe : fn = [] := List.length_eq_zero_iff.1 hne
      cases hb : isB (.mk gk gn gi gs ga gb gc gl) (.mk k n i s a b c l) <;> rw [hb] at hr
      · have hfb : factB ⟨fp, .mk gk gn gi gs ga gb gc gl, fn⟩ (.mk k n i s a b c l) = false := by
          unfold factB; rw [hfe]; simp [hb]
        repeat' (first | refine s_op rfl ?_ | (apply s_move; (iterate 4 (exact rfl))) | (apply s_fa_p tab_ok; (iterate 5 (exact rfl))) | (apply s_ld_f tab_ok; (iterate 6 (exact rfl))) | (apply s_assign; (iterate 4 (exact rfl))) | (apply s_pick_t; (iterate 5 (exact rfl))) | (apply s_len tab_ok; (iterate 5 (exact rfl))) | (apply s_not_f; (iterate 4 (exact rfl))) | (apply s_eql_t; (iterate 5 (exact rfl)); omega) | (apply s_lss_f; (iterate 5 (exact rfl)); omega) | (apply s_ldF tab_ok; (iterate 5 (exact rfl)); exact hF; exact rfl) | (apply s_call; (iterate 6 (exact rfl)); first | (exact hr; rintro _ rfl)) | refine al_nil ?_ | refine q_then_n ?_ | refine q_blk_e ?_ | refine q_then_e ?_ | refine aw_exit ?_ | refine q_then_r ?_ | refine aw_seq ?_ | refine aw_reg ?_ | refine aw_true rfl ?_ | refine aw_false rfl ?_ | refine aw_ret ?_)
        all_goals exact q_retB (resB_1 rfl (resV_t rfl)) ⟨_, rfl, by rw [hfb]; rfl⟩
      · have hfb : factB ⟨fp, .mk gk gn gi gs ga gb gc gl, fn⟩ (.mk k n i s a b c l) = true := by
          unfold factB; rw [hfe]; simp [hb]
        rw [hfb, Bool.true_and]
        repeat' (first | refine s_op rfl ?_ | (apply s_move; (iterate 4 (exact rfl))) | (apply s_fa_p tab_ok; (iterate 5 (exact rfl))) | (apply s_ld_f tab_ok; (iterate 6 (exact rfl))) | (apply s_assign; (iterate 4 (exact rfl))) | (apply s_pick_t; (iterate 5 (exact rfl))) | (apply s_len tab_ok; (iterate 5 (exact rfl))) | (apply s_not_t; (iterate 4 (exact rfl))) | (apply s_eql_t; (iterate 5 (exact rfl)); omega) | (apply s_lss_f; (iterate 5 (exact rfl)); omega) | (apply s_ldF tab_ok; (iterate 5 (exact rfl)); exact hF; exact rfl) | (apply s_call; (iterate 6 (exact rfl)); first | (exact hr; rintro _ rfl)) | refine al_nil ?_ | refine q_then_n ?_ | refine q_blk_e ?_ | refine q_then_e ?_ | refine aw_block ?_ | refine aw_exit ?_ | refine aw_seq ?_ | refine aw_reg ?_ | refine aw_false rfl ?_ | refine aw_skip ?_)
        refine w_loop [0, 2, 4, 10] (fun n0 vs σ => ∃ j : Nat, vs = [.d (factsD L), .d (intsD path), .d (.fptr (patD (.mk k n i s a b c l))), .d (.v (.int .i64 (j : Int)))] ∧ j ≤ l.length ∧ n0 = l.length - j ∧ mayL L l path 0 = mayL L (l.drop j) path j) rfl ⟨0, rfl, by omega, rfl, rfl⟩ ?_
        clear hF
        rintro n0 vs σ ⟨j, rfl, hj, rfl, hs⟩ fr hfr
        cases hfr
        by_cases hlt : j < l.length
        · obtain ⟨q, hq⟩ := getS hlt
          have h1 := ih j q hq
          have h2 := below59_c path (j : Int) (by omega)
          rw [mayL_drop hq] at hs
          cases hm : mayF L q (path ++ [(j : Int)]) <;> rw [hm] at h1 hs
          · repeat' (first | refine s_op rfl ?_ | (apply s_move; (iterate 4 (exact rfl))) | (apply s_fa_f tab_ok; (iterate 6 (exact rfl))) | (apply s_ld_f tab_ok; (iterate 6 (exact rfl))) | (apply s_ld_w tab_ok; (iterate 5 (exact rfl)); (first | exact askD_len _ | exact patD_len _ | exact valD_len _ | exact rowTD_len _ | exact brD_len _ | exact treeD_len _ | exact factD_len _)) | (apply s_assign; (iterate 4 (exact rfl))) | (apply s_len tab_ok; (iterate 5 (exact rfl))) | (apply s_idx tab_ok; (iterate 7 (exact rfl)); (first | exact patR_get (by assumption) | exact valR_get (by assumption) | exact row_map (by assumption) | exact brR_get (by assumption) | exact treeR_get (by assumption) | exact facts_get (by assumption) | assumption)) | (apply s_not_f; (iterate 4 (exact rfl))) | (apply s_lss_t; (iterate 5 (exact rfl)); omega) | (apply s_call; (iterate 6 (exact rfl)); first | (exact h2; rintro _ rfl) | (exact h1; rintro _ rfl)) | refine al_nil ?_ | refine q_then_n ?_ | refine q_blk_r ?_ | refine aw_block ?_ | refine q_then_r ?_ | refine aw_seq ?_ | refine aw_reg ?_ | refine aw_true rfl ?_ | refine aw_skip ?_ | refine aw_ret ?_ | refine aw_draws (id := 16) (trO [0, 1, 2, 3, 4, 5, 6, 7, 8, 9, 10] .nil) [8, 9] [] mixed_ok (by kernel_rfl) ?_)
            all_goals exact q_retB (resB_1 rfl (resV_t rfl)) ⟨_, rfl, by rw [hs]; rfl⟩
          · repeat' (first | refine s_op rfl ?_ | (apply s_move; (iterate 4 (exact rfl))) | (apply s_fa_f tab_ok; (iterate 6 (exact rfl))) | (apply s_ld_f tab_ok; (iterate 6 (exact rfl))) | (apply s_ld_w tab_ok; (iterate 5 (exact rfl)); (first | exact askD_len _ | exact patD_len _ | exact valD_len _ | exact rowTD_len _ | exact brD_len _ | exact treeD_len _ | exact factD_len _)) | (apply s_assign; (iterate 4 (exact rfl))) | (apply s_len tab_ok; (iterate 5 (exact rfl))) | (apply s_idx tab_ok; (iterate 7 (exact rfl)); (first | exact patR_get (by assumption) | exact valR_get (by assumption) | exact row_map (by assumption) | exact brR_get (by assumption) | exact treeR_get (by assumption) | exact facts_get (by assumption) | assumption)) | (apply s_not_t; (iterate 4 (exact rfl))) | (apply s_lss_t; (iterate 5 (exact rfl)); omega) | (apply s_add64; (iterate 5 (exact rfl)); omega) | (apply s_call; (iterate 6 (exact rfl)); first | (exact h2; rintro _ rfl) | (exact h1; rintro _ rfl)) | refine al_nil ?_ | refine q_then_n ?_ | refine q_blk_n ?_ | refine aw_block ?_ | refine aw_seq ?_ | refine aw_reg ?_ | refine aw_true rfl ?_ | refine aw_false rfl ?_ | refine aw_skip ?_ | refine aw_draws (id := 16) (trO [0, 1, 2, 3, 4, 5, 6, 7, 8, 9, 10] .nil) [8, 9] [] mixed_ok (by kernel_rfl) ?_)
            all_goals exact ⟨_, _, rfl, by omega, j + 1, rfl, by omega, rfl, by simpa using hs⟩
        · have hd : l.drop j = [] := List.drop_eq_nil_of_le (by omega)
          rw [hd] at hs
          repeat' (first | refine s_op rfl ?_ | (apply s_move; (iterate 4 (exact rfl))) | (apply s_fa_f tab_ok; (iterate 6 (exact rfl))) | (apply s_ld_f tab_ok; (iterate 6 (exact rfl))) | (apply s_assign; (iterate 4 (exact rfl))) | (apply s_len tab_ok; (iterate 5 (exact rfl))) | (apply s_lss_f; (iterate 5 (exact rfl)); omega) | refine al_nil ?_ | refine q_then_n ?_ | refine q_blk_e ?_ | refine q_then_e ?_ | refine aw_exit ?_ | refine aw_seq ?_ | refine aw_reg ?_ | refine aw_false rfl ?_ | refine aw_ret ?_)
          all_goals exact q_retB (resB_1 rfl (resV_t rfl)) ⟨_, rfl, by rw [hs]; rfl⟩
    · have hfe : fn.isEmpty = false := by cases fn with | nil => exact absurd rfl hne | cons _ _ => rfl
      have hfb : factB ⟨fp, .mk gk gn gi gs ga gb gc gl, fn⟩ (.mk k n i s a b c l) = true := by
        unfold factB; simp only [hany, hfe]; rfl
      rw [hfb, Bool.true_and]
      repeat' (first | refine s_op rfl ?_ | (apply s_skipV; (iterate 2 (exact rfl))) | (apply s_move; (iterate 4 (exact rfl))) | (apply s_fa_p tab_ok; (iterate 5 (exact rfl))) | (apply s_assign; (iterate 4 (exact rfl))) | (apply s_pick_f; (iterate 5 (exact rfl))) | (apply s_len tab_ok; (iterate 5 (exact rfl))) | (apply s_eql_f; (iterate 5 (exact rfl)); omega) | (apply s_lss_f; (iterate 5 (exact rfl)); omega) | (apply s_ldF tab_ok; (iterate 5 (exact rfl)); exact hF; exact rfl) | refine al_nil ?_ | refine q_then_n ?_ | refine q_blk_e ?_ | refine q_then_e ?_ | refine aw_block ?_ | refine aw_exit ?_ | refine aw_seq ?_ | refine aw_reg ?_ | refine aw_false rfl ?_ | refine aw_skip ?_)
      refine w_loop [0, 2, 4, 10] (fun n0 vs σ => ∃ j : Nat, vs = [.d (factsD L), .d (intsD path), .d (.fptr (patD (.mk k n i s a b c l))), .d (.v (.int .i64 (j : Int)))] ∧ j ≤ l.length ∧ n0 = l.length - j ∧ mayL L l path 0 = mayL L (l.drop j) path j) rfl ⟨0, rfl, by omega, rfl, rfl⟩ ?_
      clear hF
      rintro n0 vs σ ⟨j, rfl, hj, rfl, hs⟩ fr hfr
      cases hfr
      by_cases hlt : j < l.length
      · obtain ⟨q, hq⟩ := getS hlt
        have h1 := ih j q hq
        have h2 := below59_c path (j : Int) (by omega)
        rw [mayL_drop hq] at hs
        cases hm : mayF L q (path ++ [(j : Int)]) <;> rw [hm] at h1 hs
        · repeat' (first | refine s_op rfl ?_ | (apply s_move; (iterate 4 (exact rfl))) | (apply s_fa_f tab_ok; (iterate 6 (exact rfl))) | (apply s_ld_f tab_ok; (iterate 6 (exact rfl))) | (apply s_ld_w tab_ok; (iterate 5 (exact rfl)); (first | exact askD_len _ | exact patD_len _ | exact valD_len _ | exact rowTD_len _ | exact brD_len _ | exact treeD_len _ | exact factD_len _)) | (apply s_assign; (iterate 4 (exact rfl))) | (apply s_len tab_ok; (iterate 5 (exact rfl))) | (apply s_idx tab_ok; (iterate 7 (exact rfl)); (first | exact patR_get (by assumption) | exact valR_get (by assumption) | exact row_map (by assumption) | exact brR_get (by assumption) | exact treeR_get (by assumption) | exact facts_get (by assumption) | assumption)) | (apply s_not_f; (iterate 4 (exact rfl))) | (apply s_lss_t; (iterate 5 (exact rfl)); omega) | (apply s_call; (iterate 6 (exact rfl)); first | (exact h2; rintro _ rfl) | (exact h1; rintro _ rfl)) | refine al_nil ?_ | refine q_then_n ?_ | refine q_blk_r ?_ | refine aw_block ?_ | refine q_then_r ?_ | refine aw_seq ?_ | refine aw_reg ?_ | refine aw_true rfl ?_ | refine aw_skip ?_ | refine aw_ret ?_ | refine aw_draws (id := 16) (trO [0, 1, 2, 3, 4, 5, 6, 7, 8, 9, 10] .nil) [8, 9] [] mixed_ok (by kernel_rfl) ?_)
          all_goals exact q_retB (resB_1 rfl (resV_t rfl)) ⟨_, rfl, by rw [hs]; rfl⟩
        · repeat' (first | refine s_op rfl ?_ | (apply s_move; (iterate 4 (exact rfl))) | (apply s_fa_f tab_ok; (iterate 6 (exact rfl))) | (apply s_ld_f tab_ok; (iterate 6 (exact rfl))) | (apply s_ld_w tab_ok; (iterate 5 (exact rfl)); (first | exact askD_len _ | exact patD_len _ | exact valD_len _ | exact rowTD_len _ | exact brD_len _ | exact treeD_len _ | exact factD_len _)) | (apply s_assign; (iterate 4 (exact rfl))) | (apply s_len tab_ok; (iterate 5 (exact rfl))) | (apply s_idx tab_ok; (iterate 7 (exact rfl)); (first | exact patR_get (by assumption) | exact valR_get (by assumption) | exact row_map (by assumption) | exact brR_get (by assumption) | exact treeR_get (by assumption) | exact facts_get (by assumption) | assumption)) | (apply s_not_t; (iterate 4 (exact rfl))) | (apply s_lss_t; (iterate 5 (exact rfl)); omega) | (apply s_add64; (iterate 5 (exact rfl)); omega) | (apply s_call; (iterate 6 (exact rfl)); first | (exact h2; rintro _ rfl) | (exact h1; rintro _ rfl)) | refine al_nil ?_ | refine q_then_n ?_ | refine q_blk_n ?_ | refine aw_block ?_ | refine aw_seq ?_ | refine aw_reg ?_ | refine aw_true rfl ?_ | refine aw_false rfl ?_ | refine aw_skip ?_ | refine aw_draws (id := 16) (trO [0, 1, 2, 3, 4, 5, 6, 7, 8, 9, 10] .nil) [8, 9] [] mixed_ok (by kernel_rfl) ?_)
          all_goals exact ⟨_, _, rfl, by omega, j + 1, rfl, by omega, rfl, by simpa using hs⟩
      · have hd : l.drop j = [] := List.drop_eq_nil_of_le (by omega)
        rw [hd] at hs
        repeat' (first | refine s_op rfl ?_ | (apply s_move; (iterate 4 (exact rfl))) | (apply s_fa_f tab_ok; (iterate 6 (exact rfl))) | (apply s_ld_f tab_ok; (iterate 6 (exact rfl))) | (apply s_assign; (iterate 4 (exact rfl))) | (apply s_len tab_ok; (iterate 5 (exact rfl))) | (apply s_lss_f; (iterate 5 (exact rfl)); omega) | refine al_nil ?_ | refine q_then_n ?_ | refine q_blk_e ?_ | refine q_then_e ?_ | refine aw_exit ?_ | refine aw_seq ?_ | refine aw_reg ?_ | refine aw_false rfl ?_ | refine aw_ret ?_)
        all_goals exact q_retB (resB_1 rfl (resV_t rfl)) ⟨_, rfl, by rw [hs]; rfl⟩
end
theorem may87_c {L : List FactT} (hL : FOk L) : ∀ (p : Pat) (path : List Int), massP p + path.length ≤ 10000000 → RunsP Try.prog 87 [factsD L, .agg (patD p), intsD path] (fun v => v = .v (.bool (mayF L p path))) := by
  refine rec_pat fun k n i s a b c l ih path hm => ?_
  have o := open_c (.mk k n i s a b c l)
  rw [mayF_def]
  cases ho : openB (.mk k n i s a b c l) <;> rw [ho] at o
  · rw [if_neg (by decide)]
    have hk := hL.known (path := path) (by omega)
    cases hf : knownF L path with
    | none => rw [hf] at hk; exact may87_un o hk
    | some f =>
      rw [hf] at hk
      simp only [massP] at hm
      have hml := massL_len l
      refine may87_fact o hk (hL.each f (known_mem hf).1).2 (by omega) (by omega) fun j q hq => ih q (List.mem_of_getElem? hq) (path ++ [(j : Int)]) ?_
      have := massL_mem (List.mem_of_getElem? hq)
      simp only [List.length_append, List.length_cons, List.length_nil]
      omega
  · rw [if_pos rfl]
    exact may87_open o

/-! Asks. -/
def asks88D (p : Pat) : Option AskT → DV
  | none => .tup [intsD [], .agg (patD p), .v (.bool false)]
  | some a => .tup [intsD a.path, .agg (patD a.p), .v (.bool true)]
-- DEF AL7: (apply s_allocF tabZ_ok (d := 7); (iterate 6 (exact rfl)); intro locR σ hc; have hR := hc.at'; clear hc)
-- DEF AL9: (apply s_allocF tabZ_ok (d := 9); (iterate 6 (exact rfl)); intro locF σ hc; have hF := hc.at'; have nRF := hc.ne hR; replace hR := hc.keep hR; clear hc)
-- DEF AL13: (apply s_allocF tabZ_ok (d := 13); (iterate 6 (exact rfl)); intro locX σ hc; have hX := hc.at'; have nRX := hc.ne hR; replace hR := hc.keep hR; clear hc)
-- DEF ST7: (apply s_storeF tab_ok; (iterate 7 (exact rfl)); exact hR; (iterate 2 (exact rfl)); intro σ hc; replace hR := hc.at'; clear hc)
-- DEF ST9: (apply s_storeF tab_ok; (iterate 7 (exact rfl)); exact hF; (iterate 2 (exact rfl)); intro σ hc; replace hF := hc.at'; replace hR := hc.keep (by first | assumption | (apply Ne.symm; assumption) | omega) hR; clear hc)
-- DEF ST13: (apply s_storeF tab_ok; (iterate 7 (exact rfl)); exact hX; (iterate 2 (exact rfl)); intro σ hc; replace hX := hc.at'; replace hR := hc.keep (by first | assumption | (apply Ne.symm; assumption) | omega) hR; clear hc)
-- DEF LD13: (apply s_ldF tab_ok; (iterate 5 (exact rfl)); exact hX; exact rfl)
section
variable {L : List FactT} {k n i a b c : Int} {s : ByteArray} {l : List Pat} {path : List Int}
theorem wk_asks (p : Pat) : Wk (.tup [.nil, .agg (patD p), .v (.bool false)]) (asks88D p none) := Wk.tup ⟨Wk.nil 1, Wk.refl _, Wk.refl _, trivial⟩
set_option maxRecDepth 100000 in
set_option maxHeartbeats 4000000 in
theorem asks88_open (o : RunsP Try.prog 75 [.agg (patD (.mk k n i s a b c l))] (fun v => v = .v (.bool true))) : RunsP Try.prog 88 [factsD L, .agg (patD (.mk k n i s a b c l)), intsD path] (fun v => v = asks88D (.mk k n i s a b c l) none) := by
  refine RunsP.weak ?_
  refine enterPB 53 tab_ok Try.func88 rfl (by kernel_rfl) rfl rfl rfl ?_
  repeat' (first | refine s_op rfl ?_ | (apply s_ld_f tab_ok; (iterate 6 (exact rfl))) | (apply s_assign; (iterate 4 (exact rfl))) | (apply s_boxZ; (iterate 5 (exact rfl)); first | exact rfl | exact allD_mapd _) | (apply s_allocF tabZ_ok (d := 7); (iterate 6 (exact rfl)); intro locR σ hc; have hR := hc.at'; clear hc) | (apply s_storeF tab_ok; (iterate 7 (exact rfl)); exact hR; (iterate 2 (exact rfl)); intro σ hc; replace hR := hc.at'; clear hc) | (apply s_call; (iterate 6 (exact rfl)); first | (exact o; rintro _ rfl)) | refine al_nil ?_ | refine q_then_n ?_ | refine q_then_r ?_ | refine aw_seq ?_ | refine aw_reg ?_ | refine aw_true rfl ?_ | refine aw_ret ?_ | refine aw_draws (id := 2) (trO [0, 1, 2, 3] .nil) [2] [2] mixed_ok (by kernel_rfl) ?_)
  all_goals exact q_retB (resB_3 rfl (resV_t rfl) (resV_c (t := 41) rfl rfl hR rfl) (resV_t rfl) rfl) ⟨_, rfl, wk_asks (.mk k n i s a b c l)⟩
set_option maxRecDepth 100000 in
set_option maxHeartbeats 4000000 in
theorem asks88_un (o : RunsP Try.prog 75 [.agg (patD (.mk k n i s a b c l))] (fun v => v = .v (.bool false))) (hk : RunsP Try.prog 109 [factsD L, intsD path] (fun v => v = knownD none)) : RunsP Try.prog 88 [factsD L, .agg (patD (.mk k n i s a b c l)), intsD path] (fun v => v = asks88D (.mk k n i s a b c l) (some ⟨path, .mk k n i s a b c l⟩)) := by
  unfold knownD at hk
  refine enterPB 53 tab_ok Try.func88 rfl (by kernel_rfl) rfl rfl rfl ?_
  repeat' (first | refine s_op rfl ?_ | (apply s_move; (iterate 4 (exact rfl))) | (apply s_ld_f tab_ok; (iterate 6 (exact rfl))) | (apply s_assign; (iterate 4 (exact rfl))) | (apply s_ext; (iterate 5 (exact rfl))) | (apply s_boxZ; (iterate 5 (exact rfl)); first | exact rfl | exact allD_mapd _) | (apply s_not_f; (iterate 4 (exact rfl))) | (apply s_allocF tabZ_ok (d := 7); (iterate 6 (exact rfl)); intro locR σ hc; have hR := hc.at'; clear hc) | (apply s_allocF tabZ_ok (d := 9); (iterate 6 (exact rfl)); intro locF σ hc; have hF := hc.at'; have nRF := hc.ne hR; replace hR := hc.keep hR; clear hc) | (apply s_storeF tab_ok; (iterate 7 (exact rfl)); exact hF; (iterate 2 (exact rfl)); intro σ hc; replace hF := hc.at'; replace hR := hc.keep (by first | assumption | (apply Ne.symm; assumption) | omega) hR; clear hc) | (apply s_storeF tab_ok; (iterate 7 (exact rfl)); exact hR; (iterate 2 (exact rfl)); intro σ hc; replace hR := hc.at'; clear hc) | (apply s_call; (iterate 6 (exact rfl)); first | (exact o; rintro _ rfl) | (exact hk; rintro _ rfl)) | refine al_nil ?_ | refine q_then_n ?_ | refine q_then_r ?_ | refine aw_seq ?_ | refine aw_reg ?_ | refine aw_true rfl ?_ | refine aw_false rfl ?_ | refine aw_skip ?_ | refine aw_ret ?_ | refine aw_draws (id := 5) (trO [0, 1, 2, 3, 4] .nil) [3] [3] mixed_ok (by kernel_rfl) ?_)
  all_goals exact q_retB (resB_3 rfl (resV_t rfl) (resV_c (t := 41) rfl rfl hR rfl) (resV_t rfl) rfl) ⟨_, rfl, rfl⟩
set_option maxRecDepth 100000 in
set_option maxHeartbeats 8000000 in
theorem asks88_fact (o : RunsP Try.prog 75 [.agg (patD (.mk k n i s a b c l))] (fun v => v = .v (.bool false))) {f : FactT} (hk : RunsP Try.prog 109 [factsD L, intsD path] (fun v => v = knownD (some f))) (hl : l.length ≤ 1000000000) (hp : path.length ≤ 10000000)
    (ih : ∀ (j : Nat) (q : Pat), l[j]? = some q → RunsP Try.prog 88 [factsD L, .agg (patD q), intsD (path ++ [(j : Int)])] (fun v => v = asks88D q (asksF L q (path ++ [(j : Int)])))) :
    RunsP Try.prog 88 [factsD L, .agg (patD (.mk k n i s a b c l)), intsD path] (fun v => v = asks88D (.mk k n i s a b c l) (asksL L l path 0)) := by
  obtain ⟨fp, ⟨gk, gn, gi, gs, ga, gb, gc, gl⟩, fn⟩ := f
  unfold knownD factD at hk
  simp only at hk
  refine RunsP.weak ?_
  have e1 := patR_len l
  refine enterPB 53 tab_ok Try.func88 rfl (by kernel_rfl) rfl rfl rfl ?_
  repeat' (first | refine s_op rfl ?_ | (apply s_move; (iterate 4 (exact rfl))) | (apply s_ld_f tab_ok; (iterate 6 (exact rfl))) | (apply s_assign; (iterate 4 (exact rfl))) | (apply s_ext; (iterate 5 (exact rfl))) | (apply s_boxZ; (iterate 5 (exact rfl)); first | exact rfl | exact allD_mapd _) | (apply s_not_t; (iterate 4 (exact rfl))) | (apply s_allocF tabZ_ok (d := 7); (iterate 6 (exact rfl)); intro locR σ hc; have hR := hc.at'; clear hc) | (apply s_allocF tabZ_ok (d := 9); (iterate 6 (exact rfl)); intro locF σ hc; have hF := hc.at'; have nRF := hc.ne hR; replace hR := hc.keep hR; clear hc) | (apply s_storeF tab_ok; (iterate 7 (exact rfl)); exact hF; (iterate 2 (exact rfl)); intro σ hc; replace hF := hc.at'; replace hR := hc.keep (by first | assumption | (apply Ne.symm; assumption) | omega) hR; clear hc) | (apply s_call; (iterate 6 (exact rfl)); first | (exact o; rintro _ rfl) | (exact hk; rintro _ rfl)) | refine al_nil ?_ | refine q_then_n ?_ | refine aw_block ?_ | refine aw_seq ?_ | refine aw_reg ?_ | refine aw_false rfl ?_ | refine aw_skip ?_)
  refine w_loop [0, 2, 4, 6, 7, 11] (fun n0 vs σ => ∃ j : Nat, vs = [.d (factsD L), .d (intsD path), .d (.fptr (patD (.mk k n i s a b c l))), .d .nil, .ptr locR 0 0, .d (.v (.int .i64 (j : Int)))] ∧ σ[locR]? = some (.row 41 (rowZ.map .d)) ∧ j ≤ l.length ∧ n0 = l.length - j ∧ asksL L l path 0 = asksL L (l.drop j) path j) rfl ⟨0, rfl, hR, by omega, rfl, rfl⟩ ?_
  clear hF hR
  rintro n0 vs σ ⟨j, rfl, hR, hj, rfl, hs⟩ fr hfr
  cases hfr
  by_cases hlt : j < l.length
  · obtain ⟨q, hq⟩ := getS hlt
    have h1 := ih j q hq
    have h2 := below59_c path (j : Int) (by omega)
    rw [asksL_drop hq] at hs
    cases hm : asksF L q (path ++ [(j : Int)]) with
    | none =>
      rw [hm] at h1 hs
      unfold asks88D at h1
      obtain ⟨qk, qn, qi, qs, qa, qb, qc, ql⟩ := q
      repeat' (first | refine s_op rfl ?_ | (apply s_move; (iterate 4 (exact rfl))) | (apply s_fa_f tab_ok; (iterate 6 (exact rfl))) | (apply s_ld_f tab_ok; (iterate 6 (exact rfl))) | (apply s_assign; (iterate 4 (exact rfl))) | (apply s_len tab_ok; (iterate 5 (exact rfl))) | (apply s_idx tab_ok; (iterate 7 (exact rfl)); (first | exact patR_get (by assumption) | exact valR_get (by assumption) | exact row_map (by assumption) | exact brR_get (by assumption) | exact treeR_get (by assumption) | exact facts_get (by assumption) | assumption)) | (apply s_ext; (iterate 5 (exact rfl))) | (apply s_lss_t; (iterate 5 (exact rfl)); omega) | (apply s_add64; (iterate 5 (exact rfl)); omega) | (apply s_allocF tabZ_ok (d := 13); (iterate 6 (exact rfl)); intro locX σ hc; have hX := hc.at'; have nRX := hc.ne hR; replace hR := hc.keep hR; clear hc) | (apply s_storeF tab_ok; (iterate 7 (exact rfl)); exact hX; (iterate 2 (exact rfl)); intro σ hc; replace hX := hc.at'; replace hR := hc.keep (by first | assumption | (apply Ne.symm; assumption) | omega) hR; clear hc) | (apply s_call; (iterate 6 (exact rfl)); first | (exact h2; rintro _ rfl) | (exact h1; rintro _ rfl)) | refine al_nil ?_ | refine q_then_n ?_ | refine q_blk_n ?_ | refine aw_block ?_ | refine aw_seq ?_ | refine aw_reg ?_ | refine aw_true rfl ?_ | refine aw_false rfl ?_ | refine aw_skip ?_ | refine al_fork ?_ ?_ | refine aw_draws (id := 9) (trO [0, 1, 2, 3, 4, 5, 6, 7] (.fork 8 (.fork 9 (trO [10, 11, 12, 13, 14, 15, 16, 17] .nil) 14 (trO [9, 10, 11, 12, 13, 15, 16, 17] .nil)) 14 (trO [8, 9, 10, 11, 12, 13, 15, 16, 17] .nil))) [8, 9, 14, 16] [16] mixed_ok (by kernel_rfl) ?_)
      all_goals exact ⟨_, _, rfl, by omega, j + 1, rfl, hR, by omega, rfl, hs⟩
    | some a =>
      rw [hm] at h1 hs
      unfold asks88D at h1
      obtain ⟨ap, ⟨qk, qn, qi, qs, qa, qb, qc, ql⟩⟩ := a
      simp only at h1
      repeat' (first | refine s_op rfl ?_ | (apply s_move; (iterate 4 (exact rfl))) | (apply s_fa_f tab_ok; (iterate 6 (exact rfl))) | (apply s_ld_f tab_ok; (iterate 6 (exact rfl))) | (apply s_ld_w tab_ok; (iterate 5 (exact rfl)); (first | exact askD_len _ | exact patD_len _ | exact valD_len _ | exact rowTD_len _ | exact brD_len _ | exact treeD_len _ | exact factD_len _)) | (apply s_assign; (iterate 4 (exact rfl))) | (apply s_len tab_ok; (iterate 5 (exact rfl))) | (apply s_idx tab_ok; (iterate 7 (exact rfl)); (first | exact patR_get (by assumption) | exact valR_get (by assumption) | exact row_map (by assumption) | exact brR_get (by assumption) | exact treeR_get (by assumption) | exact facts_get (by assumption) | assumption)) | (apply s_ext; (iterate 5 (exact rfl))) | (apply s_lss_t; (iterate 5 (exact rfl)); omega) | (apply s_allocF tabZ_ok (d := 13); (iterate 6 (exact rfl)); intro locX σ hc; have hX := hc.at'; have nRX := hc.ne hR; replace hR := hc.keep hR; clear hc) | (apply s_storeF tab_ok; (iterate 7 (exact rfl)); exact hX; (iterate 2 (exact rfl)); intro σ hc; replace hX := hc.at'; replace hR := hc.keep (by first | assumption | (apply Ne.symm; assumption) | omega) hR; clear hc) | (apply s_ldF tab_ok; (iterate 5 (exact rfl)); exact hX; exact rfl) | (apply s_storeF tab_ok; (iterate 7 (exact rfl)); exact hR; (iterate 2 (exact rfl)); intro σ hc; replace hR := hc.at'; clear hc) | (apply s_call; (iterate 6 (exact rfl)); first | (exact h2; rintro _ rfl) | (exact h1; rintro _ rfl)) | refine al_nil ?_ | refine q_then_n ?_ | refine q_blk_r ?_ | refine aw_block ?_ | refine q_then_r ?_ | refine aw_seq ?_ | refine aw_reg ?_ | refine aw_true rfl ?_ | refine aw_skip ?_ | refine aw_ret ?_ | refine al_fork ?_ ?_ | refine aw_draws (id := 9) (trO [0, 1, 2, 3, 4, 5, 6, 7] (.fork 8 (.fork 9 (trO [10, 11, 12, 13, 14, 15, 16, 17] .nil) 14 (trO [9, 10, 11, 12, 13, 15, 16, 17] .nil)) 14 (trO [8, 9, 10, 11, 12, 13, 15, 16, 17] .nil))) [8, 9, 14, 16] [16] mixed_ok (by kernel_rfl) ?_ | refine aw_draws (id := 11) (trO [0, 1, 2, 3, 4] .nil) [3] [3] mixed_ok (by kernel_rfl) ?_)
      all_goals exact q_retB (resB_3 rfl (resV_t rfl) (resV_c (t := 41) rfl rfl hR rfl) (resV_t rfl) rfl) ⟨_, rfl, by rw [hs]; exact Wk.refl _⟩
  · have hd : l.drop j = [] := List.drop_eq_nil_of_le (by omega)
    rw [hd] at hs
    have hs : asksL L l path 0 = none := hs
    repeat' (first | refine s_op rfl ?_ | (apply s_move; (iterate 4 (exact rfl))) | (apply s_fa_f tab_ok; (iterate 6 (exact rfl))) | (apply s_ld_f tab_ok; (iterate 6 (exact rfl))) | (apply s_assign; (iterate 4 (exact rfl))) | (apply s_len tab_ok; (iterate 5 (exact rfl))) | (apply s_lss_f; (iterate 5 (exact rfl)); omega) | (apply s_storeF tab_ok; (iterate 7 (exact rfl)); exact hR; (iterate 2 (exact rfl)); intro σ hc; replace hR := hc.at'; clear hc) | refine al_nil ?_ | refine q_then_n ?_ | refine q_blk_e ?_ | refine q_then_e ?_ | refine aw_exit ?_ | refine aw_seq ?_ | refine aw_reg ?_ | refine aw_false rfl ?_ | refine aw_ret ?_ | refine aw_draws (id := 12) (trO [0, 1, 2, 3] .nil) [2] [2] mixed_ok (by kernel_rfl) ?_)
    all_goals exact q_retB (resB_3 rfl (resV_t rfl) (resV_c (t := 41) rfl rfl hR rfl) (resV_t rfl) rfl) ⟨_, rfl, by rw [hs]; exact wk_asks (.mk k n i s a b c l)⟩
end
theorem asks88_c {L : List FactT} (hL : FOk L) : ∀ (p : Pat) (path : List Int), massP p + path.length ≤ 10000000 → RunsP Try.prog 88 [factsD L, .agg (patD p), intsD path] (fun v => v = asks88D p (asksF L p path)) := by
  refine rec_pat fun k n i s a b c l ih path hm => ?_
  have o := open_c (.mk k n i s a b c l)
  rw [asksF_def]
  cases ho : openB (.mk k n i s a b c l) <;> rw [ho] at o
  · rw [if_neg (by decide)]
    have hk := hL.known (path := path) (by omega)
    cases hf : knownF L path with
    | none => rw [hf] at hk; exact asks88_un o hk
    | some f =>
      rw [hf] at hk
      simp only [massP] at hm
      have hml := massL_len l
      refine asks88_fact o hk (by omega) (by omega) fun j q hq => ih q (List.mem_of_getElem? hq) (path ++ [(j : Int)]) ?_
      have := massL_mem (List.mem_of_getElem? hq)
      simp only [List.length_append, List.length_cons, List.length_nil]
      omega
  · rw [if_pos rfl]
    exact asks88_open o

/-! There. -/
theorem there_drop {p q : Pat} {path : List Int} {k : Nat} {x : Int} (h : path[k]? = some x) (h5 : p.kind = 5) (hx : 0 ≤ x) (hq : p.l[x.toNat]? = some q) : thereF p (path.drop k) = thereF q (path.drop (k + 1)) := by
  rw [drop_get h, thereF, if_pos ⟨h5, hx⟩, hq]
theorem there_no {p : Pat} {path : List Int} {k : Nat} {x : Int} (h : path[k]? = some x) (hn : p.kind ≠ 5 ∨ p.l.length ≤ x.toNat) : thereF p (path.drop k) = none := by
  rw [drop_get h, thereF]
  rcases hn with hn | hn
  · rw [if_neg fun e => hn e.1]
  · split
    · rw [List.getElem?_eq_none hn]
    · rfl
-- DEF BX2: (apply s_boxF (d := 2); (iterate 6 (exact rfl)); intro locP σ hc; have hP := hc.at'; clear hc)
-- DEF AL4: (apply s_allocF tabZ_ok (d := 4); (iterate 6 (exact rfl)); intro locR σ hc; have hR := hc.at'; have nPR := hc.ne hP; replace hP := hc.keep hP; clear hc)
-- DEF ST4: (apply s_storeF tab_ok; (iterate 7 (exact rfl)); exact hR; (iterate 2 (exact rfl)); intro σ hc; replace hR := hc.at'; clear hc)
-- DEF ST2: (apply s_storeF tab_ok; (iterate 7 (exact rfl)); exact hP; (iterate 2 (exact rfl)); intro σ hc; replace hP := hc.at'; replace hR := hc.keep (by first | assumption | (apply Ne.symm; assumption) | omega) hR; clear hc)
-- DEF LDP: (apply s_ldF tab_ok; (iterate 5 (exact rfl)); exact hP; exact rfl)
set_option maxRecDepth 100000 in
set_option maxHeartbeats 4000000 in
theorem there_c (p : Pat) (path : List Int) (hp : path.length ≤ 1000000000) (hm : massP p ≤ 1000000000) (hx : ∀ x ∈ path, 0 ≤ x) : RunsP Try.prog 111 [.agg (patD p), intsD path] (fun v => (∃ q, thereF p path = some q ∧ v = .tup [.agg (patD q), .v (.bool true)]) ∨ (thereF p path = none ∧ ∃ q, v = .tup [.agg (patD q), .v (.bool false)])) := by
  obtain ⟨k, n, i, s, a, b, c, l⟩ := p
  have e2 : (path.map intRow).length = path.length := by simp
  refine enterPB 36 tab_ok Try.func111 rfl (by kernel_rfl) rfl rfl rfl ?_
  repeat' (first | refine s_op rfl ?_ | (apply s_assign; (iterate 4 (exact rfl))) | (apply s_boxF (d := 2); (iterate 6 (exact rfl)); intro locP σ hc; have hP := hc.at'; clear hc) | (apply s_allocF tabZ_ok (d := 4); (iterate 6 (exact rfl)); intro locR σ hc; have hR := hc.at'; have nPR := hc.ne hP; replace hP := hc.keep hP; clear hc) | refine al_nil ?_ | refine q_then_n ?_ | refine aw_block ?_ | refine aw_seq ?_ | refine aw_reg ?_)
  refine w_loop [1, 2, 4, 6] (fun n0 vs σ => ∃ (j : Nat) (q : Pat), vs = [.d (intsD path), .ptr locP 0 0, .ptr locR 0 0, .d (.v (.int .i64 (j : Int)))] ∧ σ[locP]? = some (.row 41 ((patD q).map .d)) ∧ σ[locR]? = some (.row 41 (rowZ.map .d)) ∧ massP q ≤ 1000000000 ∧ j ≤ path.length ∧ n0 = path.length - j ∧ thereF (.mk k n i s a b c l) path = thereF q (path.drop j)) rfl ⟨0, .mk k n i s a b c l, rfl, hP, hR, hm, by omega, rfl, rfl⟩ ?_
  clear hR hP
  rintro n0 vs σ ⟨j, ⟨qk, qn, qi, qs, qa, qb, qc, ql⟩, rfl, hP, hR, hqm, hj, rfl, hs⟩ fr hfr
  cases hfr
  have e1 := patR_len ql
  have hml := massL_len ql
  simp only [massP] at hqm
  by_cases hlt : j < path.length
  · obtain ⟨x, hxx⟩ := getS hlt
    obtain ⟨m, rfl⟩ : ∃ m : Nat, x = m := ⟨x.toNat, by have := hx x (List.mem_of_getElem? hxx); omega⟩
    by_cases h5 : qk = 5
    · by_cases hml' : m < ql.length
      · obtain ⟨⟨uk, un, ui, us, ua, ub, uc, ul⟩, hu⟩ := getS hml'
        have hs2 := there_drop (p := .mk qk qn qi qs qa qb qc ql) hxx h5 (by omega) (by simpa [Pat.l] using hu)
        rw [hs2] at hs
        have hum := massL_mem (List.mem_of_getElem? hu)
        repeat' (first | refine s_op rfl ?_ | (apply s_move; (iterate 4 (exact rfl))) | (apply s_fa_p tab_ok; (iterate 5 (exact rfl))) | (apply s_ld_f tab_ok; (iterate 6 (exact rfl))) | (apply s_assign; (iterate 4 (exact rfl))) | (apply s_pick_f; (iterate 5 (exact rfl))) | (apply s_len tab_ok; (iterate 5 (exact rfl))) | (apply s_idx tab_ok; (iterate 7 (exact rfl)); (first | exact patR_get (by assumption) | exact valR_get (by assumption) | exact row_map (by assumption) | exact brR_get (by assumption) | exact treeR_get (by assumption) | exact facts_get (by assumption) | assumption)) | (apply s_neq_f; (iterate 5 (exact rfl)); omega) | (apply s_lss_t; (iterate 5 (exact rfl)); omega) | (apply s_geq_f; (iterate 5 (exact rfl)); omega) | (apply s_add64; (iterate 5 (exact rfl)); omega) | (apply s_ldF tab_ok; (iterate 5 (exact rfl)); exact hP; exact rfl) | (apply s_storeF tab_ok; (iterate 7 (exact rfl)); exact hP; (iterate 2 (exact rfl)); intro σ hc; replace hP := hc.at'; replace hR := hc.keep (by first | assumption | (apply Ne.symm; assumption) | omega) hR; clear hc) | refine al_nil ?_ | refine q_then_n ?_ | refine q_blk_n ?_ | refine aw_block ?_ | refine aw_seq ?_ | refine aw_reg ?_ | refine aw_true rfl ?_ | refine aw_false rfl ?_ | refine aw_skip ?_ | refine aw_draws (id := 4) (trO [0, 1, 2, 3, 4, 5, 6, 7, 8, 9, 10, 11, 12] .nil) [] [] mixed_ok (by kernel_rfl) ?_ | refine aw_draws (id := 6) (trO [0, 1, 2, 3, 4, 5, 6, 7, 8] .nil) [8] [8] mixed_ok (by kernel_rfl) ?_)
        all_goals exact ⟨_, _, rfl, by omega, j + 1, .mk uk un ui us ua ub uc ul, rfl, hP, hR, by omega, by omega, rfl, hs⟩
      · have hs2 := there_no (p := .mk qk qn qi qs qa qb qc ql) hxx (.inr (by simp [Pat.l]; omega))
        rw [hs2] at hs
        repeat' (first | refine s_op rfl ?_ | (apply s_move; (iterate 4 (exact rfl))) | (apply s_fa_p tab_ok; (iterate 5 (exact rfl))) | (apply s_ld_f tab_ok; (iterate 6 (exact rfl))) | (apply s_assign; (iterate 4 (exact rfl))) | (apply s_pick_f; (iterate 5 (exact rfl))) | (apply s_len tab_ok; (iterate 5 (exact rfl))) | (apply s_idx tab_ok; (iterate 7 (exact rfl)); (first | exact patR_get (by assumption) | exact valR_get (by assumption) | exact row_map (by assumption) | exact brR_get (by assumption) | exact treeR_get (by assumption) | exact facts_get (by assumption) | assumption)) | (apply s_neq_f; (iterate 5 (exact rfl)); omega) | (apply s_lss_t; (iterate 5 (exact rfl)); omega) | (apply s_geq_t; (iterate 5 (exact rfl)); omega) | (apply s_ldF tab_ok; (iterate 5 (exact rfl)); exact hP; exact rfl) | (apply s_storeF tab_ok; (iterate 7 (exact rfl)); exact hR; (iterate 2 (exact rfl)); intro σ hc; replace hR := hc.at'; clear hc) | refine al_nil ?_ | refine q_then_n ?_ | refine q_blk_r ?_ | refine aw_block ?_ | refine q_then_r ?_ | refine aw_seq ?_ | refine aw_reg ?_ | refine aw_true rfl ?_ | refine aw_skip ?_ | refine aw_ret ?_ | refine aw_draws (id := 4) (trO [0, 1, 2, 3, 4, 5, 6, 7, 8, 9, 10, 11, 12] .nil) [] [] mixed_ok (by kernel_rfl) ?_)
        all_goals exact q_retB (resB_2 rfl (resV_c (t := 41) rfl rfl hR rfl) (resV_t rfl) rfl) ⟨_, rfl, .inr ⟨hs, .mk qk qn qi qs qa qb qc ql, rfl⟩⟩
    · have hs2 := there_no (p := .mk qk qn qi qs qa qb qc ql) hxx (.inl h5)
      rw [hs2] at hs
      repeat' (first | refine s_op rfl ?_ | (apply s_skipV; (iterate 2 (exact rfl))) | (apply s_move; (iterate 4 (exact rfl))) | (apply s_fa_p tab_ok; (iterate 5 (exact rfl))) | (apply s_assign; (iterate 4 (exact rfl))) | (apply s_pick_t; (iterate 5 (exact rfl))) | (apply s_len tab_ok; (iterate 5 (exact rfl))) | (apply s_neq_t; (iterate 5 (exact rfl)); omega) | (apply s_lss_t; (iterate 5 (exact rfl)); omega) | (apply s_ldF tab_ok; (iterate 5 (exact rfl)); exact hP; exact rfl) | (apply s_storeF tab_ok; (iterate 7 (exact rfl)); exact hR; (iterate 2 (exact rfl)); intro σ hc; replace hR := hc.at'; clear hc) | refine al_nil ?_ | refine q_then_n ?_ | refine q_blk_r ?_ | refine aw_block ?_ | refine q_then_r ?_ | refine aw_seq ?_ | refine aw_reg ?_ | refine aw_true rfl ?_ | refine aw_skip ?_ | refine aw_ret ?_ | refine aw_draws (id := 4) (trO [0, 1, 2, 3, 4, 5, 6, 7, 8, 9, 10, 11, 12] .nil) [] [] mixed_ok (by kernel_rfl) ?_)
      all_goals exact q_retB (resB_2 rfl (resV_c (t := 41) rfl rfl hR rfl) (resV_t rfl) rfl) ⟨_, rfl, .inr ⟨hs, .mk qk qn qi qs qa qb qc ql, rfl⟩⟩
  · have hd : path.drop j = [] := List.drop_eq_nil_of_le (by omega)
    rw [hd] at hs
    repeat' (first | refine s_op rfl ?_ | (apply s_move; (iterate 4 (exact rfl))) | (apply s_assign; (iterate 4 (exact rfl))) | (apply s_len tab_ok; (iterate 5 (exact rfl))) | (apply s_lss_f; (iterate 5 (exact rfl)); omega) | (apply s_ldF tab_ok; (iterate 5 (exact rfl)); exact hP; exact rfl) | (apply s_storeF tab_ok; (iterate 7 (exact rfl)); exact hR; (iterate 2 (exact rfl)); intro σ hc; replace hR := hc.at'; clear hc) | refine al_nil ?_ | refine q_then_n ?_ | refine q_blk_e ?_ | refine q_then_e ?_ | refine aw_exit ?_ | refine aw_seq ?_ | refine aw_reg ?_ | refine aw_false rfl ?_ | refine aw_ret ?_)
    all_goals exact q_retB (resB_2 rfl (resV_c (t := 41) rfl rfl hR rfl) (resV_t rfl) rfl) ⟨_, rfl, .inl ⟨.mk qk qn qi qs qa qb qc ql, hs, rfl⟩⟩
end Go.Proofs.Ytjflembhgjcgkaa
