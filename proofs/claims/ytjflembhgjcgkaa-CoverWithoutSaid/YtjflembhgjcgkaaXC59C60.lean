/- XC59C60: C59, C60 in one. -/
import Derived.Test.YtjflembhgjcgkaaM9
import Derived.Test.YtjflembhgjcgkaaXC14C15
import Derived.Test.YtjflembhgjcgkaaXAlAl2
set_option linter.unusedSimpArgs false
set_option linter.unusedVariables false
/- C59: literals, of the document: the numbers and texts that stand in patterns. -/
-- ALLUNDEF -- BOXZ
-- LEN: patD_len
-- ROW: patR_get row_map
-- DEF CB: (by simp only [List.length_append, List.length_map, List.length_cons, List.length_nil] at *; omega)
-- DEF CC: (refine ⟨?_, ?_, ?_⟩ <;> first | omega | (simp only [List.length_append, List.length_map, List.length_cons, List.length_nil] <;> omega))
namespace Go.Proofs.Ytjflembhgjcgkaa
open Go.RowKit

def txtRow (s : ByteArray) : List DV := [.v (.string s)]
def textsD (l : List ByteArray) : DV := .lst 1 (l.map txtRow)
theorem numsL_append : ∀ l m : List Pat, numsL (l ++ m) = numsL l ++ numsL m
  | [], m => rfl
  | p :: l, m => by simp only [List.cons_append, numsL, numsL_append l m, List.append_assoc]
theorem textsL_append : ∀ l m : List Pat, textsL (l ++ m) = textsL l ++ textsL m
  | [], m => rfl
  | p :: l, m => by simp only [List.cons_append, textsL, textsL_append l m, List.append_assoc]
mutual
theorem lits_lenP : ∀ p : Pat, (numsP p).length ≤ massP p ∧ (textsP p).length ≤ massP p
  | .mk k n i s a b c l => by
    have h := lits_len l
    simp only [numsP, textsP, massP, List.length_append]
    constructor <;> split <;> simp only [List.length_cons, List.length_nil] <;> omega
theorem lits_len : ∀ l : List Pat, (numsL l).length ≤ massL l ∧ (textsL l).length ≤ massL l
  | [] => ⟨Nat.le_refl _, Nat.le_refl _⟩
  | p :: l => by
    have h1 := lits_lenP p
    have h2 := lits_len l
    simp only [numsL, textsL, massL, List.length_append]
    omega
end
theorem lits_next {l : List Pat} {j : Nat} {k n i : Int} {s : ByteArray} {a b c : Int} {m : List Pat} (h : l[j]? = some (.mk k n i s a b c m)) :
    numsL (l.take (j + 1)) = (numsL (l.take j) ++ (if k = 3 then [i] else [])) ++ numsL m ∧ textsL (l.take (j + 1)) = (textsL (l.take j) ++ (if k = 4 then [s] else [])) ++ textsL m := by
  rw [List.take_add_one, h]
  simp only [Option.toList_some, numsL_append, textsL_append, numsL, textsL, numsP, textsP, List.append_assoc, List.append_nil, and_self]

set_option maxRecDepth 100000 in
set_option maxHeartbeats 8000000 in
theorem literals_c (l : List Pat) : massL l ≤ 100000 → RunsP Try.prog 115 [patsD l] (fun v => v = .tup [intsD (numsL l), textsD (textsL l)]) := by
  induction hN : massL l using Nat.strongRecOn generalizing l with
  | ind N ih =>
  intro hm
  subst hN
  have e1 := patR_len l
  have hlen := massL_len l
  refine enterPB 60 tab_ok Try.func115 rfl (by kernel_rfl) rfl rfl rfl ?_
  repeat' (first
      | refine s_op rfl ?_ | (apply s_move; (iterate 4 (exact rfl))) | (apply s_fa_p tab_ok; (iterate 5 (exact rfl))) | (apply s_fa_f tab_ok; (iterate 6 (exact rfl))) | (apply s_ld_p tab_ok; (iterate 7 (exact rfl)))
      | (apply s_ld_f tab_ok; (iterate 6 (exact rfl))) | (apply s_ld_w tab_ok; (iterate 5 (exact rfl)); (first | exact patD_len _)) | (apply s_assign; (iterate 4 (exact rfl))) | (apply s_len tab_ok; (iterate 5 (exact rfl))) | (apply s_lens str_ok; (iterate 4 (exact rfl)))
      | (apply s_idx tab_ok; (iterate 7 (exact rfl)); (first | exact patR_get (by assumption) | exact row_map (by assumption) | assumption)) | (apply s_ext; (iterate 5 (exact rfl))) | (apply s_lit tab_ok tabZ_ok; (iterate 10 (exact rfl))) | (apply s_lit1 tab_ok tabZ_ok; (iterate 9 (exact rfl)); (first | exact patD_len _)) | (apply s_app tab_ok tabZ_ok; (iterate 13 (exact rfl)); (first | (simp; done) | (simp; omega)))
      | (apply s_eql_t; (iterate 5 (exact rfl)); omega) | (apply s_eql_f; (iterate 5 (exact rfl)); omega) | (apply s_lss_t; (iterate 5 (exact rfl)); omega) | (apply s_lss_f; (iterate 5 (exact rfl)); omega) | (apply s_add64; (iterate 5 (exact rfl)); omega)
      | refine al_nil ?_ | refine q_then_n ?_ | refine q_blk_n ?_ | refine q_blk_r ?_ | refine q_blk_e ?_
      | refine q_blk_o rfl ?_ | refine q_then_e ?_ | refine aw_block ?_ | refine aw_exit ?_ | refine q_then_r ?_
      | refine aw_seq ?_ | refine aw_reg ?_ | refine aw_true rfl ?_ | refine aw_false rfl ?_ | refine aw_skip ?_
      | refine aw_ret ?_)
  refine w_adoptF 4 2 1 rfl ?_
  intro locA σ hc; have hA := hc.at'; clear hc
  refine w_adoptF 5 9 1 rfl ?_
  intro locB σ hc; have hB := hc.at'; have nAB := hc.ne hA; replace hA := hc.keep hA; clear hc
  refine w_loop [0, 4, 5, 6] (fun n vs σ => ∃ k vA vB nA nB : Nat, vs = [.d (patsD l), .own locA vA 1 0 nA, .own locB vB 1 0 nB, .d (.v (.int .i64 (k : Int)))] ∧ σ[locA]? = some (.arr 2 1 vA ((numsL (l.take k)).map intRow)) ∧ σ[locB]? = some (.arr 9 1 vB ((textsL (l.take k)).map txtRow)) ∧ nA = (numsL (l.take k)).length ∧ nB = (textsL (l.take k)).length ∧ k ≤ l.length ∧ n = l.length - k) rfl ⟨0, 0, 0, 0, 0, rfl, hA, hB, rfl, rfl, by omega, rfl⟩ ?_
  clear hA hB
  rintro n vs σ ⟨k, vA, vB, nA, nB, rfl, hA, hB, hnA, hnB, hk, rfl⟩ fr hfr
  cases hfr
  by_cases hlt : k < l.length
  · obtain ⟨pk, pn, pi, ps, pa, pb, pc, pl, hq⟩ := getM hlt
    have hmt := massL_take hq
    have hma := massL_append (l.take (k + 1)) (l.drop (k + 1))
    rw [List.take_append_drop] at hma
    have hl1 := lits_len (l.take k)
    have hl2 := lits_len pl
    obtain ⟨t1, t2⟩ := lits_next hq
    simp only [massP] at hmt
    have hrec := ih (massL pl) (by omega) pl rfl (by omega)
    have e2 := patR_len pl
    by_cases h3 : pk = 3
    · subst h3
      rw [if_pos rfl] at t1
      rw [if_neg (by decide), List.append_nil] at t2
      repeat' (first
      | refine s_op rfl ?_ | (apply s_move; (iterate 4 (exact rfl))) | (apply s_fa_p tab_ok; (iterate 5 (exact rfl))) | (apply s_fa_f tab_ok; (iterate 6 (exact rfl))) | (apply s_ld_p tab_ok; (iterate 7 (exact rfl)))
      | (apply s_ld_f tab_ok; (iterate 6 (exact rfl))) | (apply s_ld_w tab_ok; (iterate 5 (exact rfl)); (first | exact patD_len _)) | (apply s_assign; (iterate 4 (exact rfl))) | (apply s_len tab_ok; (iterate 5 (exact rfl))) | (apply s_lens str_ok; (iterate 4 (exact rfl)))
      | (apply s_idx tab_ok; (iterate 7 (exact rfl)); (first | exact patR_get (by assumption) | exact row_map (by assumption) | assumption)) | (apply s_ext; (iterate 5 (exact rfl))) | (apply s_lit tab_ok tabZ_ok; (iterate 10 (exact rfl))) | (apply s_lit1 tab_ok tabZ_ok; (iterate 9 (exact rfl)); (first | exact patD_len _)) | (apply s_eql_t; (iterate 5 (exact rfl)); omega)
      | (apply s_eql_f; (iterate 5 (exact rfl)); omega) | (apply s_lss_t; (iterate 5 (exact rfl)); omega) | (apply s_lss_f; (iterate 5 (exact rfl)); omega) | (apply s_add64; (iterate 5 (exact rfl)); omega)
      | (apply s_appF tab_ok tabZ_ok (rows2 := [[.v (.int .i64 pi)]]) (rows3 := (numsL (l.take k) ++ [pi]).map intRow) (m := nA + 1); (iterate 10 (exact rfl)); exact hA; exact src_of (Tab.slIs tab_ok (t := 160) rfl) (rows_d rfl); (simp [intRow]); (refine ⟨?_, ?_, ?_⟩ <;> first | omega | (simp only [List.length_append, List.length_map, List.length_cons, List.length_nil] <;> omega)); intro σ hc; replace hA := hc.at'; replace hB := hc.keep (by first | assumption | (apply Ne.symm; assumption) | omega) hB; clear hc)
      | (apply s_appF tab_ok tabZ_ok (rows2 := (numsL pl).map intRow) (rows3 := (numsL (l.take (k + 1))).map intRow) (m := (numsL (l.take (k + 1))).length); (iterate 10 (exact rfl)); exact hA; exact src_of (Tab.slIs tab_ok (t := 160) rfl) (rows_d rfl); (rw [t1]; simp only [List.map_append]); (rw [t1]; (refine ⟨?_, ?_, ?_⟩ <;> first | omega | (simp only [List.length_append, List.length_map, List.length_cons, List.length_nil] <;> omega))); intro σ hc; replace hA := hc.at'; replace hB := hc.keep (by first | assumption | (apply Ne.symm; assumption) | omega) hB; clear hc)
      | (apply s_appF tab_ok tabZ_ok (rows2 := (textsL pl).map txtRow) (rows3 := (textsL (l.take (k + 1))).map txtRow) (m := (textsL (l.take (k + 1))).length); (iterate 10 (exact rfl)); exact hB; exact src_of (Tab.slIs tab_ok (t := 161) rfl) (rows_d rfl); (rw [t2]; simp only [List.map_append]); (rw [t2]; (refine ⟨?_, ?_, ?_⟩ <;> first | omega | (simp only [List.length_append, List.length_map, List.length_cons, List.length_nil] <;> omega))); intro σ hc; replace hB := hc.at'; replace hA := hc.keep (by first | assumption | (apply Ne.symm; assumption) | omega) hA; clear hc)
      | (apply s_call; (iterate 6 (exact rfl)); first | (exact hrec; rintro _ rfl))
      | refine al_nil ?_ | refine q_then_n ?_ | refine q_blk_n ?_ | refine q_blk_r ?_ | refine q_blk_e ?_
      | refine q_blk_o rfl ?_ | refine q_then_e ?_ | refine aw_block ?_ | refine aw_exit ?_ | refine q_then_r ?_
      | refine aw_seq ?_ | refine aw_reg ?_ | refine aw_true rfl ?_ | refine aw_false rfl ?_ | refine aw_skip ?_
      | refine aw_ret ?_)
      exact ⟨_, _, rfl, by omega, k + 1, _, _, _, _, rfl, hA, hB, rfl, rfl, by omega, rfl⟩
    · rw [if_neg h3, List.append_nil] at t1
      by_cases h4 : pk = 4
      · subst h4
        rw [if_pos rfl] at t2
        repeat' (first
      | refine s_op rfl ?_ | (apply s_move; (iterate 4 (exact rfl))) | (apply s_fa_p tab_ok; (iterate 5 (exact rfl))) | (apply s_fa_f tab_ok; (iterate 6 (exact rfl))) | (apply s_ld_p tab_ok; (iterate 7 (exact rfl)))
      | (apply s_ld_f tab_ok; (iterate 6 (exact rfl))) | (apply s_ld_w tab_ok; (iterate 5 (exact rfl)); (first | exact patD_len _)) | (apply s_assign; (iterate 4 (exact rfl))) | (apply s_len tab_ok; (iterate 5 (exact rfl))) | (apply s_lens str_ok; (iterate 4 (exact rfl)))
      | (apply s_idx tab_ok; (iterate 7 (exact rfl)); (first | exact patR_get (by assumption) | exact row_map (by assumption) | assumption)) | (apply s_ext; (iterate 5 (exact rfl))) | (apply s_lit tab_ok tabZ_ok; (iterate 10 (exact rfl))) | (apply s_lit1 tab_ok tabZ_ok; (iterate 9 (exact rfl)); (first | exact patD_len _)) | (apply s_eql_t; (iterate 5 (exact rfl)); omega)
      | (apply s_eql_f; (iterate 5 (exact rfl)); omega) | (apply s_lss_t; (iterate 5 (exact rfl)); omega) | (apply s_lss_f; (iterate 5 (exact rfl)); omega) | (apply s_add64; (iterate 5 (exact rfl)); omega)
      | (apply s_appF tab_ok tabZ_ok (rows2 := [[.v (.string ps)]]) (rows3 := (textsL (l.take k) ++ [ps]).map txtRow) (m := nB + 1); (iterate 10 (exact rfl)); exact hB; exact src_of (Tab.slIs tab_ok (t := 161) rfl) (rows_d rfl); (simp [txtRow]); (refine ⟨?_, ?_, ?_⟩ <;> first | omega | (simp only [List.length_append, List.length_map, List.length_cons, List.length_nil] <;> omega)); intro σ hc; replace hB := hc.at'; replace hA := hc.keep (by first | assumption | (apply Ne.symm; assumption) | omega) hA; clear hc)
      | (apply s_appF tab_ok tabZ_ok (rows2 := (numsL pl).map intRow) (rows3 := (numsL (l.take (k + 1))).map intRow) (m := (numsL (l.take (k + 1))).length); (iterate 10 (exact rfl)); exact hA; exact src_of (Tab.slIs tab_ok (t := 160) rfl) (rows_d rfl); (rw [t1]; simp only [List.map_append]); (rw [t1]; (refine ⟨?_, ?_, ?_⟩ <;> first | omega | (simp only [List.length_append, List.length_map, List.length_cons, List.length_nil] <;> omega))); intro σ hc; replace hA := hc.at'; replace hB := hc.keep (by first | assumption | (apply Ne.symm; assumption) | omega) hB; clear hc)
      | (apply s_appF tab_ok tabZ_ok (rows2 := (textsL pl).map txtRow) (rows3 := (textsL (l.take (k + 1))).map txtRow) (m := (textsL (l.take (k + 1))).length); (iterate 10 (exact rfl)); exact hB; exact src_of (Tab.slIs tab_ok (t := 161) rfl) (rows_d rfl); (rw [t2]; simp only [List.map_append]); (rw [t2]; (refine ⟨?_, ?_, ?_⟩ <;> first | omega | (simp only [List.length_append, List.length_map, List.length_cons, List.length_nil] <;> omega))); intro σ hc; replace hB := hc.at'; replace hA := hc.keep (by first | assumption | (apply Ne.symm; assumption) | omega) hA; clear hc)
      | (apply s_call; (iterate 6 (exact rfl)); first | (exact hrec; rintro _ rfl))
      | refine al_nil ?_ | refine q_then_n ?_ | refine q_blk_n ?_ | refine q_blk_r ?_ | refine q_blk_e ?_
      | refine q_blk_o rfl ?_ | refine q_then_e ?_ | refine aw_block ?_ | refine aw_exit ?_ | refine q_then_r ?_
      | refine aw_seq ?_ | refine aw_reg ?_ | refine aw_true rfl ?_ | refine aw_false rfl ?_ | refine aw_skip ?_
      | refine aw_ret ?_)
        exact ⟨_, _, rfl, by omega, k + 1, _, _, _, _, rfl, hA, hB, rfl, rfl, by omega, rfl⟩
      · rw [if_neg h4, List.append_nil] at t2
        repeat' (first
      | refine s_op rfl ?_ | (apply s_move; (iterate 4 (exact rfl))) | (apply s_fa_p tab_ok; (iterate 5 (exact rfl))) | (apply s_fa_f tab_ok; (iterate 6 (exact rfl))) | (apply s_ld_p tab_ok; (iterate 7 (exact rfl)))
      | (apply s_ld_f tab_ok; (iterate 6 (exact rfl))) | (apply s_ld_w tab_ok; (iterate 5 (exact rfl)); (first | exact patD_len _)) | (apply s_assign; (iterate 4 (exact rfl))) | (apply s_len tab_ok; (iterate 5 (exact rfl))) | (apply s_lens str_ok; (iterate 4 (exact rfl)))
      | (apply s_idx tab_ok; (iterate 7 (exact rfl)); (first | exact patR_get (by assumption) | exact row_map (by assumption) | assumption)) | (apply s_ext; (iterate 5 (exact rfl))) | (apply s_lit tab_ok tabZ_ok; (iterate 10 (exact rfl))) | (apply s_lit1 tab_ok tabZ_ok; (iterate 9 (exact rfl)); (first | exact patD_len _)) | (apply s_eql_t; (iterate 5 (exact rfl)); omega)
      | (apply s_eql_f; (iterate 5 (exact rfl)); omega) | (apply s_lss_t; (iterate 5 (exact rfl)); omega) | (apply s_lss_f; (iterate 5 (exact rfl)); omega) | (apply s_add64; (iterate 5 (exact rfl)); omega)
      | (apply s_appF tab_ok tabZ_ok (rows2 := (numsL pl).map intRow) (rows3 := (numsL (l.take (k + 1))).map intRow) (m := (numsL (l.take (k + 1))).length); (iterate 10 (exact rfl)); exact hA; exact src_of (Tab.slIs tab_ok (t := 160) rfl) (rows_d rfl); (rw [t1]; simp only [List.map_append]); (rw [t1]; (refine ⟨?_, ?_, ?_⟩ <;> first | omega | (simp only [List.length_append, List.length_map, List.length_cons, List.length_nil] <;> omega))); intro σ hc; replace hA := hc.at'; replace hB := hc.keep (by first | assumption | (apply Ne.symm; assumption) | omega) hB; clear hc)
      | (apply s_appF tab_ok tabZ_ok (rows2 := (textsL pl).map txtRow) (rows3 := (textsL (l.take (k + 1))).map txtRow) (m := (textsL (l.take (k + 1))).length); (iterate 10 (exact rfl)); exact hB; exact src_of (Tab.slIs tab_ok (t := 161) rfl) (rows_d rfl); (rw [t2]; simp only [List.map_append]); (rw [t2]; (refine ⟨?_, ?_, ?_⟩ <;> first | omega | (simp only [List.length_append, List.length_map, List.length_cons, List.length_nil] <;> omega))); intro σ hc; replace hB := hc.at'; replace hA := hc.keep (by first | assumption | (apply Ne.symm; assumption) | omega) hA; clear hc)
      | (apply s_call; (iterate 6 (exact rfl)); first | (exact hrec; rintro _ rfl))
      | refine al_nil ?_ | refine q_then_n ?_ | refine q_blk_n ?_ | refine q_blk_r ?_ | refine q_blk_e ?_
      | refine q_blk_o rfl ?_ | refine q_then_e ?_ | refine aw_block ?_ | refine aw_exit ?_ | refine q_then_r ?_
      | refine aw_seq ?_ | refine aw_reg ?_ | refine aw_true rfl ?_ | refine aw_false rfl ?_ | refine aw_skip ?_
      | refine aw_ret ?_)
        exact ⟨_, _, rfl, by omega, k + 1, _, _, _, _, rfl, hA, hB, rfl, rfl, by omega, rfl⟩
  · rw [List.take_of_length_le (by omega)] at hA hB hnA hnB
    repeat' (first
      | refine s_op rfl ?_ | (apply s_move; (iterate 4 (exact rfl))) | (apply s_fa_p tab_ok; (iterate 5 (exact rfl))) | (apply s_fa_f tab_ok; (iterate 6 (exact rfl))) | (apply s_ld_p tab_ok; (iterate 7 (exact rfl)))
      | (apply s_ld_f tab_ok; (iterate 6 (exact rfl))) | (apply s_ld_w tab_ok; (iterate 5 (exact rfl)); (first | exact patD_len _)) | (apply s_assign; (iterate 4 (exact rfl))) | (apply s_len tab_ok; (iterate 5 (exact rfl))) | (apply s_lens str_ok; (iterate 4 (exact rfl)))
      | (apply s_idx tab_ok; (iterate 7 (exact rfl)); (first | exact patR_get (by assumption) | exact row_map (by assumption) | assumption)) | (apply s_ext; (iterate 5 (exact rfl))) | (apply s_lit tab_ok tabZ_ok; (iterate 10 (exact rfl))) | (apply s_lit1 tab_ok tabZ_ok; (iterate 9 (exact rfl)); (first | exact patD_len _)) | (apply s_app tab_ok tabZ_ok; (iterate 13 (exact rfl)); (first | (simp; done) | (simp; omega)))
      | (apply s_eql_t; (iterate 5 (exact rfl)); omega) | (apply s_eql_f; (iterate 5 (exact rfl)); omega) | (apply s_lss_t; (iterate 5 (exact rfl)); omega) | (apply s_lss_f; (iterate 5 (exact rfl)); omega) | (apply s_add64; (iterate 5 (exact rfl)); omega)
      | (refine w_freezeF 4 rfl hA (by simp [hnA]) ?_; intro σ hc; replace hB := hc.keep (by first | assumption | (apply Ne.symm; assumption) | omega) hB; clear hc hA)
      | (refine w_freezeF 5 rfl hB (by simp [hnB]) ?_; intro σ hc; clear hc hB)
      | refine al_nil ?_ | refine q_then_n ?_ | refine q_blk_n ?_ | refine q_blk_r ?_ | refine q_blk_e ?_
      | refine q_blk_o rfl ?_ | refine q_then_e ?_ | refine aw_block ?_ | refine aw_exit ?_ | refine q_then_r ?_
      | refine aw_seq ?_ | refine aw_reg ?_ | refine aw_true rfl ?_ | refine aw_false rfl ?_ | refine aw_skip ?_
      | refine aw_ret ?_)
    exact q_retB (resB_2 rfl (resV_t rfl) (resV_t rfl) rfl) ⟨_, rfl, rfl⟩
end Go.Proofs.Ytjflembhgjcgkaa

/- C60: Of, of the document: a room. -/
-- ALLUNDEF -- BOXZ
-- LEN: patD_len
-- ROW: patR_get row_map
-- DEF ALR: (apply s_allocF tabZ_ok; (iterate 6 (exact rfl)); intro locR σ hc; have hR := hc.at'; clear hc)
-- DEF STR: (apply s_storeF tab_ok; (iterate 7 (exact rfl)); exact hR; (iterate 2 (exact rfl)); intro σ hc; replace hR := hc.at'; clear hc)
-- DEF CC: (refine ⟨?_, ?_, ?_⟩ <;> first | omega | (simp only [List.length_append, List.length_map, List.length_cons, List.length_nil] <;> omega))
-- DEF LITA: (apply s_litO tab_ok tabZ_ok (t := 160) (m := 1); (iterate 12 (exact rfl)); intro locA σ hc; have hA := hc.at'; have nRA := hc.ne hR; replace hR := hc.keep hR; (try have nBA := hc.ne hB); (try replace hB := hc.keep hB); clear hc)
-- DEF LITB: (apply s_litO tab_ok tabZ_ok (t := 161) (m := 1); (iterate 12 (exact rfl)); intro locB σ hc; have hB := hc.at'; have nRB := hc.ne hR; replace hR := hc.keep hR; (try have nAB := hc.ne hA); (try replace hA := hc.keep hA); clear hc)
-- DEF APA: (apply s_appF tab_ok tabZ_ok (t := 160) (rows2 := N.map intRow) (rows3 := (n0 :: N).map intRow) (m := (n0 :: N).length); (iterate 10 (exact rfl)); exact hA; exact src_of (Tab.slIs tab_ok (t := 160) rfl) (rows_d rfl); exact rfl; (refine ⟨?_, ?_, ?_⟩ <;> first | omega | (simp only [List.length_append, List.length_map, List.length_cons, List.length_nil] <;> omega)); intro σ hc; replace hA := hc.at'; replace hR := hc.keep (by first | assumption | (apply Ne.symm; assumption)) hR; (try replace hB := hc.keep (by first | assumption | (apply Ne.symm; assumption)) hB); clear hc)
-- DEF APB: (apply s_appF tab_ok tabZ_ok (t := 161) (rows2 := S.map txtRow) (rows3 := (s0 :: S).map txtRow) (m := (s0 :: S).length); (iterate 10 (exact rfl)); exact hB; exact src_of (Tab.slIs tab_ok (t := 161) rfl) (rows_d rfl); exact rfl; (refine ⟨?_, ?_, ?_⟩ <;> first | omega | (simp only [List.length_append, List.length_map, List.length_cons, List.length_nil] <;> omega)); intro σ hc; replace hB := hc.at'; replace hR := hc.keep (by first | assumption | (apply Ne.symm; assumption)) hR; (try replace hA := hc.keep (by first | assumption | (apply Ne.symm; assumption)) hA); clear hc)
-- DEF FRA: (refine o_freezeF 54 rfl hA (by simp) ?_; intro σ hc; replace hR := hc.keep (by first | assumption | (apply Ne.symm; assumption)) hR; (try replace hB := hc.keep (by first | assumption | (apply Ne.symm; assumption)) hB); clear hc hA)
-- DEF FRB: (refine o_freezeF 58 rfl hB (by simp) ?_; intro σ hc; replace hR := hc.keep (by first | assumption | (apply Ne.symm; assumption)) hR; (try replace hA := hc.keep (by first | assumption | (apply Ne.symm; assumption)) hA); clear hc hB)
namespace Go.Proofs.Ytjflembhgjcgkaa
open Go.RowKit

def stepN (n x : Int) : Int := if x = n then n + 1 else n
theorem roundN_def (l : List Int) (n : Int) : roundN l n = l.foldl stepN n := rfl
theorem step_le : ∀ (l : List Int) (n : Int), n ≤ l.foldl stepN n ∧ l.foldl stepN n ≤ n + l.length
  | [], n => ⟨Int.le_refl _, by simp⟩
  | x :: l, n => by
    have h := step_le l (stepN n x)
    simp only [List.foldl_cons, List.length_cons]
    have : stepN n x = n ∨ stepN n x = n + 1 := by unfold stepN; split <;> simp
    omega
theorem foldl_next {α β : Type} {l : List α} {k : Nat} {x : α} (f : β → α → β) (a : β) (h : l[k]? = some x) : (l.take (k + 1)).foldl f a = f ((l.take k).foldl f a) x := by
  rw [List.take_add_one, h, List.foldl_append]; rfl
def roundsN (l : List Int) (i : Nat) : Int := (List.range i).foldl (fun n _ => roundN l n) 0
theorem roundsN_next (l : List Int) (i : Nat) : roundsN l (i + 1) = roundN l (roundsN l i) := by
  unfold roundsN
  rw [List.range_succ, List.foldl_append]; rfl
def sumS (l : List ByteArray) : Nat := (l.map ByteArray.size).sum
theorem sumS_append (l m : List ByteArray) : sumS (l ++ m) = sumS l + sumS m := by unfold sumS; rw [List.map_append, List.sum_append]
mutual
theorem texts_sizeP : ∀ p : Pat, sumS (textsP p) ≤ 16 * massP p
  | .mk k n i s a b c l => by
    have h := texts_size l
    simp only [textsP, massP, sumS_append]
    split
    · simp only [sumS, List.map_cons, List.map_nil, List.sum_cons, List.sum_nil]
      unfold sumS at h
      omega
    · simp only [sumS, List.map_nil, List.sum_nil]
      unfold sumS at h
      omega
theorem texts_size : ∀ l : List Pat, sumS (textsL l) ≤ 16 * massL l
  | [] => Nat.le_refl _
  | p :: l => by
    have h1 := texts_sizeP p
    have h2 := texts_size l
    simp only [textsL, massL, sumS_append]
    omega
end
theorem sumS_get {l : List ByteArray} {k : Nat} {s : ByteArray} (h : l[k]? = some s) : sumS (l.take (k + 1)) = sumS (l.take k) + s.size := by
  rw [List.take_add_one, h, sumS_append]
  simp [sumS]
theorem sumS_take (l : List ByteArray) (k : Nat) : sumS (l.take k) ≤ sumS l := by
  have := sumS_append (l.take k) (l.drop k)
  rw [List.take_append_drop] at this
  omega
theorem foldS_size : ∀ (l : List ByteArray) (a : ByteArray), (l.foldl (· ++ ·) a).size = a.size + sumS l
  | [], a => by simp [sumS]
  | s :: l, a => by
    rw [List.foldl_cons, foldS_size l, ByteArray.size_append]
    simp only [sumS, List.map_cons, List.sum_cons]
    omega
def roomL (g : Sg) (L : List Pat) (N : List Int) (S : List ByteArray) : List DV := [.lst 3 (g.datas.map dataD), .lst 4 (g.cons.map conD), patsD L, intsD N, textsD S]
def roomD (r : RoomT) : List DV := roomL r.g r.l r.nums r.texts

set_option maxRecDepth 100000 in
set_option maxHeartbeats 8000000 in
theorem of_c (g : Sg) (l : List Pat) (hm : massL l ≤ 100000) : RunsP Try.prog 96 [.agg (sigD g), patsD l] (fun v => v = .agg (roomD (roomOf g l))) := by
  have hlit := literals_c l hm
  have hl1 := lits_len l
  have hsz := texts_size l
  unfold roomOf
  have hfn : freeN (numsL l) = roundsN (numsL l) (numsL l).length := rfl
  have hfs : freeS (textsL l) = (textsL l).foldl (· ++ ·) ⟨#[46]⟩ := rfl
  rw [hfn, hfs]
  clear hfn hfs
  generalize numsL l = N at *
  generalize textsL l = S at *
  have e1 : (N.map intRow).length = N.length := by simp
  have e2 : (S.map txtRow).length = S.length := by simp
  refine enterPB 60 tab_ok Try.func96 rfl (by kernel_rfl) rfl rfl rfl ?_
  repeat' (first
      | refine s_op rfl ?_ | (apply s_move; (iterate 4 (exact rfl))) | (apply s_ld_p tab_ok; (iterate 7 (exact rfl))) | (apply s_ld_f tab_ok; (iterate 6 (exact rfl))) | (apply s_ld_w tab_ok; (iterate 5 (exact rfl)); (first | exact patD_len _))
      | (apply s_assign; (iterate 4 (exact rfl))) | (apply s_len tab_ok; (iterate 5 (exact rfl))) | (apply s_lens str_ok; (iterate 4 (exact rfl))) | (apply s_idx tab_ok; (iterate 7 (exact rfl)); (first | exact patR_get (by assumption) | exact row_map (by assumption) | assumption)) | (apply s_ext; (iterate 5 (exact rfl)))
      | (apply s_build tabZ_ok; (iterate 5 (exact rfl))) | (apply s_boxZ; (iterate 5 (exact rfl)); first | exact rfl | exact allD_mapd _) | (apply s_lit tab_ok tabZ_ok; (iterate 10 (exact rfl))) | (apply s_lit1 tab_ok tabZ_ok; (iterate 9 (exact rfl)); (first | exact patD_len _)) | (apply s_app tab_ok tabZ_ok; (iterate 13 (exact rfl)); (first | (simp; done) | (simp; omega)))
      | (apply s_eql_t; (iterate 5 (exact rfl)); omega) | (apply s_eql_f; (iterate 5 (exact rfl)); omega) | (apply s_lss_t; (iterate 5 (exact rfl)); omega) | (apply s_lss_f; (iterate 5 (exact rfl)); omega) | (apply s_add64; (iterate 5 (exact rfl)); omega)
      | (apply s_stradd; (iterate 5 (exact rfl)); omega)
      | (apply s_allocF tabZ_ok; (iterate 6 (exact rfl)); intro locR σ hc; have hR := hc.at'; clear hc)
      | (apply s_call; (iterate 6 (exact rfl)); first | (exact hlit; rintro _ rfl))
      | refine al_nil ?_ | refine q_then_n ?_ | refine q_blk_n ?_ | refine q_blk_r ?_ | refine q_blk_e ?_
      | refine q_blk_o rfl ?_ | refine q_then_e ?_ | refine aw_block ?_ | refine aw_exit ?_ | refine q_then_r ?_
      | refine aw_seq ?_ | refine aw_reg ?_ | refine aw_true rfl ?_ | refine aw_false rfl ?_ | refine aw_skip ?_
      | refine aw_ret ?_ | refine al_fork ?_ ?_ | refine al_fork3 ?_ ?_ ?_
      | refine aw_draws (id := 16) (trO [1, 2, 4, 6, 8] (.fork3 0 (.fork 3 (.fork 5 (trO [7, 9, 10, 11] .nil) 7 (trO [5, 9, 10, 11] .nil)) 7 (trO [3, 5, 9, 10, 11] .nil)) 3 (.fork3 0 (.fork 5 (trO [7, 9, 10, 11] .nil) 7 (trO [5, 9, 10, 11] .nil)) 5 (.fork 0 (trO [7, 9, 10, 11] .nil) 7 (.fork 0 (trO [9, 10, 11] .nil) 9 (trO [0, 10, 11] .nil))) 7 (.fork 0 (trO [5, 9, 10, 11] .nil) 5 (.fork 0 (trO [9, 10, 11] .nil) 9 (trO [0, 10, 11] .nil)))) 7 (.fork 0 (trO [3, 5, 9, 10, 11] .nil) 3 (.fork 0 (trO [5, 9, 10, 11] .nil) 5 (.fork 0 (trO [9, 10, 11] .nil) 9 (trO [0, 10, 11] .nil)))))) [0, 3, 5, 7, 9, 11] [5, 9, 11] mixed_ok (by kernel_rfl) ?_)
  refine w_loop [1, 2, 4, 5, 6, 7, 8, 9] (fun n vs σ => ∃ i : Nat, vs = [.d (patsD l), .d (.fptr (sigD g)), .ptr locR 0 0, .d (intsD N), .d (textsD S), .d (.v (.int .i64 (roundsN N i))), .d (.v (.string ⟨#[46]⟩)), .d (.v (.int .i64 (i : Int)))] ∧ σ[locR]? = some (.row 163 [.d .nil, .d .nil, .d .nil, .d .nil, .d .nil]) ∧ i ≤ N.length ∧ n = N.length - i ∧ 0 ≤ roundsN N i ∧ roundsN N i ≤ i * 100000) rfl ⟨0, rfl, hR, by omega, rfl, Int.le_refl _, Int.le_refl _⟩ ?_
  clear hR
  rintro n vs σ ⟨i, rfl, hR, hi, rfl, hb1, hb2⟩ fr hfr
  cases hfr
  by_cases hlt : i < N.length
  · repeat' (first
      | refine s_op rfl ?_ | (apply s_move; (iterate 4 (exact rfl))) | (apply s_ld_p tab_ok; (iterate 7 (exact rfl))) | (apply s_ld_f tab_ok; (iterate 6 (exact rfl))) | (apply s_ld_w tab_ok; (iterate 5 (exact rfl)); (first | exact patD_len _))
      | (apply s_assign; (iterate 4 (exact rfl))) | (apply s_len tab_ok; (iterate 5 (exact rfl))) | (apply s_lens str_ok; (iterate 4 (exact rfl))) | (apply s_idx tab_ok; (iterate 7 (exact rfl)); (first | exact patR_get (by assumption) | exact row_map (by assumption) | assumption)) | (apply s_ext; (iterate 5 (exact rfl)))
      | (apply s_build tabZ_ok; (iterate 5 (exact rfl))) | (apply s_alloc tabZ_ok; (iterate 7 (exact rfl))) | (apply s_boxZ; (iterate 5 (exact rfl)); first | exact rfl | exact allD_mapd _) | (apply s_store tab_ok; (iterate 10 (exact rfl))) | (apply s_lit tab_ok tabZ_ok; (iterate 10 (exact rfl)))
      | (apply s_lit1 tab_ok tabZ_ok; (iterate 9 (exact rfl)); (first | exact patD_len _)) | (apply s_app tab_ok tabZ_ok; (iterate 13 (exact rfl)); (first | (simp; done) | (simp; omega))) | (apply s_eql_t; (iterate 5 (exact rfl)); omega) | (apply s_eql_f; (iterate 5 (exact rfl)); omega) | (apply s_lss_t; (iterate 5 (exact rfl)); omega)
      | (apply s_lss_f; (iterate 5 (exact rfl)); omega) | (apply s_add64; (iterate 5 (exact rfl)); omega) | (apply s_stradd; (iterate 5 (exact rfl)); omega)
      | refine al_nil ?_ | refine q_then_n ?_ | refine q_blk_n ?_ | refine q_blk_r ?_ | refine q_blk_e ?_
      | refine q_blk_o rfl ?_ | refine q_then_e ?_ | refine aw_block ?_ | refine aw_exit ?_ | refine q_then_r ?_
      | refine aw_seq ?_ | refine aw_reg ?_ | refine aw_true rfl ?_ | refine aw_false rfl ?_ | refine aw_skip ?_
      | refine aw_ret ?_ | refine al_fork ?_ ?_ | refine al_fork3 ?_ ?_ ?_
      | refine aw_draws (id := 16) (trO [1, 2, 4, 6, 8] (.fork3 0 (.fork 3 (.fork 5 (trO [7, 9, 10, 11] .nil) 7 (trO [5, 9, 10, 11] .nil)) 7 (trO [3, 5, 9, 10, 11] .nil)) 3 (.fork3 0 (.fork 5 (trO [7, 9, 10, 11] .nil) 7 (trO [5, 9, 10, 11] .nil)) 5 (.fork 0 (trO [7, 9, 10, 11] .nil) 7 (.fork 0 (trO [9, 10, 11] .nil) 9 (trO [0, 10, 11] .nil))) 7 (.fork 0 (trO [5, 9, 10, 11] .nil) 5 (.fork 0 (trO [9, 10, 11] .nil) 9 (trO [0, 10, 11] .nil)))) 7 (.fork 0 (trO [3, 5, 9, 10, 11] .nil) 3 (.fork 0 (trO [5, 9, 10, 11] .nil) 5 (.fork 0 (trO [9, 10, 11] .nil) 9 (trO [0, 10, 11] .nil)))))) [0, 3, 5, 7, 9, 11] [5, 9, 11] mixed_ok (by kernel_rfl) ?_)
    have hst : roundsN N (i + 1) = N.foldl stepN (roundsN N i) := roundsN_next N i
    generalize roundsN N i = n0 at *
    refine w_loop [1, 2, 4, 5, 6, 7, 8, 9, 10] (fun n vs σ => ∃ k : Nat, vs = [.d (patsD l), .d (.fptr (sigD g)), .ptr locR 0 0, .d (intsD N), .d (textsD S), .d (.v (.int .i64 ((N.take k).foldl stepN n0))), .d (.v (.string ⟨#[46]⟩)), .d (.v (.int .i64 (i : Int))), .d (.v (.int .i64 (k : Int)))] ∧ σ[locR]? = some (.row 163 [.d .nil, .d .nil, .d .nil, .d .nil, .d .nil]) ∧ k ≤ N.length ∧ n = N.length - k) rfl ⟨0, rfl, hR, by omega, rfl⟩ ?_
    clear hR
    rintro n vs σ ⟨k, rfl, hR, hk, rfl⟩ fr hfr
    cases hfr
    have hle := step_le (N.take k) n0
    rw [List.length_take] at hle
    by_cases hkl : k < N.length
    · obtain ⟨x, hx⟩ := getS hkl
      have hnx := foldl_next stepN n0 hx
      generalize (N.take k).foldl stepN n0 = m at *
      by_cases hxm : x = m
      · subst hxm
        rw [show stepN x x = x + 1 from if_pos rfl] at hnx
        repeat' (first
      | refine s_op rfl ?_ | (apply s_move; (iterate 4 (exact rfl))) | (apply s_ld_p tab_ok; (iterate 7 (exact rfl))) | (apply s_ld_f tab_ok; (iterate 6 (exact rfl))) | (apply s_ld_w tab_ok; (iterate 5 (exact rfl)); (first | exact patD_len _))
      | (apply s_assign; (iterate 4 (exact rfl))) | (apply s_len tab_ok; (iterate 5 (exact rfl))) | (apply s_lens str_ok; (iterate 4 (exact rfl))) | (apply s_idx tab_ok; (iterate 7 (exact rfl)); (first | exact patR_get (by assumption) | exact row_map (by assumption) | assumption)) | (apply s_ext; (iterate 5 (exact rfl)))
      | (apply s_build tabZ_ok; (iterate 5 (exact rfl))) | (apply s_alloc tabZ_ok; (iterate 7 (exact rfl))) | (apply s_boxZ; (iterate 5 (exact rfl)); first | exact rfl | exact allD_mapd _) | (apply s_store tab_ok; (iterate 10 (exact rfl))) | (apply s_lit tab_ok tabZ_ok; (iterate 10 (exact rfl)))
      | (apply s_lit1 tab_ok tabZ_ok; (iterate 9 (exact rfl)); (first | exact patD_len _)) | (apply s_app tab_ok tabZ_ok; (iterate 13 (exact rfl)); (first | (simp; done) | (simp; omega))) | (apply s_eql_t; (iterate 5 (exact rfl)); omega) | (apply s_eql_f; (iterate 5 (exact rfl)); omega) | (apply s_lss_t; (iterate 5 (exact rfl)); omega)
      | (apply s_lss_f; (iterate 5 (exact rfl)); omega) | (apply s_add64; (iterate 5 (exact rfl)); omega) | (apply s_stradd; (iterate 5 (exact rfl)); omega)
      | refine al_nil ?_ | refine q_then_n ?_ | refine q_blk_n ?_ | refine q_blk_r ?_ | refine q_blk_e ?_
      | refine q_blk_o rfl ?_ | refine q_then_e ?_ | refine aw_block ?_ | refine aw_exit ?_ | refine q_then_r ?_
      | refine aw_seq ?_ | refine aw_reg ?_ | refine aw_true rfl ?_ | refine aw_false rfl ?_ | refine aw_skip ?_
      | refine aw_ret ?_ | refine al_fork ?_ ?_ | refine al_fork3 ?_ ?_ ?_
      | refine aw_draws (id := 16) (trO [1, 2, 4, 6, 8] (.fork3 0 (.fork 3 (.fork 5 (trO [7, 9, 10, 11] .nil) 7 (trO [5, 9, 10, 11] .nil)) 7 (trO [3, 5, 9, 10, 11] .nil)) 3 (.fork3 0 (.fork 5 (trO [7, 9, 10, 11] .nil) 7 (trO [5, 9, 10, 11] .nil)) 5 (.fork 0 (trO [7, 9, 10, 11] .nil) 7 (.fork 0 (trO [9, 10, 11] .nil) 9 (trO [0, 10, 11] .nil))) 7 (.fork 0 (trO [5, 9, 10, 11] .nil) 5 (.fork 0 (trO [9, 10, 11] .nil) 9 (trO [0, 10, 11] .nil)))) 7 (.fork 0 (trO [3, 5, 9, 10, 11] .nil) 3 (.fork 0 (trO [5, 9, 10, 11] .nil) 5 (.fork 0 (trO [9, 10, 11] .nil) 9 (trO [0, 10, 11] .nil)))))) [0, 3, 5, 7, 9, 11] [5, 9, 11] mixed_ok (by kernel_rfl) ?_)
        exact ⟨_, _, rfl, by omega, k + 1, by rw [hnx]; rfl, hR, by omega, rfl⟩
      · rw [show stepN m x = m from if_neg hxm] at hnx
        repeat' (first
      | refine s_op rfl ?_ | (apply s_move; (iterate 4 (exact rfl))) | (apply s_ld_p tab_ok; (iterate 7 (exact rfl))) | (apply s_ld_f tab_ok; (iterate 6 (exact rfl))) | (apply s_ld_w tab_ok; (iterate 5 (exact rfl)); (first | exact patD_len _))
      | (apply s_assign; (iterate 4 (exact rfl))) | (apply s_len tab_ok; (iterate 5 (exact rfl))) | (apply s_lens str_ok; (iterate 4 (exact rfl))) | (apply s_idx tab_ok; (iterate 7 (exact rfl)); (first | exact patR_get (by assumption) | exact row_map (by assumption) | assumption)) | (apply s_ext; (iterate 5 (exact rfl)))
      | (apply s_build tabZ_ok; (iterate 5 (exact rfl))) | (apply s_alloc tabZ_ok; (iterate 7 (exact rfl))) | (apply s_boxZ; (iterate 5 (exact rfl)); first | exact rfl | exact allD_mapd _) | (apply s_store tab_ok; (iterate 10 (exact rfl))) | (apply s_lit tab_ok tabZ_ok; (iterate 10 (exact rfl)))
      | (apply s_lit1 tab_ok tabZ_ok; (iterate 9 (exact rfl)); (first | exact patD_len _)) | (apply s_app tab_ok tabZ_ok; (iterate 13 (exact rfl)); (first | (simp; done) | (simp; omega))) | (apply s_eql_t; (iterate 5 (exact rfl)); omega) | (apply s_eql_f; (iterate 5 (exact rfl)); omega) | (apply s_lss_t; (iterate 5 (exact rfl)); omega)
      | (apply s_lss_f; (iterate 5 (exact rfl)); omega) | (apply s_add64; (iterate 5 (exact rfl)); omega) | (apply s_stradd; (iterate 5 (exact rfl)); omega)
      | refine al_nil ?_ | refine q_then_n ?_ | refine q_blk_n ?_ | refine q_blk_r ?_ | refine q_blk_e ?_
      | refine q_blk_o rfl ?_ | refine q_then_e ?_ | refine aw_block ?_ | refine aw_exit ?_ | refine q_then_r ?_
      | refine aw_seq ?_ | refine aw_reg ?_ | refine aw_true rfl ?_ | refine aw_false rfl ?_ | refine aw_skip ?_
      | refine aw_ret ?_ | refine al_fork ?_ ?_ | refine al_fork3 ?_ ?_ ?_
      | refine aw_draws (id := 16) (trO [1, 2, 4, 6, 8] (.fork3 0 (.fork 3 (.fork 5 (trO [7, 9, 10, 11] .nil) 7 (trO [5, 9, 10, 11] .nil)) 7 (trO [3, 5, 9, 10, 11] .nil)) 3 (.fork3 0 (.fork 5 (trO [7, 9, 10, 11] .nil) 7 (trO [5, 9, 10, 11] .nil)) 5 (.fork 0 (trO [7, 9, 10, 11] .nil) 7 (.fork 0 (trO [9, 10, 11] .nil) 9 (trO [0, 10, 11] .nil))) 7 (.fork 0 (trO [5, 9, 10, 11] .nil) 5 (.fork 0 (trO [9, 10, 11] .nil) 9 (trO [0, 10, 11] .nil)))) 7 (.fork 0 (trO [3, 5, 9, 10, 11] .nil) 3 (.fork 0 (trO [5, 9, 10, 11] .nil) 5 (.fork 0 (trO [9, 10, 11] .nil) 9 (trO [0, 10, 11] .nil)))))) [0, 3, 5, 7, 9, 11] [5, 9, 11] mixed_ok (by kernel_rfl) ?_)
        exact ⟨_, _, rfl, by omega, k + 1, by rw [hnx]; rfl, hR, by omega, rfl⟩
    · rw [List.take_of_length_le (by omega)]
      rw [List.take_of_length_le (by omega)] at hle
      repeat' (first
      | refine s_op rfl ?_ | (apply s_move; (iterate 4 (exact rfl))) | (apply s_ld_p tab_ok; (iterate 7 (exact rfl))) | (apply s_ld_f tab_ok; (iterate 6 (exact rfl))) | (apply s_ld_w tab_ok; (iterate 5 (exact rfl)); (first | exact patD_len _))
      | (apply s_assign; (iterate 4 (exact rfl))) | (apply s_len tab_ok; (iterate 5 (exact rfl))) | (apply s_lens str_ok; (iterate 4 (exact rfl))) | (apply s_idx tab_ok; (iterate 7 (exact rfl)); (first | exact patR_get (by assumption) | exact row_map (by assumption) | assumption)) | (apply s_ext; (iterate 5 (exact rfl)))
      | (apply s_build tabZ_ok; (iterate 5 (exact rfl))) | (apply s_alloc tabZ_ok; (iterate 7 (exact rfl))) | (apply s_boxZ; (iterate 5 (exact rfl)); first | exact rfl | exact allD_mapd _) | (apply s_store tab_ok; (iterate 10 (exact rfl))) | (apply s_lit tab_ok tabZ_ok; (iterate 10 (exact rfl)))
      | (apply s_lit1 tab_ok tabZ_ok; (iterate 9 (exact rfl)); (first | exact patD_len _)) | (apply s_app tab_ok tabZ_ok; (iterate 13 (exact rfl)); (first | (simp; done) | (simp; omega))) | (apply s_eql_t; (iterate 5 (exact rfl)); omega) | (apply s_eql_f; (iterate 5 (exact rfl)); omega) | (apply s_lss_t; (iterate 5 (exact rfl)); omega)
      | (apply s_lss_f; (iterate 5 (exact rfl)); omega) | (apply s_add64; (iterate 5 (exact rfl)); omega) | (apply s_stradd; (iterate 5 (exact rfl)); omega)
      | refine al_nil ?_ | refine q_then_n ?_ | refine q_blk_n ?_ | refine q_blk_r ?_ | refine q_blk_e ?_
      | refine q_blk_o rfl ?_ | refine q_then_e ?_ | refine aw_block ?_ | refine aw_exit ?_ | refine q_then_r ?_
      | refine aw_seq ?_ | refine aw_reg ?_ | refine aw_true rfl ?_ | refine aw_false rfl ?_ | refine aw_skip ?_
      | refine aw_ret ?_ | refine al_fork ?_ ?_ | refine al_fork3 ?_ ?_ ?_
      | refine aw_draws (id := 16) (trO [1, 2, 4, 6, 8] (.fork3 0 (.fork 3 (.fork 5 (trO [7, 9, 10, 11] .nil) 7 (trO [5, 9, 10, 11] .nil)) 7 (trO [3, 5, 9, 10, 11] .nil)) 3 (.fork3 0 (.fork 5 (trO [7, 9, 10, 11] .nil) 7 (trO [5, 9, 10, 11] .nil)) 5 (.fork 0 (trO [7, 9, 10, 11] .nil) 7 (.fork 0 (trO [9, 10, 11] .nil) 9 (trO [0, 10, 11] .nil))) 7 (.fork 0 (trO [5, 9, 10, 11] .nil) 5 (.fork 0 (trO [9, 10, 11] .nil) 9 (trO [0, 10, 11] .nil)))) 7 (.fork 0 (trO [3, 5, 9, 10, 11] .nil) 3 (.fork 0 (trO [5, 9, 10, 11] .nil) 5 (.fork 0 (trO [9, 10, 11] .nil) 9 (trO [0, 10, 11] .nil)))))) [0, 3, 5, 7, 9, 11] [5, 9, 11] mixed_ok (by kernel_rfl) ?_)
      exact ⟨_, _, rfl, by omega, i + 1, by rw [hst]; rfl, hR, by omega, rfl, by rw [hst]; omega, by rw [hst]; omega⟩
  · have hiN : i = N.length := by omega
    subst hiN
    generalize roundsN N N.length = n0 at *
    repeat' (first
      | refine s_op rfl ?_ | (apply s_move; (iterate 4 (exact rfl))) | (apply s_ld_p tab_ok; (iterate 7 (exact rfl))) | (apply s_ld_f tab_ok; (iterate 6 (exact rfl))) | (apply s_ld_w tab_ok; (iterate 5 (exact rfl)); (first | exact patD_len _))
      | (apply s_assign; (iterate 4 (exact rfl))) | (apply s_len tab_ok; (iterate 5 (exact rfl))) | (apply s_lens str_ok; (iterate 4 (exact rfl))) | (apply s_idx tab_ok; (iterate 7 (exact rfl)); (first | exact patR_get (by assumption) | exact row_map (by assumption) | assumption)) | (apply s_ext; (iterate 5 (exact rfl)))
      | (apply s_build tabZ_ok; (iterate 5 (exact rfl))) | (apply s_alloc tabZ_ok; (iterate 7 (exact rfl))) | (apply s_boxZ; (iterate 5 (exact rfl)); first | exact rfl | exact allD_mapd _) | (apply s_store tab_ok; (iterate 10 (exact rfl))) | (apply s_lit tab_ok tabZ_ok; (iterate 10 (exact rfl)))
      | (apply s_lit1 tab_ok tabZ_ok; (iterate 9 (exact rfl)); (first | exact patD_len _)) | (apply s_app tab_ok tabZ_ok; (iterate 13 (exact rfl)); (first | (simp; done) | (simp; omega))) | (apply s_eql_t; (iterate 5 (exact rfl)); omega) | (apply s_eql_f; (iterate 5 (exact rfl)); omega) | (apply s_lss_t; (iterate 5 (exact rfl)); omega)
      | (apply s_lss_f; (iterate 5 (exact rfl)); omega) | (apply s_add64; (iterate 5 (exact rfl)); omega) | (apply s_stradd; (iterate 5 (exact rfl)); omega)
      | refine al_nil ?_ | refine q_then_n ?_ | refine q_blk_n ?_ | refine q_blk_r ?_ | refine q_blk_e ?_
      | refine q_blk_o rfl ?_ | refine q_then_e ?_ | refine aw_block ?_ | refine aw_exit ?_ | refine q_then_r ?_
      | refine aw_seq ?_ | refine aw_reg ?_ | refine aw_true rfl ?_ | refine aw_false rfl ?_ | refine aw_skip ?_
      | refine aw_ret ?_ | refine al_fork ?_ ?_ | refine al_fork3 ?_ ?_ ?_
      | refine aw_draws (id := 16) (trO [1, 2, 4, 6, 8] (.fork3 0 (.fork 3 (.fork 5 (trO [7, 9, 10, 11] .nil) 7 (trO [5, 9, 10, 11] .nil)) 7 (trO [3, 5, 9, 10, 11] .nil)) 3 (.fork3 0 (.fork 5 (trO [7, 9, 10, 11] .nil) 7 (trO [5, 9, 10, 11] .nil)) 5 (.fork 0 (trO [7, 9, 10, 11] .nil) 7 (.fork 0 (trO [9, 10, 11] .nil) 9 (trO [0, 10, 11] .nil))) 7 (.fork 0 (trO [5, 9, 10, 11] .nil) 5 (.fork 0 (trO [9, 10, 11] .nil) 9 (trO [0, 10, 11] .nil)))) 7 (.fork 0 (trO [3, 5, 9, 10, 11] .nil) 3 (.fork 0 (trO [5, 9, 10, 11] .nil) 5 (.fork 0 (trO [9, 10, 11] .nil) 9 (trO [0, 10, 11] .nil)))))) [0, 3, 5, 7, 9, 11] [5, 9, 11] mixed_ok (by kernel_rfl) ?_)
    clear hlt hi
    refine w_loop [1, 2, 4, 5, 6, 7, 8, 11] (fun n vs σ => ∃ k : Nat, vs = [.d (patsD l), .d (.fptr (sigD g)), .ptr locR 0 0, .d (intsD N), .d (textsD S), .d (.v (.int .i64 n0)), .d (.v (.string ((S.take k).foldl (· ++ ·) ⟨#[46]⟩))), .d (.v (.int .i64 (k : Int)))] ∧ σ[locR]? = some (.row 163 [.d .nil, .d .nil, .d .nil, .d .nil, .d .nil]) ∧ k ≤ S.length ∧ n = S.length - k) rfl ⟨0, rfl, hR, by omega, rfl⟩ ?_
    clear hR
    rintro n vs σ ⟨k, rfl, hR, hk, rfl⟩ fr hfr
    cases hfr
    by_cases hkl : k < S.length
    · obtain ⟨x, hx⟩ := getS hkl
      have hnx := foldl_next (· ++ ·) (⟨#[46]⟩ : ByteArray) hx
      have hfz := foldS_size (S.take k) ⟨#[46]⟩
      have h46 : (⟨#[46]⟩ : ByteArray).size = 1 := rfl
      have hg := sumS_get hx
      have hg2 := sumS_take S (k + 1)
      generalize (S.take k).foldl (· ++ ·) (⟨#[46]⟩ : ByteArray) = m at *
      repeat' (first
      | refine s_op rfl ?_ | (apply s_move; (iterate 4 (exact rfl))) | (apply s_ld_p tab_ok; (iterate 7 (exact rfl))) | (apply s_ld_f tab_ok; (iterate 6 (exact rfl))) | (apply s_ld_w tab_ok; (iterate 5 (exact rfl)); (first | exact patD_len _))
      | (apply s_assign; (iterate 4 (exact rfl))) | (apply s_len tab_ok; (iterate 5 (exact rfl))) | (apply s_lens str_ok; (iterate 4 (exact rfl))) | (apply s_idx tab_ok; (iterate 7 (exact rfl)); (first | exact patR_get (by assumption) | exact row_map (by assumption) | assumption)) | (apply s_ext; (iterate 5 (exact rfl)))
      | (apply s_build tabZ_ok; (iterate 5 (exact rfl))) | (apply s_alloc tabZ_ok; (iterate 7 (exact rfl))) | (apply s_boxZ; (iterate 5 (exact rfl)); first | exact rfl | exact allD_mapd _) | (apply s_store tab_ok; (iterate 10 (exact rfl))) | (apply s_lit tab_ok tabZ_ok; (iterate 10 (exact rfl)))
      | (apply s_lit1 tab_ok tabZ_ok; (iterate 9 (exact rfl)); (first | exact patD_len _)) | (apply s_app tab_ok tabZ_ok; (iterate 13 (exact rfl)); (first | (simp; done) | (simp; omega))) | (apply s_eql_t; (iterate 5 (exact rfl)); omega) | (apply s_eql_f; (iterate 5 (exact rfl)); omega) | (apply s_lss_t; (iterate 5 (exact rfl)); omega)
      | (apply s_lss_f; (iterate 5 (exact rfl)); omega) | (apply s_add64; (iterate 5 (exact rfl)); omega) | (apply s_stradd; (iterate 5 (exact rfl)); omega)
      | refine al_nil ?_ | refine q_then_n ?_ | refine q_blk_n ?_ | refine q_blk_r ?_ | refine q_blk_e ?_
      | refine q_blk_o rfl ?_ | refine q_then_e ?_ | refine aw_block ?_ | refine aw_exit ?_ | refine q_then_r ?_
      | refine aw_seq ?_ | refine aw_reg ?_ | refine aw_true rfl ?_ | refine aw_false rfl ?_ | refine aw_skip ?_
      | refine aw_ret ?_ | refine al_fork ?_ ?_ | refine al_fork3 ?_ ?_ ?_
      | refine aw_draws (id := 16) (trO [1, 2, 4, 6, 8] (.fork3 0 (.fork 3 (.fork 5 (trO [7, 9, 10, 11] .nil) 7 (trO [5, 9, 10, 11] .nil)) 7 (trO [3, 5, 9, 10, 11] .nil)) 3 (.fork3 0 (.fork 5 (trO [7, 9, 10, 11] .nil) 7 (trO [5, 9, 10, 11] .nil)) 5 (.fork 0 (trO [7, 9, 10, 11] .nil) 7 (.fork 0 (trO [9, 10, 11] .nil) 9 (trO [0, 10, 11] .nil))) 7 (.fork 0 (trO [5, 9, 10, 11] .nil) 5 (.fork 0 (trO [9, 10, 11] .nil) 9 (trO [0, 10, 11] .nil)))) 7 (.fork 0 (trO [3, 5, 9, 10, 11] .nil) 3 (.fork 0 (trO [5, 9, 10, 11] .nil) 5 (.fork 0 (trO [9, 10, 11] .nil) 9 (trO [0, 10, 11] .nil)))))) [0, 3, 5, 7, 9, 11] [5, 9, 11] mixed_ok (by kernel_rfl) ?_)
      exact ⟨_, _, rfl, by omega, k + 1, by rw [hnx]; rfl, hR, by omega, rfl⟩
    · rw [List.take_of_length_le (by omega)]
      generalize S.foldl (· ++ ·) (⟨#[46]⟩ : ByteArray) = s0 at *
      repeat' (first
      | refine s_op rfl ?_ | (apply s_move; (iterate 4 (exact rfl))) | (apply s_ld_p tab_ok; (iterate 7 (exact rfl))) | (apply s_ld_f tab_ok; (iterate 6 (exact rfl))) | (apply s_ld_w tab_ok; (iterate 5 (exact rfl)); (first | exact patD_len _))
      | (apply s_assign; (iterate 4 (exact rfl))) | (apply s_len tab_ok; (iterate 5 (exact rfl))) | (apply s_lens str_ok; (iterate 4 (exact rfl))) | (apply s_idx tab_ok; (iterate 7 (exact rfl)); (first | exact patR_get (by assumption) | exact row_map (by assumption) | assumption)) | (apply s_ext; (iterate 5 (exact rfl)))
      | (apply s_alloc tabZ_ok; (iterate 7 (exact rfl))) | (apply s_boxZ; (iterate 5 (exact rfl)); first | exact rfl | exact allD_mapd _) | (apply s_eql_t; (iterate 5 (exact rfl)); omega) | (apply s_eql_f; (iterate 5 (exact rfl)); omega) | (apply s_lss_t; (iterate 5 (exact rfl)); omega)
      | (apply s_lss_f; (iterate 5 (exact rfl)); omega) | (apply s_add64; (iterate 5 (exact rfl)); omega) | (apply s_stradd; (iterate 5 (exact rfl)); omega)
      | (apply s_litO tab_ok tabZ_ok (t := 160) (m := 1); (iterate 12 (exact rfl)); intro locA σ hc; have hA := hc.at'; have nRA := hc.ne hR; replace hR := hc.keep hR; (try have nBA := hc.ne hB); (try replace hB := hc.keep hB); clear hc)
      | (apply s_litO tab_ok tabZ_ok (t := 161) (m := 1); (iterate 12 (exact rfl)); intro locB σ hc; have hB := hc.at'; have nRB := hc.ne hR; replace hR := hc.keep hR; (try have nAB := hc.ne hA); (try replace hA := hc.keep hA); clear hc)
      | (apply s_appF tab_ok tabZ_ok (t := 160) (rows2 := N.map intRow) (rows3 := (n0 :: N).map intRow) (m := (n0 :: N).length); (iterate 10 (exact rfl)); exact hA; exact src_of (Tab.slIs tab_ok (t := 160) rfl) (rows_d rfl); exact rfl; (refine ⟨?_, ?_, ?_⟩ <;> first | omega | (simp only [List.length_append, List.length_map, List.length_cons, List.length_nil] <;> omega)); intro σ hc; replace hA := hc.at'; replace hR := hc.keep (by first | assumption | (apply Ne.symm; assumption)) hR; (try replace hB := hc.keep (by first | assumption | (apply Ne.symm; assumption)) hB); clear hc)
      | (apply s_appF tab_ok tabZ_ok (t := 161) (rows2 := S.map txtRow) (rows3 := (s0 :: S).map txtRow) (m := (s0 :: S).length); (iterate 10 (exact rfl)); exact hB; exact src_of (Tab.slIs tab_ok (t := 161) rfl) (rows_d rfl); exact rfl; (refine ⟨?_, ?_, ?_⟩ <;> first | omega | (simp only [List.length_append, List.length_map, List.length_cons, List.length_nil] <;> omega)); intro σ hc; replace hB := hc.at'; replace hR := hc.keep (by first | assumption | (apply Ne.symm; assumption)) hR; (try replace hA := hc.keep (by first | assumption | (apply Ne.symm; assumption)) hA); clear hc)
      | (refine o_freezeF 54 rfl hA (by simp) ?_; intro σ hc; replace hR := hc.keep (by first | assumption | (apply Ne.symm; assumption)) hR; (try replace hB := hc.keep (by first | assumption | (apply Ne.symm; assumption)) hB); clear hc hA)
      | (refine o_freezeF 58 rfl hB (by simp) ?_; intro σ hc; replace hR := hc.keep (by first | assumption | (apply Ne.symm; assumption)) hR; (try replace hA := hc.keep (by first | assumption | (apply Ne.symm; assumption)) hA); clear hc hB)
      | (apply s_build tabZ_ok; (iterate 5 (exact rfl)))
      | (apply s_storeF tab_ok; (iterate 7 (exact rfl)); exact hR; (iterate 2 (exact rfl)); intro σ hc; replace hR := hc.at'; clear hc)
      | refine al_nil ?_ | refine q_then_n ?_ | refine q_blk_n ?_ | refine q_blk_r ?_ | refine q_blk_e ?_
      | refine q_blk_o rfl ?_ | refine q_then_e ?_ | refine aw_block ?_ | refine aw_exit ?_ | refine q_then_r ?_
      | refine aw_seq ?_ | refine aw_reg ?_ | refine aw_true rfl ?_ | refine aw_false rfl ?_ | refine aw_skip ?_
      | refine aw_ret ?_ | refine al_fork ?_ ?_ | refine al_fork3 ?_ ?_ ?_
      | refine aw_draws (id := 16) (trO [1, 2, 4, 6, 8] (.fork3 0 (.fork 3 (.fork 5 (trO [7, 9, 10, 11] .nil) 7 (trO [5, 9, 10, 11] .nil)) 7 (trO [3, 5, 9, 10, 11] .nil)) 3 (.fork3 0 (.fork 5 (trO [7, 9, 10, 11] .nil) 7 (trO [5, 9, 10, 11] .nil)) 5 (.fork 0 (trO [7, 9, 10, 11] .nil) 7 (.fork 0 (trO [9, 10, 11] .nil) 9 (trO [0, 10, 11] .nil))) 7 (.fork 0 (trO [5, 9, 10, 11] .nil) 5 (.fork 0 (trO [9, 10, 11] .nil) 9 (trO [0, 10, 11] .nil)))) 7 (.fork 0 (trO [3, 5, 9, 10, 11] .nil) 3 (.fork 0 (trO [5, 9, 10, 11] .nil) 5 (.fork 0 (trO [9, 10, 11] .nil) 9 (trO [0, 10, 11] .nil)))))) [0, 3, 5, 7, 9, 11] [5, 9, 11] mixed_ok (by kernel_rfl) ?_)
      all_goals exact q_retB (resB_1 rfl (resV_c (t := 163) rfl rfl hR rfl)) ⟨_, rfl, rfl⟩
end Go.Proofs.Ytjflembhgjcgkaa
