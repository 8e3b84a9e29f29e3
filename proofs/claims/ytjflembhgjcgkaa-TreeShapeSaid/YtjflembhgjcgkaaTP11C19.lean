/- C19: below, others, heads, rows, of the program. -/
import Derived.Test.YtjflembhgjcgkaaTP11C13x2
import Derived.Test.YtjflembhgjcgkaaTP11XM4M7M5
set_option linter.unusedSimpArgs false
set_option linter.unusedVariables false
namespace Go.Proofs.Ytjflembhgjcgkaa
open Go.RowKit

section
variable {rows : List (List Pat)} {m : Nat}
theorem rowsD_len (M : List (List Pat)) : (M.map rowD).length = M.length := by simp

set_option maxRecDepth 100000 in
set_option maxHeartbeats 4000000 in
theorem below_c (h : Head) (kids : Nat) (hk : kids ≤ 10000000) (hm : m ≤ 10000000) (hr : RowsB m rows) (hne : ∀ r ∈ rows, r ≠ []) : RunsP Try.prog 91 [rowsD rows, .agg (headD h), .v (.int .i64 (kids : Int))] (fun v => v = rowsD (belowL rows h kids)) := by
  refine RunsP.ofOwn (rows := (belowL rows h kids).map rowD) ?_
  have e1 := rowsD_len rows
  have l1 := hr.len
  have han := anys_c kids (by omega)
  refine enter 50 Try.func91 rfl (by kernel_rfl) rfl rfl rfl ?_
  repeat' (first | refine s_op rfl ?_ | (apply s_move; (iterate 4 (exact rfl))) | (apply s_assign; (iterate 4 (exact rfl))) | (apply s_len tab_ok; (iterate 5 (exact rfl))) | (apply s_boxZ; (iterate 5 (exact rfl)); first | exact rfl | exact allD_mapd _) | refine al_nil ?_ | refine q_then_n ?_ | refine aw_block ?_ | refine aw_seq ?_ | refine aw_reg ?_)
  refine w_adoptF 7 26 1 rfl ?_
  intro locN σ hc
  refine w_loop [2, 4, 7, 13, 14, 15] (fun n vs σ => ∃ k ver : Nat, vs = [.d (.v (.int .i64 (kids : Int))), .d (.fptr (headD h)), .own locN ver 1 0 ((belowL (rows.take k) h kids).map rowD).length, .d (rowsD rows), .d (.v (.int .i64 ((rows.map rowD).length : Int))), .d (.v (.int .i64 (k : Int)))] ∧ σ[locN]? = some (.arr 26 1 ver ((belowL (rows.take k) h kids).map rowD)) ∧ k ≤ rows.length ∧ n = rows.length - k) rfl ⟨0, 0, rfl, hc.at', by omega, rfl⟩ ?_
  clear hc
  rintro n vs σ ⟨k, ver, rfl, hN, hk2, rfl⟩ fr hfr
  cases hfr
  have lN : ((belowL (rows.take k) h kids).map rowD).length ≤ 10000000 := by rw [List.length_map]; exact Nat.le_trans (filterMap_len _ _ _) (by omega)
  by_cases hlt : k < rows.length
  · obtain ⟨r, hq⟩ := getS hlt
    have hrm := List.mem_of_getElem? hq
    cases r with
    | nil => exact absurd rfl (hne _ hrm)
    | cons p rest =>
    obtain ⟨pk, pn, pi, ps, pa, pb, pc, pl⟩ := p
    have hsm := hr.each _ hrm
    have lr : rest.length ≤ 10000000 := by have := hsm.len; simp at this; omega
    have lp : pl.length ≤ 10000000 := Nat.le_trans (small_kids (hsm.each _ (List.mem_cons_self ..))).len hm
    have e2 := patR_len rest
    have e3 := patR_len pl
    have e4 : (patR (Pat.mk pk pn pi ps pa pb pc pl :: rest)).length = rest.length + 1 := by simp [patR_len]
    have h0 : (Pat.mk pk pn pi ps pa pb pc pl :: rest)[0]? = some (Pat.mk pk pn pi ps pa pb pc pl) := rfl
    have hask := asks_c (.mk pk pn pi ps pa pb pc pl)
    cases ha : asksH (.mk pk pn pi ps pa pb pc pl) with
    | none =>
      rw [ha] at hask
      have hb : belowR h kids (Pat.mk pk pn pi ps pa pb pc pl :: rest) = some (anysL kids ++ rest) := by simp only [belowR]; rw [ha]
      have ht : belowL (rows.take (k + 1)) h kids = belowL (rows.take k) h kids ++ [anysL kids ++ rest] := filterMap_yes hq hb
      have hcc := concatP_c (patR (anysL kids)) (patR rest) (by rw [patR_len]; simp [anysL]; omega) (by omega)
      repeat' (first | refine s_op rfl ?_ | (apply s_skipV; (iterate 2 (exact rfl))) | (apply s_move; (iterate 4 (exact rfl))) | (apply s_fa_f tab_ok; (iterate 6 (exact rfl))) | (apply s_ld_f tab_ok; (iterate 6 (exact rfl))) | (apply s_assign; (iterate 4 (exact rfl))) | (apply s_pick_f; (iterate 5 (exact rfl))) | (apply s_idx tab_ok; (iterate 7 (exact rfl)); (first | exact patR_get (by assumption) | exact valR_get (by assumption) | exact row_map (by assumption) | assumption)) | (apply s_ext; (iterate 5 (exact rfl))) | (apply s_lit tab_ok tabZ_ok; (iterate 10 (exact rfl))) | (apply s_not_f; (iterate 4 (exact rfl))) | (apply s_lss_t; (iterate 5 (exact rfl)); omega) | (apply s_add64; (iterate 5 (exact rfl)); omega) | (apply s_allocF tabZ_ok; (iterate 6 (exact rfl)); intro locX σ hc; have hX := hc.at'; have nNX := hc.ne hN; replace hN := hc.keep hN; clear hc) | (apply s_storeF tab_ok; (iterate 7 (exact rfl)); exact hX; (iterate 2 (exact rfl)); intro σ hc; replace hN := hc.keep nNX hN; replace hX := hc.at'; clear hc) | (apply s_sliceE tab_ok (rows' := patR rest); (iterate 8 (exact rfl)); (simp; omega); (simp [patR])) | (apply s_appF tab_ok tabZ_ok (rows2 := [rowD (anysL kids ++ rest)]) (rows3 := (belowL (rows.take (k + 1)) h kids).map rowD) (m := ((belowL (rows.take (k + 1)) h kids).map rowD).length); (iterate 10 (exact rfl)); exact hN; exact src_of (Tab.slIs tab_ok (t := 114) rfl) (rows_d (by simp only [rowD, patsD, patR_append]; rfl)); (rw [ht, List.map_append]; rfl); (rw [ht]; simp at lN ⊢; omega); intro σ hc; replace hN := hc.at'; clear hc) | (apply s_call; (iterate 6 (exact rfl)); first | (exact hask; rintro _ rfl) | (exact han; rintro _ rfl) | (exact hcc; rintro _ rfl)) | refine al_nil ?_ | refine q_then_n ?_ | refine q_blk_n ?_ | refine aw_block ?_ | refine aw_seq ?_ | refine aw_reg ?_ | refine aw_true rfl ?_ | refine aw_false rfl ?_ | refine aw_skip ?_)
      exact ⟨_, _, rfl, by omega, k + 1, _, rfl, hN, by omega, rfl⟩
    | some h' =>
      rw [ha] at hask
      by_cases hh : h' = h
      · have hb : belowR h kids (Pat.mk pk pn pi ps pa pb pc pl :: rest) = some (pl ++ rest) := by simp only [belowR]; rw [ha]; simp only; rw [if_pos hh]; rfl
        have ht : belowL (rows.take (k + 1)) h kids = belowL (rows.take k) h kids ++ [pl ++ rest] := filterMap_yes hq hb
        have hcc := concatP_c (patR pl) (patR rest) (by omega) (by omega)
        repeat' (first | refine s_op rfl ?_ | (apply s_move; (iterate 4 (exact rfl))) | (apply s_fa_f tab_ok; (iterate 6 (exact rfl))) | (apply s_ld_f tab_ok; (iterate 6 (exact rfl))) | (apply s_assign; (iterate 4 (exact rfl))) | (apply s_pick_t; (iterate 5 (exact rfl))) | (apply s_idx tab_ok; (iterate 7 (exact rfl)); (first | exact patR_get (by assumption) | exact valR_get (by assumption) | exact row_map (by assumption) | assumption)) | (apply s_ext; (iterate 5 (exact rfl))) | (apply s_lit tab_ok tabZ_ok; (iterate 10 (exact rfl))) | (apply s_not_t; (iterate 4 (exact rfl))) | (apply s_lss_t; (iterate 5 (exact rfl)); omega) | (apply s_add64; (iterate 5 (exact rfl)); omega) | (apply s_allocF tabZ_ok; (iterate 6 (exact rfl)); intro locX σ hc; have hX := hc.at'; have nNX := hc.ne hN; replace hN := hc.keep hN; clear hc) | (apply s_storeF tab_ok; (iterate 7 (exact rfl)); exact hX; (iterate 2 (exact rfl)); intro σ hc; replace hN := hc.keep nNX hN; replace hX := hc.at'; clear hc) | (apply s_ldF tab_ok; (iterate 5 (exact rfl)); exact hX; exact rfl) | (apply s_ne127_f (f := h') (g := h); (iterate 5 (exact rfl)); exact hh) | (apply s_sliceE tab_ok (rows' := patR rest); (iterate 8 (exact rfl)); (simp; omega); (simp [patR])) | (apply s_appF tab_ok tabZ_ok (rows2 := [rowD (pl ++ rest)]) (rows3 := (belowL (rows.take (k + 1)) h kids).map rowD) (m := ((belowL (rows.take (k + 1)) h kids).map rowD).length); (iterate 10 (exact rfl)); exact hN; exact src_of (Tab.slIs tab_ok (t := 114) rfl) (rows_d (by simp only [rowD, patsD, patR_append]; rfl)); (rw [ht, List.map_append]; rfl); (rw [ht]; simp at lN ⊢; omega); intro σ hc; replace hN := hc.at'; clear hc) | (apply s_call; (iterate 6 (exact rfl)); first | (exact hask; rintro _ rfl) | (exact hcc; rintro _ rfl)) | refine al_nil ?_ | refine q_then_n ?_ | refine q_blk_n ?_ | refine aw_block ?_ | refine aw_seq ?_ | refine aw_reg ?_ | refine aw_true rfl ?_ | refine aw_false rfl ?_ | refine aw_skip ?_)
        exact ⟨_, _, rfl, by omega, k + 1, _, rfl, hN, by omega, rfl⟩
      · have hb : belowR h kids (Pat.mk pk pn pi ps pa pb pc pl :: rest) = none := by simp only [belowR]; rw [ha]; simp only; rw [if_neg hh]
        have ht : belowL (rows.take (k + 1)) h kids = belowL (rows.take k) h kids := filterMap_no hq hb
        repeat' (first | refine s_op rfl ?_ | (apply s_move; (iterate 4 (exact rfl))) | (apply s_ld_f tab_ok; (iterate 6 (exact rfl))) | (apply s_assign; (iterate 4 (exact rfl))) | (apply s_pick_t; (iterate 5 (exact rfl))) | (apply s_idx tab_ok; (iterate 7 (exact rfl)); (first | exact patR_get (by assumption) | exact valR_get (by assumption) | exact row_map (by assumption) | assumption)) | (apply s_ext; (iterate 5 (exact rfl))) | (apply s_lss_t; (iterate 5 (exact rfl)); omega) | (apply s_add64; (iterate 5 (exact rfl)); omega) | (apply s_allocF tabZ_ok; (iterate 6 (exact rfl)); intro locX σ hc; have hX := hc.at'; have nNX := hc.ne hN; replace hN := hc.keep hN; clear hc) | (apply s_storeF tab_ok; (iterate 7 (exact rfl)); exact hX; (iterate 2 (exact rfl)); intro σ hc; replace hN := hc.keep nNX hN; replace hX := hc.at'; clear hc) | (apply s_ldF tab_ok; (iterate 5 (exact rfl)); exact hX; exact rfl) | (apply s_ne127_t (f := h') (g := h); (iterate 5 (exact rfl)); exact hh) | (apply s_call; (iterate 6 (exact rfl)); first | (exact hask; rintro _ rfl)) | refine al_nil ?_ | refine q_then_n ?_ | refine q_blk_e ?_ | refine q_then_e ?_ | refine aw_block ?_ | refine aw_exit ?_ | refine aw_seq ?_ | refine aw_reg ?_ | refine aw_true rfl ?_ | refine aw_skip ?_)
        exact ⟨_, _, rfl, by omega, k + 1, ver, by rw [ht]; rfl, by rw [ht]; exact hN, by omega, rfl⟩
  · have he : rows.take k = rows := List.take_of_length_le (by omega)
    rw [he] at hN
    rw [he]
    repeat' (first | refine s_op rfl ?_ | (apply s_move; (iterate 4 (exact rfl))) | (apply s_assign; (iterate 4 (exact rfl))) | (apply s_lss_f; (iterate 5 (exact rfl)); omega) | refine al_nil ?_ | refine q_then_n ?_ | refine q_blk_e ?_ | refine q_then_e ?_ | refine aw_exit ?_ | refine aw_seq ?_ | refine aw_reg ?_ | refine aw_false rfl ?_ | refine aw_ret ?_)
    exact q_ret rfl ⟨locN, ver, 26, rfl, hN⟩

set_option maxRecDepth 100000 in
set_option maxHeartbeats 4000000 in
theorem others_c (hm : m ≤ 10000000) (hr : RowsB m rows) (hne : ∀ r ∈ rows, r ≠ []) : RunsP Try.prog 95 [rowsD rows] (fun v => v = rowsD (othersL rows)) := by
  refine RunsP.ofOwn (rows := (othersL rows).map rowD) ?_
  have e1 := rowsD_len rows
  have l1 := hr.len
  refine enter 23 Try.func95 rfl (by kernel_rfl) rfl rfl rfl ?_
  repeat' (first | refine s_op rfl ?_ | (apply s_move; (iterate 4 (exact rfl))) | (apply s_assign; (iterate 4 (exact rfl))) | (apply s_len tab_ok; (iterate 5 (exact rfl))) | refine al_nil ?_ | refine q_then_n ?_ | refine aw_block ?_ | refine aw_seq ?_ | refine aw_reg ?_)
  refine w_adoptF 3 26 1 rfl ?_
  intro locN σ hc
  refine w_loop [3, 6, 7, 8] (fun n vs σ => ∃ k ver : Nat, vs = [.own locN ver 1 0 ((othersL (rows.take k)).map rowD).length, .d (rowsD rows), .d (.v (.int .i64 ((rows.map rowD).length : Int))), .d (.v (.int .i64 (k : Int)))] ∧ σ[locN]? = some (.arr 26 1 ver ((othersL (rows.take k)).map rowD)) ∧ k ≤ rows.length ∧ n = rows.length - k) rfl ⟨0, 0, rfl, hc.at', by omega, rfl⟩ ?_
  clear hc
  rintro n vs σ ⟨k, ver, rfl, hN, hk2, rfl⟩ fr hfr
  cases hfr
  have lN : ((othersL (rows.take k)).map rowD).length ≤ 10000000 := by rw [List.length_map]; exact Nat.le_trans (filterMap_len _ _ _) (by omega)
  by_cases hlt : k < rows.length
  · obtain ⟨r, hq⟩ := getS hlt
    have hrm := List.mem_of_getElem? hq
    cases r with
    | nil => exact absurd rfl (hne _ hrm)
    | cons p rest =>
    obtain ⟨pk, pn, pi, ps, pa, pb, pc, pl⟩ := p
    have hsm := hr.each _ hrm
    have lr : rest.length ≤ 10000000 := by have := hsm.len; simp at this; omega
    have e4 : (patR (Pat.mk pk pn pi ps pa pb pc pl :: rest)).length = rest.length + 1 := by simp [patR_len]
    have h0 : (Pat.mk pk pn pi ps pa pb pc pl :: rest)[0]? = some (Pat.mk pk pn pi ps pa pb pc pl) := rfl
    have hop := popen_c (.mk pk pn pi ps pa pb pc pl)
    cases ho : openB (.mk pk pn pi ps pa pb pc pl) with
    | true =>
      rw [ho] at hop
      have ht : othersL (rows.take (k + 1)) = othersL (rows.take k) ++ [rest] := filterMap_yes hq (by simp only [othersR]; rw [ho]; rfl)
      repeat' (first | refine s_op rfl ?_ | (apply s_move; (iterate 4 (exact rfl))) | (apply s_ld_f tab_ok; (iterate 6 (exact rfl))) | (apply s_assign; (iterate 4 (exact rfl))) | (apply s_idx tab_ok; (iterate 7 (exact rfl)); (first | exact patR_get (by assumption) | exact valR_get (by assumption) | exact row_map (by assumption) | assumption)) | (apply s_lit tab_ok tabZ_ok; (iterate 10 (exact rfl))) | (apply s_lss_t; (iterate 5 (exact rfl)); omega) | (apply s_add64; (iterate 5 (exact rfl)); omega) | (apply s_sliceE tab_ok (rows' := patR rest); (iterate 8 (exact rfl)); (simp; omega); (simp [patR])) | (apply s_appF tab_ok tabZ_ok (rows2 := [rowD rest]) (rows3 := (othersL (rows.take (k + 1))).map rowD) (m := ((othersL (rows.take (k + 1))).map rowD).length); (iterate 10 (exact rfl)); exact hN; exact src_of (Tab.slIs tab_ok (t := 114) rfl) (rows_d rfl); (rw [ht, List.map_append]; rfl); (rw [ht]; simp at lN ⊢; omega); intro σ hc; replace hN := hc.at'; clear hc) | (apply s_call; (iterate 6 (exact rfl)); first | (exact hop; rintro _ rfl)) | refine al_nil ?_ | refine q_then_n ?_ | refine q_blk_n ?_ | refine aw_block ?_ | refine aw_seq ?_ | refine aw_reg ?_ | refine aw_true rfl ?_ | refine aw_skip ?_)
      exact ⟨_, _, rfl, by omega, k + 1, _, rfl, hN, by omega, rfl⟩
    | false =>
      rw [ho] at hop
      have ht : othersL (rows.take (k + 1)) = othersL (rows.take k) := filterMap_no hq (by simp only [othersR]; rw [ho]; rfl)
      repeat' (first | refine s_op rfl ?_ | (apply s_move; (iterate 4 (exact rfl))) | (apply s_ld_f tab_ok; (iterate 6 (exact rfl))) | (apply s_assign; (iterate 4 (exact rfl))) | (apply s_idx tab_ok; (iterate 7 (exact rfl)); (first | exact patR_get (by assumption) | exact valR_get (by assumption) | exact row_map (by assumption) | assumption)) | (apply s_lss_t; (iterate 5 (exact rfl)); omega) | (apply s_add64; (iterate 5 (exact rfl)); omega) | (apply s_call; (iterate 6 (exact rfl)); first | (exact hop; rintro _ rfl)) | refine al_nil ?_ | refine q_then_n ?_ | refine q_blk_n ?_ | refine aw_block ?_ | refine aw_seq ?_ | refine aw_reg ?_ | refine aw_true rfl ?_ | refine aw_false rfl ?_ | refine aw_skip ?_)
      exact ⟨_, _, rfl, by omega, k + 1, ver, by rw [ht]; rfl, by rw [ht]; exact hN, by omega, rfl⟩
  · have he : rows.take k = rows := List.take_of_length_le (by omega)
    rw [he] at hN
    rw [he]
    repeat' (first | refine s_op rfl ?_ | (apply s_move; (iterate 4 (exact rfl))) | (apply s_assign; (iterate 4 (exact rfl))) | (apply s_lss_f; (iterate 5 (exact rfl)); omega) | refine al_nil ?_ | refine q_then_n ?_ | refine q_blk_e ?_ | refine q_then_e ?_ | refine aw_exit ?_ | refine aw_seq ?_ | refine aw_reg ?_ | refine aw_false rfl ?_ | refine aw_ret ?_)
    exact q_ret rfl ⟨locN, ver, 26, rfl, hN⟩

set_option maxRecDepth 100000 in
set_option maxHeartbeats 4000000 in
theorem heads_c (hm : m ≤ 10000000) (hr : RowsB m rows) (hne : ∀ r ∈ rows, r ≠ []) : RunsP Try.prog 93 [rowsD rows] (fun v => v = headsD (headsL rows)) := by
  refine RunsP.ofOwn (rows := (headsL rows).map headD) ?_
  have e1 := rowsD_len rows
  have l1 := hr.len
  refine enter 34 Try.func93 rfl (by kernel_rfl) rfl rfl rfl ?_
  repeat' (first | refine s_op rfl ?_ | (apply s_move; (iterate 4 (exact rfl))) | (apply s_assign; (iterate 4 (exact rfl))) | (apply s_len tab_ok; (iterate 5 (exact rfl))) | refine al_nil ?_ | refine q_then_n ?_ | refine aw_block ?_ | refine aw_seq ?_ | refine aw_reg ?_)
  refine w_adoptF 3 127 4 rfl ?_
  intro locN σ hc
  refine w_loop [3, 8, 9, 10] (fun n vs σ => ∃ k ver : Nat, vs = [.own locN ver 4 0 ((headsL (rows.take k)).map headD).length, .d (rowsD rows), .d (.v (.int .i64 ((rows.map rowD).length : Int))), .d (.v (.int .i64 (k : Int)))] ∧ σ[locN]? = some (.arr 127 4 ver ((headsL (rows.take k)).map headD)) ∧ k ≤ rows.length ∧ n = rows.length - k) rfl ⟨0, 0, rfl, hc.at', by omega, rfl⟩ ?_
  clear hc
  rintro n vs σ ⟨k, ver, rfl, hN, hk2, rfl⟩ fr hfr
  cases hfr
  have lN0 : (headsL (rows.take k)).length ≤ 10000000 := Nat.le_trans (headsL_len _) (by rw [List.length_take]; omega)
  have lN : ((headsL (rows.take k)).map headD).length ≤ 10000000 := by rw [List.length_map]; exact lN0
  by_cases hlt : k < rows.length
  · obtain ⟨r, hq⟩ := getS hlt
    have hrm := List.mem_of_getElem? hq
    have ht := heads_next hq
    cases r with
    | nil => exact absurd rfl (hne _ hrm)
    | cons p rest =>
    obtain ⟨pk, pn, pi, ps, pa, pb, pc, pl⟩ := p
    have hsm := hr.each _ hrm
    have h0 : (Pat.mk pk pn pi ps pa pb pc pl :: rest)[0]? = some (Pat.mk pk pn pi ps pa pb pc pl) := rfl
    have e4 : (patR (Pat.mk pk pn pi ps pa pb pc pl :: rest)).length = rest.length + 1 := by simp [patR_len]
    have lr : rest.length ≤ 10000000 := by have := hsm.len; simp at this; omega
    have hask := asks_c (.mk pk pn pi ps pa pb pc pl)
    simp only [headsR] at ht
    cases ha : asksH (.mk pk pn pi ps pa pb pc pl) with
    | none =>
      rw [ha] at hask ht
      repeat' (first | refine s_op rfl ?_ | (apply s_skipV; (iterate 2 (exact rfl))) | (apply s_move; (iterate 4 (exact rfl))) | (apply s_ld_f tab_ok; (iterate 6 (exact rfl))) | (apply s_assign; (iterate 4 (exact rfl))) | (apply s_pick_f; (iterate 5 (exact rfl))) | (apply s_idx tab_ok; (iterate 7 (exact rfl)); (first | exact patR_get (by assumption) | exact valR_get (by assumption) | exact row_map (by assumption) | assumption)) | (apply s_ext; (iterate 5 (exact rfl))) | (apply s_lss_t; (iterate 5 (exact rfl)); omega) | (apply s_add64; (iterate 5 (exact rfl)); omega) | (apply s_allocF tabZ_ok; (iterate 6 (exact rfl)); intro locX σ hc; have hX := hc.at'; have nNX := hc.ne hN; replace hN := hc.keep hN; clear hc) | (apply s_storeF tab_ok; (iterate 7 (exact rfl)); exact hX; (iterate 2 (exact rfl)); intro σ hc; replace hN := hc.keep nNX hN; replace hX := hc.at'; clear hc) | (apply s_call; (iterate 6 (exact rfl)); first | (exact hask; rintro _ rfl)) | refine al_nil ?_ | refine q_then_n ?_ | refine q_blk_n ?_ | refine aw_block ?_ | refine aw_seq ?_ | refine aw_reg ?_ | refine aw_true rfl ?_ | refine aw_false rfl ?_ | refine aw_skip ?_)
      exact ⟨_, _, rfl, by omega, k + 1, ver, by rw [ht]; rfl, by rw [ht]; exact hN, by omega, rfl⟩
    | some h =>
      rw [ha] at hask ht
      simp only [addH] at ht
      have hcn := containsH_c (headsL (rows.take k)) h (by omega)
      by_cases hh : h ∈ headsL (rows.take k)
      · rw [decide_eq_true hh] at hcn
        rw [if_pos hh] at ht
        repeat' (first | refine s_op rfl ?_ | (apply s_move; (iterate 4 (exact rfl))) | (apply s_ld_f tab_ok; (iterate 6 (exact rfl))) | (apply s_assign; (iterate 4 (exact rfl))) | (apply s_pick_t; (iterate 5 (exact rfl))) | (apply s_idx tab_ok; (iterate 7 (exact rfl)); (first | exact patR_get (by assumption) | exact valR_get (by assumption) | exact row_map (by assumption) | assumption)) | (apply s_ext; (iterate 5 (exact rfl))) | (apply s_not_t; (iterate 4 (exact rfl))) | (apply s_lss_t; (iterate 5 (exact rfl)); omega) | (apply s_add64; (iterate 5 (exact rfl)); omega) | (apply s_allocF tabZ_ok; (iterate 6 (exact rfl)); intro locX σ hc; have hX := hc.at'; have nNX := hc.ne hN; replace hN := hc.keep hN; clear hc) | (apply s_storeF tab_ok; (iterate 7 (exact rfl)); exact hX; (iterate 2 (exact rfl)); intro σ hc; replace hN := hc.keep nNX hN; replace hX := hc.at'; clear hc) | (apply s_ldF tab_ok; (iterate 5 (exact rfl)); exact hX; exact rfl) | (apply s_callB; (iterate 6 (exact rfl)); exact viewL_own hN rfl (viewL_d viewL_nil); exact hcn; exact (fun v h => ⟨_, h⟩); rintro _ rfl) | (apply s_call; (iterate 6 (exact rfl)); first | (exact hask; rintro _ rfl)) | refine al_nil ?_ | refine q_then_n ?_ | refine q_blk_n ?_ | refine aw_block ?_ | refine aw_seq ?_ | refine aw_reg ?_ | refine aw_true rfl ?_ | refine aw_false rfl ?_ | refine aw_skip ?_)
        exact ⟨_, _, rfl, by omega, k + 1, ver, by rw [ht]; rfl, by rw [ht]; exact hN, by omega, rfl⟩
      · rw [decide_eq_false hh] at hcn
        rw [if_neg hh] at ht
        repeat' (first | refine s_op rfl ?_ | (apply s_move; (iterate 4 (exact rfl))) | (apply s_ld_f tab_ok; (iterate 6 (exact rfl))) | (apply s_assign; (iterate 4 (exact rfl))) | (apply s_pick_t; (iterate 5 (exact rfl))) | (apply s_idx tab_ok; (iterate 7 (exact rfl)); (first | exact patR_get (by assumption) | exact valR_get (by assumption) | exact row_map (by assumption) | assumption)) | (apply s_ext; (iterate 5 (exact rfl))) | (apply s_lit tab_ok tabZ_ok; (iterate 10 (exact rfl))) | (apply s_not_f; (iterate 4 (exact rfl))) | (apply s_lss_t; (iterate 5 (exact rfl)); omega) | (apply s_add64; (iterate 5 (exact rfl)); omega) | (apply s_allocF tabZ_ok; (iterate 6 (exact rfl)); intro locX σ hc; have hX := hc.at'; have nNX := hc.ne hN; replace hN := hc.keep hN; clear hc) | (apply s_storeF tab_ok; (iterate 7 (exact rfl)); exact hX; (iterate 2 (exact rfl)); intro σ hc; replace hN := hc.keep nNX hN; replace hX := hc.at'; clear hc) | (apply s_ldF tab_ok; (iterate 5 (exact rfl)); exact hX; exact rfl) | (apply s_callB; (iterate 6 (exact rfl)); exact viewL_own hN rfl (viewL_d viewL_nil); exact hcn; exact (fun v h => ⟨_, h⟩); rintro _ rfl) | (apply s_appF tab_ok tabZ_ok (rows2 := [headD h]) (rows3 := (headsL (rows.take (k + 1))).map headD) (m := ((headsL (rows.take (k + 1))).map headD).length); (iterate 10 (exact rfl)); exact hN; exact src_of (Tab.slIs tab_ok (t := 155) rfl) (rows_d rfl); (rw [ht, List.map_append]; rfl); (rw [ht]; simp at lN ⊢; omega); intro σ hc; replace hN := hc.at'; clear hc) | (apply s_call; (iterate 6 (exact rfl)); first | (exact hask; rintro _ rfl)) | refine al_nil ?_ | refine q_then_n ?_ | refine q_blk_n ?_ | refine aw_block ?_ | refine aw_seq ?_ | refine aw_reg ?_ | refine aw_true rfl ?_ | refine aw_skip ?_)
        exact ⟨_, _, rfl, by omega, k + 1, _, rfl, hN, by omega, rfl⟩
  · have he : rows.take k = rows := List.take_of_length_le (by omega)
    rw [he] at hN
    rw [he]
    repeat' (first | refine s_op rfl ?_ | (apply s_move; (iterate 4 (exact rfl))) | (apply s_assign; (iterate 4 (exact rfl))) | (apply s_lss_f; (iterate 5 (exact rfl)); omega) | refine al_nil ?_ | refine q_then_n ?_ | refine q_blk_e ?_ | refine q_then_e ?_ | refine aw_exit ?_ | refine aw_seq ?_ | refine aw_reg ?_ | refine aw_false rfl ?_ | refine aw_ret ?_)
    exact q_ret rfl ⟨locN, ver, 127, rfl, hN⟩
end
end Go.Proofs.Ytjflembhgjcgkaa
