/- WorldReads: the walk. -/
import Derived.Test.YtlpgekodoiioaaaX2
import Derived.Test.YtlpgekodoiioaaaAd
import Derived.Test.YtlpgekodoiioaaaP7
set_option linter.unusedSimpArgs false
set_option linter.unusedVariables false
namespace Go.Proofs.Ytlpgekodoiioaaa
open Go.RowKit

theorem wr_ok {text : ByteArray} {p : Nat} {tr : List AOp} (h : text.size ≤ 4000) (hp : p ≤ text.toList.length) : (wr text p tr).Ok (tr.length + 1) :=
  ⟨by simp [wr], fun f hf => by simp [wr] at hf; subst hf; exact h, fun x hx => by
    simp [wr] at hx; subst hx
    refine ⟨by simp [wr], ?_⟩
    rw [Go.Lib.toList_data, ← Go.Lib.size_eq] at hp
    exact hp, by simp [wr], by simp [wr]⟩

set_option maxRecDepth 100000 in
set_option maxHeartbeats 8000000 in
theorem reads_c (text : ByteArray) (hm : text.size ≤ maxLen) : Runs Try.prog 7 [.d (.v (.string text))] [] (fun v _ => v = .d (.v (.bool true))) := by
  refine enter 79 Try.func7 rfl (by kernel_rfl) rfl rfl rfl ?_
  unfold maxLen at hm
  have htt : text = text := rfl
  by_cases hs : text.size ≤ 4000
  · have hok : NewOk [⟨bA, text⟩] := ⟨by simp, fun k f h => by
      match k, h with
      | 0, h => injection h with h; subst h; exact ⟨hs, fun g hg => by simp at hg⟩
      | k + 1, h => simp at h⟩
    have cn := fun σ => (new_f (σ := σ) [⟨bA, text⟩] [] (by simp) hok).wk (awk_cons awk_same (awk_cons (awk_d (Wk.nil 1)) awk_nil))
    have ok0 := ok_new (fails := []) hok
    have co := fun σ loc hA => open_w (σ := σ) (loc := loc) bA hA ok0 (by omega)
    have eo : (⟨[⟨bA, text⟩], [], [], []⟩ : AW).open_ bA = ((0, true), wr text 0 [⟨1, 0, bA, emptyB, true⟩]) := by unfold AW.open_ nameIdx; rfl
    rw [eo] at co
    dsimp only at co
    obtain ⟨T, hT⟩ : ∃ T, text.toList = T := ⟨_, rfl⟩
    have hTs : T.length = text.size := by rw [← hT, Go.Lib.toList_data, ← Go.Lib.size_eq]
    have hTd : text.data.toList = T := by rw [← hT, Go.Lib.toList_data]
    repeat' (first
      | refine s_op rfl ?_ | (apply s_skipV; (iterate 2 (exact rfl))) | (apply s_skipU; (iterate 3 (exact rfl))) | (apply s_move; (iterate 4 (exact rfl))) | (apply s_assign; (iterate 4 (exact rfl)))
      | (apply s_pick_t; (iterate 5 (exact rfl))) | (apply s_pick_f; (iterate 5 (exact rfl))) | (apply s_len tab_ok; (iterate 5 (exact rfl))) | (apply s_lens str_ok; (iterate 4 (exact rfl))) | (apply s_slice tab_ok; (iterate 8 (exact rfl)); (simp; omega))
      | (apply s_ext; (iterate 5 (exact rfl))) | (apply s_build tabZ_ok; (iterate 5 (exact rfl))) | (apply s_lit tab_ok tabZ_ok; (iterate 10 (exact rfl))) | (apply s_lit1 tab_ok tabZ_ok; (iterate 9 (exact rfl)); (first | exact patD_len _ | exact valD_len _)) | (apply s_app tab_ok tabZ_ok; (iterate 13 (exact rfl)); (first | (simp; done) | (simp; omega)))
      | (apply s_not_t; (iterate 4 (exact rfl))) | (apply s_not_f; (iterate 4 (exact rfl))) | (apply s_not; (iterate 4 (exact rfl))) | (apply s_eql_t; (iterate 5 (exact rfl)); omega) | (apply s_eql_f; (iterate 5 (exact rfl)); omega)
      | (apply s_neq_t; (iterate 5 (exact rfl)); omega) | (apply s_neq_f; (iterate 5 (exact rfl)); omega) | (apply s_lss_t; (iterate 5 (exact rfl)); omega) | (apply s_lss_f; (iterate 5 (exact rfl)); omega) | (apply s_gtr_t; (iterate 5 (exact rfl)); omega)
      | (apply s_gtr_f; (iterate 5 (exact rfl)); omega) | (apply s_add64; (iterate 5 (exact rfl)); omega) | (apply s_sub64; (iterate 5 (exact rfl)); omega) | (apply s_streq_t; (iterate 5 (exact rfl)); assumption) | (apply s_streq_f; (iterate 5 (exact rfl)); assumption)
      | (apply s_call; (iterate 6 (exact rfl)); first | (exact known_p; rintro _ rfl) | (exact great_p _ _ (by assumption); rintro _ (rfl | ⟨rfl, hg⟩) <;> (try (exfalso; omega))) | (exact heavy_p _ (by assumption); rintro _ (rfl | ⟨rfl, hg⟩) <;> (try (exfalso; omega))))
      | (apply s_callS; (iterate 6 (exact rfl)); first | (exact cn _; rintro _ σ ⟨locA, rfl, hc⟩; have hA := hc.at'; clear hc) | (exact co _ _ hA; rintro _ σ ⟨rfl, hc⟩; replace hA := hc.at'; clear hc))
      | refine al_nil ?_ | refine q_then_n ?_ | refine q_blk_n ?_ | refine q_blk_r ?_ | refine q_blk_e ?_
      | refine q_blk_o rfl ?_ | refine q_then_e ?_ | refine aw_block ?_ | refine aw_exit ?_ | refine q_then_r ?_
      | refine aw_seq ?_ | refine aw_reg ?_ | refine aw_true rfl ?_ | refine aw_false rfl ?_ | refine aw_skip ?_
      | refine aw_ret ?_)
    refine w_adoptF 7 5 1 rfl ?_
    intro locB σ hc
    have hB := hc.at'
    have nAB := hc.ne hA
    replace hA := hc.keep hA
    clear hc
    refine w_loop [0, 2, 3, 5, 7, 35, 36] (fun n vs σ => ∃ (k p ver : Nat) (d : Bool) (tr : List AOp), vs = [.d (.v (.string text)), .d (.v (.bool false)), .ptr locA 0 0, .d (.v (.int .i64 0)), .own locB ver 1 0 (told T p d).length, .d (.v (.int .i64 ((text.size : Int) + 2))), .d (.v (.int .i64 (k : Int)))] ∧ σ[locA]? = some (wo (wr text p tr)) ∧ σ[locB]? = some (.arr 5 1 ver (bytesD (told T p d))) ∧ RInv T p d ∧ k ≤ p ∧ tr.length ≤ k + 1 ∧ n = T.length + 1 - k) rfl ⟨0, 0, 0, false, _, rfl, hA, hB, rinv0 T, by omega, Nat.le_refl _, rfl⟩ ?_
    rintro n vs σ ⟨k, p, ver, d, tr, rfl, hA, hB, hI, hkp, htr, rfl⟩ fr hfr
    cases hfr
    have hle := hI.le
    have hokp := wr_ok (tr := tr) hs (by rw [hT]; exact hle)
    have cr := fun σ loc hA => read_w (σ := σ) (loc := loc) (W := wr text p tr) 0 hA hokp (by omega)
    have ht : (⟨T.toArray⟩ : ByteArray) = text := by rw [← hTd]
    generalize hacc : told T p d = acc at hB ⊢
    by_cases hr : T.drop p = []
    · rw [wr_end (by rw [hT]; exact hr)] at cr
      dsimp only at cr
      rw [← hTs]
      have lT : (bytesD T).length = T.length := by simp [bytesD]
      rcases rinv_end hI hr with ⟨h0, h1⟩ | ⟨y, hpos, hy, ⟨h10, h1⟩ | ⟨h10, h1⟩⟩
      · rw [hacc] at h1
        have hz : T.length = 0 := by rw [h0]; rfl
        rw [← h0] at h1
        rw [h1] at hB ⊢
        repeat' (first
      | refine s_op rfl ?_ | (apply s_skipV; (iterate 2 (exact rfl))) | (apply s_skipU; (iterate 3 (exact rfl))) | (apply s_move; (iterate 4 (exact rfl))) | (apply s_assign; (iterate 4 (exact rfl)))
      | (apply s_pick_t; (iterate 5 (exact rfl))) | (apply s_pick_f; (iterate 5 (exact rfl))) | (apply s_len tab_ok; (iterate 5 (exact rfl))) | (apply s_lens str_ok; (iterate 4 (exact rfl))) | (apply s_slice tab_ok; (iterate 8 (exact rfl)); (simp; omega))
      | (apply s_ext; (iterate 5 (exact rfl))) | (apply s_build tabZ_ok; (iterate 5 (exact rfl))) | (apply s_lit tab_ok tabZ_ok; (iterate 10 (exact rfl))) | (apply s_lit1 tab_ok tabZ_ok; (iterate 9 (exact rfl)); (first | exact patD_len _ | exact valD_len _)) | (apply s_app tab_ok tabZ_ok; (iterate 13 (exact rfl)); (first | (simp; done) | (simp; omega)))
      | (apply s_not_t; (iterate 4 (exact rfl))) | (apply s_not_f; (iterate 4 (exact rfl))) | (apply s_not; (iterate 4 (exact rfl))) | (apply s_eql_t; (iterate 5 (exact rfl)); omega) | (apply s_eql_f; (iterate 5 (exact rfl)); omega)
      | (apply s_neq_t; (iterate 5 (exact rfl)); omega) | (apply s_neq_f; (iterate 5 (exact rfl)); omega) | (apply s_lss_t; (iterate 5 (exact rfl)); omega) | (apply s_lss_f; (iterate 5 (exact rfl)); omega) | (apply s_gtr_t; (iterate 5 (exact rfl)); omega)
      | (apply s_gtr_f; (iterate 5 (exact rfl)); omega) | (apply s_add64; (iterate 5 (exact rfl)); omega) | (apply s_sub64; (iterate 5 (exact rfl)); omega) | (apply s_streq_t; (iterate 5 (exact rfl)); assumption) | (apply s_streq_f; (iterate 5 (exact rfl)); assumption)
      | (apply s_convBV text (U := 5) (bs := T) (Tab.slIs tab_ok (t := 63) rfl) (by kernel_rfl) str_ok; (iterate 3 (exact rfl)); exact rows_own rfl hB (rows2 := bytesD T) (by rw [List.drop_zero, ← lT, List.take_length]) (by rw [lT]; omega); exact rfl; exact ht)
      | (apply s_callS; (iterate 6 (exact rfl)); first | (exact cr _ _ hA; rintro _ σ ⟨rfl, hc⟩; replace hA := hc.at'; replace hB := hc.keep (by first | assumption | (apply Ne.symm; assumption)) hB; clear hc))
      | refine al_nil ?_ | refine q_then_n ?_ | refine q_blk_n ?_ | refine q_blk_r ?_ | refine q_blk_e ?_
      | refine q_blk_o rfl ?_ | refine q_then_e ?_ | refine aw_block ?_ | refine aw_exit ?_ | refine q_then_r ?_
      | refine aw_seq ?_ | refine aw_reg ?_ | refine aw_true rfl ?_ | refine aw_false rfl ?_ | refine aw_skip ?_
      | refine aw_ret ?_)
        exact q_ret rfl rfl
      · rw [hacc] at h1
        rw [h1] at hB ⊢
        have hyn : (y.toNat : Int) = 10 := by rw [h10]; rfl
        have hyd : text.data.toList[T.length - 1]? = some y := by rw [hTd]; exact hy
        repeat' (first
      | refine s_op rfl ?_ | (apply s_skipV; (iterate 2 (exact rfl))) | (apply s_skipU; (iterate 3 (exact rfl))) | (apply s_move; (iterate 4 (exact rfl))) | (apply s_assign; (iterate 4 (exact rfl)))
      | (apply s_pick_t; (iterate 5 (exact rfl))) | (apply s_pick_f; (iterate 5 (exact rfl))) | (apply s_len tab_ok; (iterate 5 (exact rfl))) | (apply s_lens str_ok; (iterate 4 (exact rfl))) | (apply s_slice tab_ok; (iterate 8 (exact rfl)); (simp; omega))
      | (apply s_ext; (iterate 5 (exact rfl))) | (apply s_build tabZ_ok; (iterate 5 (exact rfl))) | (apply s_lit tab_ok tabZ_ok; (iterate 10 (exact rfl))) | (apply s_lit1 tab_ok tabZ_ok; (iterate 9 (exact rfl)); (first | exact patD_len _ | exact valD_len _)) | (apply s_app tab_ok tabZ_ok; (iterate 13 (exact rfl)); (first | (simp; done) | (simp; omega)))
      | (apply s_not_t; (iterate 4 (exact rfl))) | (apply s_not_f; (iterate 4 (exact rfl))) | (apply s_not; (iterate 4 (exact rfl))) | (apply s_eql_t; (iterate 5 (exact rfl)); omega) | (apply s_eql_f; (iterate 5 (exact rfl)); omega)
      | (apply s_neq_t; (iterate 5 (exact rfl)); omega) | (apply s_neq_f; (iterate 5 (exact rfl)); omega) | (apply s_lss_t; (iterate 5 (exact rfl)); omega) | (apply s_lss_f; (iterate 5 (exact rfl)); omega) | (apply s_gtr_t; (iterate 5 (exact rfl)); omega)
      | (apply s_gtr_f; (iterate 5 (exact rfl)); omega) | (apply s_add64; (iterate 5 (exact rfl)); omega) | (apply s_streq_t; (iterate 5 (exact rfl)); assumption) | (apply s_streq_f; (iterate 5 (exact rfl)); assumption)
      | (apply s_subV ((T.length - 1 : Nat) : Int); (iterate 5 (exact rfl)); omega)
      | (apply s_idxS (j := T.length - 1) (y := y) str_ok; (iterate 5 (exact rfl)); exact hyd)
      | (apply s_convBV text (U := 5) (bs := T) (Tab.slIs tab_ok (t := 63) rfl) (by kernel_rfl) str_ok; (iterate 3 (exact rfl)); exact rows_own rfl hB (rows2 := bytesD T) (by rw [List.drop_zero, ← lT, List.take_length]) (by rw [lT]; omega); exact rfl; exact ht)
      | (apply s_callS; (iterate 6 (exact rfl)); first | (exact cr _ _ hA; rintro _ σ ⟨rfl, hc⟩; replace hA := hc.at'; replace hB := hc.keep (by first | assumption | (apply Ne.symm; assumption)) hB; clear hc))
      | refine al_nil ?_ | refine q_then_n ?_ | refine q_blk_n ?_ | refine q_blk_r ?_ | refine q_blk_e ?_
      | refine q_blk_o rfl ?_ | refine q_then_e ?_ | refine aw_block ?_ | refine aw_exit ?_ | refine q_then_r ?_
      | refine aw_seq ?_ | refine aw_reg ?_ | refine aw_true rfl ?_ | refine aw_false rfl ?_ | refine aw_skip ?_
      | refine aw_ret ?_)
        exact q_ret rfl rfl
      · rw [hacc] at h1
        rw [h1] at hB ⊢
        have hyn : (y.toNat : Int) ≠ 10 := fun q => h10 (UInt8.toNat_inj.1 (by show y.toNat = 10; omega))
        have hyd : text.data.toList[T.length - 1]? = some y := by rw [hTd]; exact hy
        have lTT : bytesD (T ++ [10]) = bytesD T ++ bytesD [10] := by simp [bytesD]
        have lT1 : (T ++ [10]).length = T.length + 1 := by simp
        rw [lT1]
        repeat' (first
      | refine s_op rfl ?_ | (apply s_skipV; (iterate 2 (exact rfl))) | (apply s_skipU; (iterate 3 (exact rfl))) | (apply s_move; (iterate 4 (exact rfl))) | (apply s_assign; (iterate 4 (exact rfl)))
      | (apply s_pick_t; (iterate 5 (exact rfl))) | (apply s_pick_f; (iterate 5 (exact rfl))) | (apply s_len tab_ok; (iterate 5 (exact rfl))) | (apply s_lens str_ok; (iterate 4 (exact rfl))) | (apply s_slice tab_ok; (iterate 8 (exact rfl)); (simp; omega))
      | (apply s_ext; (iterate 5 (exact rfl))) | (apply s_build tabZ_ok; (iterate 5 (exact rfl))) | (apply s_lit tab_ok tabZ_ok; (iterate 10 (exact rfl))) | (apply s_lit1 tab_ok tabZ_ok; (iterate 9 (exact rfl)); (first | exact patD_len _ | exact valD_len _)) | (apply s_app tab_ok tabZ_ok; (iterate 13 (exact rfl)); (first | (simp; done) | (simp; omega)))
      | (apply s_not_t; (iterate 4 (exact rfl))) | (apply s_not_f; (iterate 4 (exact rfl))) | (apply s_not; (iterate 4 (exact rfl))) | (apply s_eql_t; (iterate 5 (exact rfl)); omega) | (apply s_eql_f; (iterate 5 (exact rfl)); omega)
      | (apply s_neq_t; (iterate 5 (exact rfl)); omega) | (apply s_neq_f; (iterate 5 (exact rfl)); omega) | (apply s_lss_t; (iterate 5 (exact rfl)); omega) | (apply s_lss_f; (iterate 5 (exact rfl)); omega) | (apply s_gtr_t; (iterate 5 (exact rfl)); omega)
      | (apply s_gtr_f; (iterate 5 (exact rfl)); omega) | (apply s_add64; (iterate 5 (exact rfl)); omega) | (apply s_streq_t; (iterate 5 (exact rfl)); assumption) | (apply s_streq_f; (iterate 5 (exact rfl)); assumption)
      | (apply s_subV ((T.length - 1 : Nat) : Int); (iterate 5 (exact rfl)); omega)
      | (apply s_subV ((T.length : Nat) : Int); (iterate 5 (exact rfl)); omega)
      | (apply s_idxS (j := T.length - 1) (y := y) str_ok; (iterate 5 (exact rfl)); exact hyd)
      | (apply s_maxV (T.length : Int); (iterate 5 (exact rfl)); (split <;> omega))
      | (apply s_sliceOV 0 T.length tab_ok; (iterate 8 (exact rfl)); exact hB; (simp; omega); (simp))
      | (apply s_convBV text (U := 5) (bs := T) (Tab.slIs tab_ok (t := 63) rfl) (by kernel_rfl) str_ok; (iterate 3 (exact rfl)); exact rows_own rfl hB (rows2 := bytesD T) (by rw [List.drop_zero, lTT, List.take_left' lT]) (by rw [lTT]; simp; omega); exact rfl; exact ht)
      | (apply s_callS; (iterate 6 (exact rfl)); first | (exact cr _ _ hA; rintro _ σ ⟨rfl, hc⟩; replace hA := hc.at'; replace hB := hc.keep (by first | assumption | (apply Ne.symm; assumption)) hB; clear hc))
      | refine al_nil ?_ | refine q_then_n ?_ | refine q_blk_n ?_ | refine q_blk_r ?_ | refine q_blk_e ?_
      | refine q_blk_o rfl ?_ | refine q_then_e ?_ | refine aw_block ?_ | refine aw_exit ?_ | refine q_then_r ?_
      | refine aw_seq ?_ | refine aw_reg ?_ | refine aw_true rfl ?_ | refine aw_false rfl ?_ | refine aw_skip ?_
      | refine aw_ret ?_)
        exact q_ret rfl rfl
    · obtain ⟨o, hw⟩ := wr_line (text := text) (p := p) (tr := tr) (by rw [hT]; exact hr)
      rw [hw] at cr
      rw [hT] at cr
      dsimp only at cr
      obtain ⟨d', hI', htold, hlt⟩ := rinv_step hI hr
      rw [hacc] at htold
      generalize hline : (lineOf (T.drop p)).1 = line at cr hI' htold hlt
      generalize hp' : p + line.length + (if (lineOf (T.drop p)).2 = true then 1 else 0) = p' at cr hI' htold hlt
      have lA : (bytesD acc).length = acc.length := by simp [bytesD]
      have lL : (bytesD line).length = line.length := by simp [bytesD]
      have lAL : (bytesD (acc ++ line)).length = acc.length + line.length := by simp [bytesD]
      have hall : (told T p' d').length = acc.length + line.length + 1 := by rw [← htold]; simp; omega
      have hp4 := hI'.le
      have h2 : (told T p' d').length ≤ T.length + 1 := by unfold told; simp; split <;> simp <;> omega
      repeat' (first
      | refine s_op rfl ?_ | (apply s_skipV; (iterate 2 (exact rfl))) | (apply s_skipU; (iterate 3 (exact rfl))) | (apply s_move; (iterate 4 (exact rfl))) | (apply s_assign; (iterate 4 (exact rfl)))
      | (apply s_pick_t; (iterate 5 (exact rfl))) | (apply s_pick_f; (iterate 5 (exact rfl))) | (apply s_len tab_ok; (iterate 5 (exact rfl))) | (apply s_lens str_ok; (iterate 4 (exact rfl))) | (apply s_slice tab_ok; (iterate 8 (exact rfl)); (simp; omega))
      | (apply s_ext; (iterate 5 (exact rfl))) | (apply s_build tabZ_ok; (iterate 5 (exact rfl))) | (apply s_lit tab_ok tabZ_ok; (iterate 10 (exact rfl))) | (apply s_lit1 tab_ok tabZ_ok; (iterate 9 (exact rfl)); (first | exact patD_len _ | exact valD_len _)) | (apply s_app tab_ok tabZ_ok; (iterate 13 (exact rfl)); (first | (simp; done) | (simp; omega)))
      | (apply s_not_t; (iterate 4 (exact rfl))) | (apply s_not_f; (iterate 4 (exact rfl))) | (apply s_not; (iterate 4 (exact rfl))) | (apply s_eql_t; (iterate 5 (exact rfl)); omega) | (apply s_eql_f; (iterate 5 (exact rfl)); omega)
      | (apply s_neq_t; (iterate 5 (exact rfl)); omega) | (apply s_neq_f; (iterate 5 (exact rfl)); omega) | (apply s_lss_t; (iterate 5 (exact rfl)); omega) | (apply s_lss_f; (iterate 5 (exact rfl)); omega) | (apply s_gtr_t; (iterate 5 (exact rfl)); omega)
      | (apply s_gtr_f; (iterate 5 (exact rfl)); omega) | (apply s_add64; (iterate 5 (exact rfl)); omega) | (apply s_sub64; (iterate 5 (exact rfl)); omega) | (apply s_streq_t; (iterate 5 (exact rfl)); assumption) | (apply s_streq_f; (iterate 5 (exact rfl)); assumption)
      | (apply s_appF tab_ok tabZ_ok (rows2 := bytesD line) (rows3 := bytesD (acc ++ line)) (m := acc.length + line.length); (iterate 10 (exact rfl)); exact hB; exact src_string (s := bytesOf line) str_ok rfl; (simp [bytesD]); (rw [lA, lL]; omega); intro σ hc; replace hB := hc.at'; replace hA := hc.keep nAB hA; clear hc)
      | (apply s_appF tab_ok tabZ_ok (rows2 := [[.v (.int .u8 10)]]) (rows3 := bytesD (told T p' d')) (m := (told T p' d').length); (iterate 10 (exact rfl)); exact hB; exact src_of (Tab.slIs tab_ok (t := 63) rfl) (rows_d rfl); (rw [← htold]; simp [bytesD, byteD]); (rw [lAL, hall]; simp; omega); intro σ hc; replace hB := hc.at'; replace hA := hc.keep nAB hA; clear hc)
      | (apply s_callS; (iterate 6 (exact rfl)); first | (exact cr _ _ hA; rintro _ σ ⟨rfl, hc⟩; replace hA := hc.at'; replace hB := hc.keep (by first | assumption | (apply Ne.symm; assumption)) hB; clear hc))
      | refine al_nil ?_ | refine q_then_n ?_ | refine q_blk_n ?_ | refine q_blk_r ?_ | refine q_blk_e ?_
      | refine q_blk_o rfl ?_ | refine q_then_e ?_ | refine aw_block ?_ | refine aw_exit ?_ | refine q_then_r ?_
      | refine aw_seq ?_ | refine aw_reg ?_ | refine aw_true rfl ?_ | refine aw_false rfl ?_ | refine aw_skip ?_
      | refine aw_ret ?_)
      exact ⟨_, _, rfl, by omega, k + 1, p', ver + 1 + 1, d', tr ++ [o], rfl, hA, hB, hI', by omega, by simp; omega, rfl⟩
  · repeat' (first
      | refine s_op rfl ?_ | (apply s_skipV; (iterate 2 (exact rfl))) | (apply s_skipU; (iterate 3 (exact rfl))) | (apply s_move; (iterate 4 (exact rfl))) | (apply s_assign; (iterate 4 (exact rfl)))
      | (apply s_pick_t; (iterate 5 (exact rfl))) | (apply s_pick_f; (iterate 5 (exact rfl))) | (apply s_len tab_ok; (iterate 5 (exact rfl))) | (apply s_lens str_ok; (iterate 4 (exact rfl))) | (apply s_slice tab_ok; (iterate 8 (exact rfl)); (simp; omega))
      | (apply s_ext; (iterate 5 (exact rfl))) | (apply s_build tabZ_ok; (iterate 5 (exact rfl))) | (apply s_lit tab_ok tabZ_ok; (iterate 10 (exact rfl))) | (apply s_lit1 tab_ok tabZ_ok; (iterate 9 (exact rfl)); (first | exact patD_len _ | exact valD_len _)) | (apply s_app tab_ok tabZ_ok; (iterate 13 (exact rfl)); (first | (simp; done) | (simp; omega)))
      | (apply s_not_t; (iterate 4 (exact rfl))) | (apply s_not_f; (iterate 4 (exact rfl))) | (apply s_not; (iterate 4 (exact rfl))) | (apply s_eql_t; (iterate 5 (exact rfl)); omega) | (apply s_eql_f; (iterate 5 (exact rfl)); omega)
      | (apply s_neq_t; (iterate 5 (exact rfl)); omega) | (apply s_neq_f; (iterate 5 (exact rfl)); omega) | (apply s_lss_t; (iterate 5 (exact rfl)); omega) | (apply s_lss_f; (iterate 5 (exact rfl)); omega) | (apply s_gtr_t; (iterate 5 (exact rfl)); omega)
      | (apply s_gtr_f; (iterate 5 (exact rfl)); omega) | (apply s_add64; (iterate 5 (exact rfl)); omega) | (apply s_sub64; (iterate 5 (exact rfl)); omega) | (apply s_streq_t; (iterate 5 (exact rfl)); assumption) | (apply s_streq_f; (iterate 5 (exact rfl)); assumption)
      | (apply s_call; (iterate 6 (exact rfl)); first | (exact known_p; rintro _ rfl) | (exact great_p _ _ (by assumption); rintro _ (rfl | ⟨rfl, hg⟩) <;> (try (exfalso; omega))) | (exact heavy_p _ (by assumption); rintro _ (rfl | ⟨rfl, hg⟩) <;> (try (exfalso; omega))))
      | refine al_nil ?_ | refine q_then_n ?_ | refine q_blk_n ?_ | refine q_blk_r ?_ | refine q_blk_e ?_
      | refine q_blk_o rfl ?_ | refine q_then_e ?_ | refine aw_block ?_ | refine aw_exit ?_ | refine q_then_r ?_
      | refine aw_seq ?_ | refine aw_reg ?_ | refine aw_true rfl ?_ | refine aw_false rfl ?_ | refine aw_skip ?_
      | refine aw_ret ?_)
    all_goals exact q_ret rfl rfl
end Go.Proofs.Ytlpgekodoiioaaa
