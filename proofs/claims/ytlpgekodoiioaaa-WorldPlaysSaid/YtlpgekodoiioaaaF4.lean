/- The document's world: Read. -/
import Derived.Test.YtlpgekodoiioaaaF3
set_option linter.unusedSimpArgs false
set_option linter.unusedVariables false
namespace Go.Proofs.Ytlpgekodoiioaaa
open Go.RowKit
-- DEF LDP: (apply s_ldF tab_ok; (iterate 5 (exact rfl)); exact hP; exact rfl)
-- DEF LDX: (apply s_ldF tab_ok; (iterate 5 (exact rfl)); exact hX; exact rfl)
-- DEF FAIL: (apply s_callS; (iterate 6 (exact rfl)); exact cf; rintro _ σ ⟨rfl, hR, hO2⟩; replace hO := hO.trans hO2; clear hO2)
-- DEF WRONG: (apply s_callS; (iterate 6 (exact rfl)); exact wrong_c hR _; rintro _ _ ⟨rfl, rfl⟩)
-- DEF IDXH: (apply s_idxO _ tab_ok; (iterate 7 (exact rfl)); exact hH; exact ⟨by omega, rfl⟩)
-- DEF IDXF: (apply s_idxO _ tab_ok; (iterate 7 (exact rfl)); exact hF; exact ⟨by omega, rfl⟩)

theorem extract_line {T line : List UInt8} {s : ByteArray} {p : Nat} (hT : s.data.toList = T) (h : ∀ m, m < line.length → T[p + m]? = line[m]?) : s.extract p (p + line.length) = bytesOf line := by
  apply ByteArray.ext
  rw [ByteArray.data_extract]
  unfold bytesOf
  apply Array.ext'
  rw [Array.toList_extract, hT]
  apply List.ext_getElem?
  intro m
  by_cases hm : m < line.length
  · rw [List.extract_eq_take_drop, List.getElem?_take, if_pos (by omega), List.getElem?_drop, h m hm]
  · rw [List.extract_eq_take_drop, List.getElem?_eq_none (by simp; omega), List.getElem?_eq_none (by simp; omega)]

theorem Out.freshNe {q : RL} {σ0 σ σ' : List AObj} {l : Nat} {o : AObj} (h : Out q σ0 σ) (hc : Fresh σ l o σ') (hq : ∀ k, q.has k → k ≠ l) : ∀ k o, σ0[k]? = some o → k ≠ l := fun k o e => by
  by_cases hk : q.has k
  · exact hq k hk
  · exact hc.ne (h k o e hk)
theorem Out.chgL {q : RL} {σ0 σ σ' : List AObj} {l : Nat} {o : AObj} (h : Out q σ0 σ) (hc : Chg σ l o σ') (hl : ∀ k o, σ0[k]? = some o → k ≠ l) : Out q σ0 σ' :=
  fun k o e n => hc.keep (hl k o e) (h k o e n)

section
variable {σ : List AObj} {q : RL} {W : AW} {n : Nat}

set_option maxRecDepth 100000 in
set_option maxHeartbeats 4000000 in
theorem rread_c (hR : RefAt σ q W) (x : Int) (ok : W.Ok n) (hn : n ≤ 100000) : Runs Try.prog 44 [.ptr q.p 0 0, .d (.v (.int .i64 x))] σ (RefP q (W.read x).2 (.tup [.d (.v (.int .u8 (W.read x).1.1)), .d (.v (.string (W.read x).1.2.1)), .d (.v (.int .i64 (W.read x).1.2.2))]) σ) := by
  have hO := Out.refl q σ
  refine enter 95 Try.func44 rfl (by kernel_rfl) rfl rfl rfl ?_
  by_cases hw : W.wrong x = 0
  · obtain ⟨i, rfl, hi, hx, hs⟩ := wrong_handle (W := W) (x := x) (by simpa using hw)
    obtain ⟨y, hy⟩ : ∃ y, W.handle i = y := ⟨_, rfl⟩
    rw [hy] at hx hs
    obtain ⟨hyf, hyp⟩ := ok.files _ (List.mem_of_getElem? hx)
    obtain ⟨f, hf⟩ : ∃ f, W.files[y.file]? = some f := ⟨_, List.getElem?_eq_getElem hyf⟩
    have hft := ok.texts f (List.mem_of_getElem? hf)
    have hff : W.file y.file = f := by unfold AW.file; rw [List.getD_eq_getElem?_getD, hf]; rfl
    rw [hff] at hyp
    have e0 := goes_files W
    have e1 := goes_handles W
    have e2 := goes_trace W
    have cf := fail_c hR
    obtain ⟨g, hg⟩ : ∃ g, W.goes.1 = g := ⟨_, rfl⟩
    obtain ⟨W1, hW1⟩ : ∃ W1, W.goes.2 = W1 := ⟨_, rfl⟩
    obtain ⟨T, hT0⟩ : ∃ T, f.text.toList = T := ⟨_, rfl⟩
    have hTd : f.text.data.toList = T := by rw [← hT0, Go.Lib.toList_data]
    have hTs : T.length = f.text.size := by rw [← hT0, Go.Lib.toList_data, ← Go.Lib.size_eq]
    rw [hg, hW1] at cf
    have hd : W.read i = (if g = false then ((3, emptyB, 0), W1.note ⟨2, i, emptyB, emptyB, false⟩) else if T.drop y.pos = [] then ((2, emptyB, 0), W1.note ⟨2, i, emptyB, emptyB, true⟩)
        else ((1, bytesOf (lineOf (T.drop y.pos)).1, 0), (W1.setHandle i { y with pos := y.pos + (lineOf (T.drop y.pos)).1.length + (if (lineOf (T.drop y.pos)).2 then 1 else 0) }).note ⟨2, i, emptyB, bytesOf (lineOf (T.drop y.pos)).1, true⟩)) := by
      unfold AW.read
      rw [if_neg (by simpa using hw), Int.toNat_natCast, hy, hg, hW1]
      dsimp only
      rw [hff, hT0]
    rw [hW1] at e0 e1 e2
    have hyr := map_get (f := hD) hx
    rw [hD_open hs] at hyr
    have hfr := map_get (f := fileD) hf
    rw [← e1] at hyr
    rw [← e0] at hfr
    have hi1 : i < W1.handles.length := by rw [e1]; exact hi
    have hl1 : y.file < W1.files.length := by rw [e0]; exact hyf
    have fin : ∀ (V : AW) (o : AOp) {σ0 σ1 : List AObj}, V.trace = W.trace → RefAt σ1 q V → Out q σ0 σ1 → Runs Try.prog 52 [.ptr q.p 0 0, .d (.agg (opD o))] σ1 (fun v σ' => v = .tup [] ∧ RefAt σ' q (V.note o) ∧ Out q σ0 σ') := fun V o σ0 σ1 h0 h1 h2 =>
      (did_c h1 o (by rw [h0]; exact Nat.le_trans ok.trace hn)).mono fun v σ' ⟨a, b, c⟩ => ⟨a, b, h2.trans c⟩
    cases g <;> simp only [Bool.not_true, Bool.not_false] at cf
    · rw [if_pos rfl] at hd
      rw [hd]
      repeat' (first
      | refine s_op rfl ?_ | (apply s_skip; exact rfl) | (apply s_move; (iterate 4 (exact rfl))) | (apply s_fa_p tab_ok; (iterate 5 (exact rfl))) | (apply s_fa_f tab_ok; (iterate 6 (exact rfl)))
      | (apply s_ld_p tab_ok; (iterate 7 (exact rfl))) | (apply s_ld_f tab_ok; (iterate 6 (exact rfl))) | (apply s_ld_w tab_ok; (iterate 5 (exact rfl)); (first | exact patD_len _ | exact valD_len _)) | (apply s_assign; (iterate 4 (exact rfl))) | (apply s_pick_t; (iterate 5 (exact rfl)))
      | (apply s_pick_f; (iterate 5 (exact rfl))) | (apply s_len tab_ok; (iterate 5 (exact rfl))) | (apply s_lens str_ok; (iterate 4 (exact rfl))) | (apply s_idx tab_ok; (iterate 7 (exact rfl)); (first | exact patR_get (by assumption) | exact valR_get (by assumption) | exact row_map (by assumption) | assumption)) | (apply s_slice tab_ok; (iterate 8 (exact rfl)); (simp; omega))
      | (apply s_nilc; (iterate 5 (exact rfl))) | (apply s_build tabZ_ok; (iterate 5 (exact rfl))) | (apply s_alloc tabZ_ok; (iterate 7 (exact rfl))) | (apply s_store tab_ok; (iterate 10 (exact rfl))) | (apply s_eql_t; (iterate 5 (exact rfl)); omega)
      | (apply s_eql_f; (iterate 5 (exact rfl)); omega) | (apply s_neq_t; (iterate 5 (exact rfl)); omega) | (apply s_neq_f; (iterate 5 (exact rfl)); omega) | (apply s_lss_t; (iterate 5 (exact rfl)); omega) | (apply s_lss_f; (iterate 5 (exact rfl)); omega)
      | (apply s_add64; (iterate 5 (exact rfl)); omega)
      | (apply s_callS; (iterate 6 (exact rfl)); exact wrong_c hR _; rintro _ _ ⟨rfl, rfl⟩)
      | (apply s_callS; (iterate 6 (exact rfl)); exact cf; rintro _ σ ⟨rfl, hR, hO2⟩; replace hO := hO.trans hO2; clear hO2)
      | (apply s_callS; (iterate 6 (exact rfl)); exact fin W1 ⟨2, i, emptyB, emptyB, false⟩ e2 hR hO; rintro _ σ ⟨rfl, hR, hO⟩)
      | refine al_nil ?_ | refine q_then_n ?_ | refine q_blk_n ?_ | refine q_blk_r ?_ | refine q_blk_e ?_
      | refine q_blk_o rfl ?_ | refine q_then_e ?_ | refine aw_block ?_ | refine aw_exit ?_ | refine q_then_r ?_
      | refine aw_seq ?_ | refine aw_reg ?_ | refine aw_true rfl ?_ | refine aw_false rfl ?_ | refine aw_skip ?_
      | refine aw_ret ?_ | refine al_fork ?_ ?_ | refine al_fork3 ?_ ?_ ?_
      | refine aw_draws (id := 8) (trO [0, 1, 2, 3, 4, 5, 6, 7, 8, 9] .nil) [] [] mixed_ok (by kernel_rfl) ?_)
      exact q_ret rfl ⟨rfl, hR, hO⟩
    · rw [if_neg (by simp)] at hd
      repeat' (first
      | refine s_op rfl ?_ | (apply s_skip; exact rfl) | (apply s_move; (iterate 4 (exact rfl))) | (apply s_fa_p tab_ok; (iterate 5 (exact rfl))) | (apply s_fa_f tab_ok; (iterate 6 (exact rfl)))
      | (apply s_ld_p tab_ok; (iterate 7 (exact rfl))) | (apply s_ld_f tab_ok; (iterate 6 (exact rfl))) | (apply s_ld_w tab_ok; (iterate 5 (exact rfl)); (first | exact patD_len _ | exact valD_len _)) | (apply s_assign; (iterate 4 (exact rfl))) | (apply s_pick_t; (iterate 5 (exact rfl)))
      | (apply s_pick_f; (iterate 5 (exact rfl))) | (apply s_len tab_ok; (iterate 5 (exact rfl))) | (apply s_lens str_ok; (iterate 4 (exact rfl))) | (apply s_idx tab_ok; (iterate 7 (exact rfl)); (first | exact patR_get (by assumption) | exact valR_get (by assumption) | exact row_map (by assumption) | assumption)) | (apply s_slice tab_ok; (iterate 8 (exact rfl)); (simp; omega))
      | (apply s_nilc; (iterate 5 (exact rfl))) | (apply s_build tabZ_ok; (iterate 5 (exact rfl))) | (apply s_alloc tabZ_ok; (iterate 7 (exact rfl))) | (apply s_store tab_ok; (iterate 10 (exact rfl))) | (apply s_eql_t; (iterate 5 (exact rfl)); omega)
      | (apply s_eql_f; (iterate 5 (exact rfl)); omega) | (apply s_neq_t; (iterate 5 (exact rfl)); omega) | (apply s_neq_f; (iterate 5 (exact rfl)); omega) | (apply s_lss_t; (iterate 5 (exact rfl)); omega) | (apply s_lss_f; (iterate 5 (exact rfl)); omega)
      | (apply s_add64; (iterate 5 (exact rfl)); omega)
      | (apply s_callS; (iterate 6 (exact rfl)); exact wrong_c hR _; rintro _ _ ⟨rfl, rfl⟩)
      | (apply s_callS; (iterate 6 (exact rfl)); exact cf; rintro _ σ ⟨rfl, hR, hO2⟩; replace hO := hO.trans hO2; clear hO2)
      | refine al_nil ?_ | refine q_then_n ?_ | refine q_blk_n ?_ | refine q_blk_r ?_ | refine q_blk_e ?_
      | refine q_blk_o rfl ?_ | refine q_then_e ?_ | refine aw_block ?_ | refine aw_exit ?_ | refine q_then_r ?_
      | refine aw_seq ?_ | refine aw_reg ?_ | refine aw_true rfl ?_ | refine aw_false rfl ?_ | refine aw_skip ?_
      | refine aw_ret ?_ | refine al_fork ?_ ?_ | refine al_fork3 ?_ ?_ ?_
      | refine aw_draws (id := 8) (trO [0, 1, 2, 3, 4, 5, 6, 7, 8, 9] .nil) [] [] mixed_ok (by kernel_rfl) ?_)
      obtain ⟨⟨pf, ph, pt, fh, ft, hth⟩, F, t, vf, vh, vt, e, ht, hF0, hP, hF, hH, hT⟩ := id hR
      unfold refRow at hP
      by_cases hr : T.drop y.pos = []
      · have hpe : y.pos = f.text.size := by
          have := List.drop_eq_nil_iff.1 hr
          omega
        rw [if_pos hr] at hd
        rw [hd]
        repeat' (first
      | refine s_op rfl ?_ | (apply s_skip; exact rfl) | (apply s_move; (iterate 4 (exact rfl))) | (apply s_fa_p tab_ok; (iterate 5 (exact rfl))) | (apply s_fa_f tab_ok; (iterate 6 (exact rfl)))
      | (apply s_ld_p tab_ok; (iterate 7 (exact rfl))) | (apply s_ld_f tab_ok; (iterate 6 (exact rfl))) | (apply s_ld_w tab_ok; (iterate 5 (exact rfl)); (first | exact patD_len _ | exact valD_len _)) | (apply s_assign; (iterate 4 (exact rfl))) | (apply s_pick_t; (iterate 5 (exact rfl)))
      | (apply s_pick_f; (iterate 5 (exact rfl))) | (apply s_len tab_ok; (iterate 5 (exact rfl))) | (apply s_lens str_ok; (iterate 4 (exact rfl))) | (apply s_idx tab_ok; (iterate 7 (exact rfl)); (first | exact patR_get (by assumption) | exact valR_get (by assumption) | exact row_map (by assumption) | assumption)) | (apply s_slice tab_ok; (iterate 8 (exact rfl)); (simp; omega))
      | (apply s_nilc; (iterate 5 (exact rfl))) | (apply s_build tabZ_ok; (iterate 5 (exact rfl))) | (apply s_alloc tabZ_ok; (iterate 7 (exact rfl))) | (apply s_store tab_ok; (iterate 10 (exact rfl))) | (apply s_eql_t; (iterate 5 (exact rfl)); omega)
      | (apply s_eql_f; (iterate 5 (exact rfl)); omega) | (apply s_neq_t; (iterate 5 (exact rfl)); omega) | (apply s_neq_f; (iterate 5 (exact rfl)); omega) | (apply s_lss_t; (iterate 5 (exact rfl)); omega) | (apply s_lss_f; (iterate 5 (exact rfl)); omega)
      | (apply s_add64; (iterate 5 (exact rfl)); omega)
      | (apply s_ldF tab_ok; (iterate 5 (exact rfl)); exact hP; exact rfl)
      | (apply s_idxO _ tab_ok; (iterate 7 (exact rfl)); exact hH; exact ⟨by omega, rfl⟩)
      | (apply s_ldA i 0 tab_ok; (iterate 5 (exact rfl)); exact hH; exact hyr; omega; exact rfl)
      | (apply s_allocF tabZ_ok; (iterate 6 (exact rfl)); intro locX σ hc; have hX := hc.at'; have nPX := hc.ne hP; replace hP := hc.keep hP; have nFX := hc.ne hF; replace hF := hc.keep hF; have nHX := hc.ne hH; replace hH := hc.keep hH; have nTX := hc.ne hT; replace hT := hc.keep hT; have nX := hO.freshNe hc (by rintro k (rfl | rfl | rfl | rfl) <;> assumption); replace hO := hO.fresh hc; clear hc)
      | (apply s_storeF tab_ok; (iterate 7 (exact rfl)); exact hX; (iterate 2 (exact rfl)); intro σ hc; replace hX := hc.at'; replace hP := hc.keep (by first | assumption | (apply Ne.symm; assumption) | omega) hP; replace hF := hc.keep (by first | assumption | (apply Ne.symm; assumption) | omega) hF; replace hH := hc.keep (by first | assumption | (apply Ne.symm; assumption) | omega) hH; replace hT := hc.keep (by first | assumption | (apply Ne.symm; assumption) | omega) hT; replace hO := hO.chgL hc nX; clear hc)
      | (apply s_ldF tab_ok; (iterate 5 (exact rfl)); exact hX; exact rfl)
      | (apply s_idxO _ tab_ok; (iterate 7 (exact rfl)); exact hF; exact ⟨by omega, rfl⟩)
      | (apply s_ldA y.file 1 tab_ok; (iterate 5 (exact rfl)); exact hF; exact hfr; omega; exact rfl)
      | refine al_nil ?_ | refine q_then_n ?_ | refine q_blk_n ?_ | refine q_blk_r ?_ | refine q_blk_e ?_
      | refine q_blk_o rfl ?_ | refine q_then_e ?_ | refine aw_block ?_ | refine aw_exit ?_ | refine q_then_r ?_
      | refine aw_seq ?_ | refine aw_reg ?_ | refine aw_true rfl ?_ | refine aw_false rfl ?_ | refine aw_skip ?_
      | refine aw_ret ?_ | refine al_fork ?_ ?_ | refine al_fork3 ?_ ?_ ?_
      | refine aw_draws (id := 8) (trO [0, 1, 2, 3, 4, 5, 6, 7, 8, 9] .nil) [] [] mixed_ok (by kernel_rfl) ?_)
        have hR2 : RefAt σ q W1 := ⟨⟨pf, ph, pt, fh, ft, hth⟩, F, t, vf, vh, vt, e, ht, hF0, hP, hF, hH, hT⟩
        repeat' (first
      | refine s_op rfl ?_ | (apply s_skip; exact rfl) | (apply s_move; (iterate 4 (exact rfl))) | (apply s_fa_p tab_ok; (iterate 5 (exact rfl))) | (apply s_fa_f tab_ok; (iterate 6 (exact rfl)))
      | (apply s_ld_p tab_ok; (iterate 7 (exact rfl))) | (apply s_ld_f tab_ok; (iterate 6 (exact rfl))) | (apply s_ld_w tab_ok; (iterate 5 (exact rfl)); (first | exact patD_len _ | exact valD_len _)) | (apply s_assign; (iterate 4 (exact rfl))) | (apply s_pick_t; (iterate 5 (exact rfl)))
      | (apply s_pick_f; (iterate 5 (exact rfl))) | (apply s_len tab_ok; (iterate 5 (exact rfl))) | (apply s_lens str_ok; (iterate 4 (exact rfl))) | (apply s_idx tab_ok; (iterate 7 (exact rfl)); (first | exact patR_get (by assumption) | exact valR_get (by assumption) | exact row_map (by assumption) | assumption)) | (apply s_slice tab_ok; (iterate 8 (exact rfl)); (simp; omega))
      | (apply s_nilc; (iterate 5 (exact rfl))) | (apply s_build tabZ_ok; (iterate 5 (exact rfl))) | (apply s_alloc tabZ_ok; (iterate 7 (exact rfl))) | (apply s_store tab_ok; (iterate 10 (exact rfl))) | (apply s_eql_t; (iterate 5 (exact rfl)); omega)
      | (apply s_eql_f; (iterate 5 (exact rfl)); omega) | (apply s_neq_t; (iterate 5 (exact rfl)); omega) | (apply s_neq_f; (iterate 5 (exact rfl)); omega) | (apply s_lss_t; (iterate 5 (exact rfl)); omega) | (apply s_lss_f; (iterate 5 (exact rfl)); omega)
      | (apply s_add64; (iterate 5 (exact rfl)); omega)
      | (apply s_callS; (iterate 6 (exact rfl)); exact fin W1 ⟨2, i, emptyB, emptyB, true⟩ e2 hR2 hO; rintro _ σ ⟨rfl, hR, hO⟩)
      | refine al_nil ?_ | refine q_then_n ?_ | refine q_blk_n ?_ | refine q_blk_r ?_ | refine q_blk_e ?_
      | refine q_blk_o rfl ?_ | refine q_then_e ?_ | refine aw_block ?_ | refine aw_exit ?_ | refine q_then_r ?_
      | refine aw_seq ?_ | refine aw_reg ?_ | refine aw_true rfl ?_ | refine aw_false rfl ?_ | refine aw_skip ?_
      | refine aw_ret ?_ | refine al_fork ?_ ?_ | refine al_fork3 ?_ ?_ ?_
      | refine aw_draws (id := 8) (trO [0, 1, 2, 3, 4, 5, 6, 7, 8, 9] .nil) [] [] mixed_ok (by kernel_rfl) ?_)
        exact q_ret rfl ⟨rfl, hR, hO⟩
      · have hpl : y.pos < f.text.size := by
          apply Decidable.byContradiction
          intro h2
          exact hr (List.drop_eq_nil_of_le (by omega))
        rw [if_neg hr] at hd
        obtain ⟨s1, s2⟩ := lineOf_spec (T.drop y.pos)
        obtain ⟨L, hL⟩ : ∃ L, lineOf (T.drop y.pos) = L := ⟨_, rfl⟩
        rw [hL] at hd s1 s2
        obtain ⟨line, b⟩ := L
        dsimp only at hd s1 s2
        rw [hd]
        have hin : ∀ m, m < line.length → T[y.pos + m]? = line[m]? := fun m hm => by
          rw [← List.getElem?_drop]
          rcases s2 with ⟨_, s2⟩ | ⟨_, s2⟩
          · rw [s2]
          · rw [s2, List.getElem?_append_left hm]
        have hend : (b = false ∧ y.pos + line.length = T.length) ∨ (b = true ∧ y.pos + line.length < T.length ∧ T[y.pos + line.length]? = some 10) := by
          rcases s2 with ⟨s3, s2⟩ | ⟨s3, s2⟩
          · refine .inl ⟨s3, ?_⟩
            rw [s2]; simp; omega
          · have h10 : T[y.pos + line.length]? = some 10 := by
              rw [← List.getElem?_drop, s2, List.getElem?_append_right (Nat.le_refl _)]; simp
            exact .inr ⟨s3, (List.getElem?_eq_some_iff.1 h10).1, h10⟩
        have hll : y.pos + line.length ≤ T.length := by rcases hend with ⟨_, h2⟩ | ⟨_, h2, _⟩ <;> omega
        repeat' (first
      | refine s_op rfl ?_ | (apply s_skip; exact rfl) | (apply s_move; (iterate 4 (exact rfl))) | (apply s_fa_p tab_ok; (iterate 5 (exact rfl))) | (apply s_fa_f tab_ok; (iterate 6 (exact rfl)))
      | (apply s_ld_p tab_ok; (iterate 7 (exact rfl))) | (apply s_ld_f tab_ok; (iterate 6 (exact rfl))) | (apply s_ld_w tab_ok; (iterate 5 (exact rfl)); (first | exact patD_len _ | exact valD_len _)) | (apply s_assign; (iterate 4 (exact rfl))) | (apply s_pick_t; (iterate 5 (exact rfl)))
      | (apply s_pick_f; (iterate 5 (exact rfl))) | (apply s_len tab_ok; (iterate 5 (exact rfl))) | (apply s_lens str_ok; (iterate 4 (exact rfl))) | (apply s_idx tab_ok; (iterate 7 (exact rfl)); (first | exact patR_get (by assumption) | exact valR_get (by assumption) | exact row_map (by assumption) | assumption)) | (apply s_slice tab_ok; (iterate 8 (exact rfl)); (simp; omega))
      | (apply s_nilc; (iterate 5 (exact rfl))) | (apply s_build tabZ_ok; (iterate 5 (exact rfl))) | (apply s_alloc tabZ_ok; (iterate 7 (exact rfl))) | (apply s_store tab_ok; (iterate 10 (exact rfl))) | (apply s_eql_t; (iterate 5 (exact rfl)); omega)
      | (apply s_eql_f; (iterate 5 (exact rfl)); omega) | (apply s_neq_t; (iterate 5 (exact rfl)); omega) | (apply s_neq_f; (iterate 5 (exact rfl)); omega) | (apply s_lss_t; (iterate 5 (exact rfl)); omega) | (apply s_lss_f; (iterate 5 (exact rfl)); omega)
      | (apply s_add64; (iterate 5 (exact rfl)); omega)
      | (apply s_ldF tab_ok; (iterate 5 (exact rfl)); exact hP; exact rfl)
      | (apply s_idxO _ tab_ok; (iterate 7 (exact rfl)); exact hH; exact ⟨by omega, rfl⟩)
      | (apply s_ldA i 0 tab_ok; (iterate 5 (exact rfl)); exact hH; exact hyr; omega; exact rfl)
      | (apply s_allocF tabZ_ok; (iterate 6 (exact rfl)); intro locX σ hc; have hX := hc.at'; have nPX := hc.ne hP; replace hP := hc.keep hP; have nFX := hc.ne hF; replace hF := hc.keep hF; have nHX := hc.ne hH; replace hH := hc.keep hH; have nTX := hc.ne hT; replace hT := hc.keep hT; have nX := hO.freshNe hc (by rintro k (rfl | rfl | rfl | rfl) <;> assumption); replace hO := hO.fresh hc; clear hc)
      | (apply s_storeF tab_ok; (iterate 7 (exact rfl)); exact hX; (iterate 2 (exact rfl)); intro σ hc; replace hX := hc.at'; replace hP := hc.keep (by first | assumption | (apply Ne.symm; assumption) | omega) hP; replace hF := hc.keep (by first | assumption | (apply Ne.symm; assumption) | omega) hF; replace hH := hc.keep (by first | assumption | (apply Ne.symm; assumption) | omega) hH; replace hT := hc.keep (by first | assumption | (apply Ne.symm; assumption) | omega) hT; replace hO := hO.chgL hc nX; clear hc)
      | (apply s_ldF tab_ok; (iterate 5 (exact rfl)); exact hX; exact rfl)
      | (apply s_idxO _ tab_ok; (iterate 7 (exact rfl)); exact hF; exact ⟨by omega, rfl⟩)
      | (apply s_ldA y.file 1 tab_ok; (iterate 5 (exact rfl)); exact hF; exact hfr; omega; exact rfl)
      | refine al_nil ?_ | refine q_then_n ?_ | refine q_blk_n ?_ | refine q_blk_r ?_ | refine q_blk_e ?_
      | refine q_blk_o rfl ?_ | refine q_then_e ?_ | refine aw_block ?_ | refine aw_exit ?_ | refine q_then_r ?_
      | refine aw_seq ?_ | refine aw_reg ?_ | refine aw_true rfl ?_ | refine aw_false rfl ?_ | refine aw_skip ?_
      | refine aw_ret ?_ | refine al_fork ?_ ?_ | refine al_fork3 ?_ ?_ ?_
      | refine aw_draws (id := 8) (trO [0, 1, 2, 3, 4, 5, 6, 7, 8, 9] .nil) [] [] mixed_ok (by kernel_rfl) ?_)
        refine w_loop [0, 1, 4, 5, 6, 8, 9, 10] (fun n vs σ2 => ∃ m : Nat, vs = [.ptr q.p 0 0, .d (.v (.int .i64 (i : Int))), .d (.v (.int .u8 0)), .d (.v (.string ⟨#[]⟩)), .d (.v (.int .i64 0)), .ptr locX 0 0, .d (.v (.string f.text)), .d (.v (.int .i64 ((y.pos + m : Nat) : Int)))] ∧ σ2 = σ ∧ m ≤ line.length ∧ n = line.length - m) rfl ⟨0, rfl, rfl, by omega, rfl⟩ ?_
        rintro n vs σ2 ⟨m, rfl, rfl, hm, rfl⟩ fr hfr2
        cases hfr2
        by_cases hlt : m < line.length
        · obtain ⟨c, hc⟩ : ∃ c, line[m]? = some c := ⟨_, List.getElem?_eq_getElem hlt⟩
          have hcd : f.text.data.toList[y.pos + m]? = some c := by rw [hTd, hin m hlt, hc]
          have hcn : (c.toNat : Int) ≠ 10 := fun h2 => s1 (by
            have : c = 10 := UInt8.toNat_inj.1 (by show c.toNat = 10; omega)
            rw [← this]; exact List.mem_of_getElem? hc)
          repeat' (first
      | refine s_op rfl ?_ | (apply s_skip; exact rfl) | (apply s_move; (iterate 4 (exact rfl))) | (apply s_fa_p tab_ok; (iterate 5 (exact rfl))) | (apply s_fa_f tab_ok; (iterate 6 (exact rfl)))
      | (apply s_ld_p tab_ok; (iterate 7 (exact rfl))) | (apply s_ld_f tab_ok; (iterate 6 (exact rfl))) | (apply s_ld_w tab_ok; (iterate 5 (exact rfl)); (first | exact patD_len _ | exact valD_len _)) | (apply s_assign; (iterate 4 (exact rfl))) | (apply s_pick_t; (iterate 5 (exact rfl)))
      | (apply s_pick_f; (iterate 5 (exact rfl))) | (apply s_len tab_ok; (iterate 5 (exact rfl))) | (apply s_lens str_ok; (iterate 4 (exact rfl))) | (apply s_idx tab_ok; (iterate 7 (exact rfl)); (first | exact patR_get (by assumption) | exact valR_get (by assumption) | exact row_map (by assumption) | assumption)) | (apply s_slice tab_ok; (iterate 8 (exact rfl)); (simp; omega))
      | (apply s_nilc; (iterate 5 (exact rfl))) | (apply s_build tabZ_ok; (iterate 5 (exact rfl))) | (apply s_alloc tabZ_ok; (iterate 7 (exact rfl))) | (apply s_store tab_ok; (iterate 10 (exact rfl))) | (apply s_eql_t; (iterate 5 (exact rfl)); omega)
      | (apply s_eql_f; (iterate 5 (exact rfl)); omega) | (apply s_neq_t; (iterate 5 (exact rfl)); omega) | (apply s_neq_f; (iterate 5 (exact rfl)); omega) | (apply s_lss_t; (iterate 5 (exact rfl)); omega) | (apply s_lss_f; (iterate 5 (exact rfl)); omega)
      | (apply s_idxS (j := y.pos + m) (y := c) str_ok; (iterate 5 (exact rfl)); exact hcd)
      | (apply s_addV ((y.pos + (m + 1) : Nat) : Int); (iterate 5 (exact rfl)); omega)
      | refine al_nil ?_ | refine q_then_n ?_ | refine q_blk_n ?_ | refine q_blk_r ?_ | refine q_blk_e ?_
      | refine q_blk_o rfl ?_ | refine q_then_e ?_ | refine aw_block ?_ | refine aw_exit ?_ | refine q_then_r ?_
      | refine aw_seq ?_ | refine aw_reg ?_ | refine aw_true rfl ?_ | refine aw_false rfl ?_ | refine aw_skip ?_
      | refine aw_ret ?_ | refine al_fork ?_ ?_ | refine al_fork3 ?_ ?_ ?_
      | refine aw_draws (id := 8) (trO [0, 1, 2, 3, 4, 5, 6, 7, 8, 9] .nil) [] [] mixed_ok (by kernel_rfl) ?_)
          exact ⟨_, _, rfl, by omega, m + 1, rfl, rfl, by omega, rfl⟩
        · have hme : m = line.length := by omega
          subst hme
          have hex := extract_line hTd hin
          have hset : ∀ z : Nat, (W1.handles.map hD).set i (spliceL [.v (.int .i64 (y.file : Int)), .v (.int .i64 (y.pos : Int))] 1 [.v (.int .i64 (z : Int))]) = (W1.handles.set i { y with pos := z }).map hD := fun z => by
            rw [List.map_set, hD_open (y := { y with pos := z }) hs]; rfl
          have hset2 : ∀ z z2 : Nat, ((W1.handles.set i { y with pos := z }).map hD).set i (spliceL [.v (.int .i64 (y.file : Int)), .v (.int .i64 (z : Int))] 1 [.v (.int .i64 (z2 : Int))]) = (W1.handles.set i { y with pos := z2 }).map hD := fun z z2 => by
            rw [List.map_set, List.map_set, List.set_set, hD_open (y := { y with pos := z2 }) hs]; rfl
          have hyr2 : ∀ z : Nat, ((W1.handles.set i { y with pos := z }).map hD)[i]? = some [.v (.int .i64 (y.file : Int)), .v (.int .i64 (z : Int))] := fun z => by
            rw [List.map_set, List.getElem?_set_self (by simpa using hi1), hD_open (y := { y with pos := z }) hs]
          rcases hend with ⟨hb, h2⟩ | ⟨hb, h2, h10⟩
          · subst hb
            repeat' (first
      | refine s_op rfl ?_ | (apply s_skip; exact rfl) | (apply s_move; (iterate 4 (exact rfl))) | (apply s_fa_p tab_ok; (iterate 5 (exact rfl))) | (apply s_fa_f tab_ok; (iterate 6 (exact rfl)))
      | (apply s_ld_p tab_ok; (iterate 7 (exact rfl))) | (apply s_ld_f tab_ok; (iterate 6 (exact rfl))) | (apply s_ld_w tab_ok; (iterate 5 (exact rfl)); (first | exact patD_len _ | exact valD_len _)) | (apply s_assign; (iterate 4 (exact rfl))) | (apply s_pick_t; (iterate 5 (exact rfl)))
      | (apply s_pick_f; (iterate 5 (exact rfl))) | (apply s_len tab_ok; (iterate 5 (exact rfl))) | (apply s_lens str_ok; (iterate 4 (exact rfl))) | (apply s_idx tab_ok; (iterate 7 (exact rfl)); (first | exact patR_get (by assumption) | exact valR_get (by assumption) | exact row_map (by assumption) | assumption)) | (apply s_slice tab_ok; (iterate 8 (exact rfl)); (simp; omega))
      | (apply s_nilc; (iterate 5 (exact rfl))) | (apply s_build tabZ_ok; (iterate 5 (exact rfl))) | (apply s_alloc tabZ_ok; (iterate 7 (exact rfl))) | (apply s_store tab_ok; (iterate 10 (exact rfl))) | (apply s_eql_t; (iterate 5 (exact rfl)); omega)
      | (apply s_eql_f; (iterate 5 (exact rfl)); omega) | (apply s_neq_t; (iterate 5 (exact rfl)); omega) | (apply s_neq_f; (iterate 5 (exact rfl)); omega) | (apply s_lss_t; (iterate 5 (exact rfl)); omega) | (apply s_lss_f; (iterate 5 (exact rfl)); omega)
      | (apply s_ldF tab_ok; (iterate 5 (exact rfl)); exact hP; exact rfl)
      | (apply s_ldF tab_ok; (iterate 5 (exact rfl)); exact hX; exact rfl)
      | (apply s_idxO _ tab_ok; (iterate 7 (exact rfl)); exact hH; exact ⟨by omega, rfl⟩)
      | (apply s_sliceSV (bytesOf line) str_ok; (iterate 6 (exact rfl)); (simp; omega); exact hex)
      | (apply s_stA i 1 tab_ok; (iterate 8 (exact rfl)); exact hH; exact hyr; omega; omega; exact hset (y.pos + line.length); intro σ hc; replace hH := hc.at'; replace hP := hc.keep (by first | assumption | (apply Ne.symm; assumption) | omega) hP; replace hF := hc.keep (by first | assumption | (apply Ne.symm; assumption) | omega) hF; replace hT := hc.keep (by first | assumption | (apply Ne.symm; assumption) | omega) hT; replace hX := hc.keep (by first | assumption | (apply Ne.symm; assumption) | omega) hX; replace hO := hO.chg hc (has_h q); clear hc)
      | refine al_nil ?_ | refine q_then_n ?_ | refine q_blk_n ?_ | refine q_blk_r ?_ | refine q_blk_e ?_
      | refine q_blk_o rfl ?_ | refine q_then_e ?_ | refine aw_block ?_ | refine aw_exit ?_ | refine q_then_r ?_
      | refine aw_seq ?_ | refine aw_reg ?_ | refine aw_true rfl ?_ | refine aw_false rfl ?_ | refine aw_skip ?_
      | refine aw_ret ?_ | refine al_fork ?_ ?_ | refine al_fork3 ?_ ?_ ?_
      | refine aw_draws (id := 8) (trO [0, 1, 2, 3, 4, 5, 6, 7, 8, 9] .nil) [] [] mixed_ok (by kernel_rfl) ?_)
            have hR2 : RefAt σ q (W1.setHandle i { y with pos := y.pos + line.length }) := ⟨⟨pf, ph, pt, fh, ft, hth⟩, F, t, vf, vh, vt, e, ht, hF0, by unfold refRow AW.setHandle; simp only [List.length_set]; exact hP, hF, hH, hT⟩
            repeat' (first
      | refine s_op rfl ?_ | (apply s_skip; exact rfl) | (apply s_move; (iterate 4 (exact rfl))) | (apply s_fa_p tab_ok; (iterate 5 (exact rfl))) | (apply s_fa_f tab_ok; (iterate 6 (exact rfl)))
      | (apply s_ld_p tab_ok; (iterate 7 (exact rfl))) | (apply s_ld_f tab_ok; (iterate 6 (exact rfl))) | (apply s_ld_w tab_ok; (iterate 5 (exact rfl)); (first | exact patD_len _ | exact valD_len _)) | (apply s_assign; (iterate 4 (exact rfl))) | (apply s_pick_t; (iterate 5 (exact rfl)))
      | (apply s_pick_f; (iterate 5 (exact rfl))) | (apply s_len tab_ok; (iterate 5 (exact rfl))) | (apply s_lens str_ok; (iterate 4 (exact rfl))) | (apply s_idx tab_ok; (iterate 7 (exact rfl)); (first | exact patR_get (by assumption) | exact valR_get (by assumption) | exact row_map (by assumption) | assumption)) | (apply s_slice tab_ok; (iterate 8 (exact rfl)); (simp; omega))
      | (apply s_nilc; (iterate 5 (exact rfl))) | (apply s_build tabZ_ok; (iterate 5 (exact rfl))) | (apply s_alloc tabZ_ok; (iterate 7 (exact rfl))) | (apply s_store tab_ok; (iterate 10 (exact rfl))) | (apply s_eql_t; (iterate 5 (exact rfl)); omega)
      | (apply s_eql_f; (iterate 5 (exact rfl)); omega) | (apply s_neq_t; (iterate 5 (exact rfl)); omega) | (apply s_neq_f; (iterate 5 (exact rfl)); omega) | (apply s_lss_t; (iterate 5 (exact rfl)); omega) | (apply s_lss_f; (iterate 5 (exact rfl)); omega)
      | (apply s_add64; (iterate 5 (exact rfl)); omega)
      | (apply s_callS; (iterate 6 (exact rfl)); exact fin (W1.setHandle i { y with pos := y.pos + line.length }) ⟨2, i, emptyB, bytesOf line, true⟩ e2 hR2 hO; rintro _ σ ⟨rfl, hR, hO⟩)
      | refine al_nil ?_ | refine q_then_n ?_ | refine q_blk_n ?_ | refine q_blk_r ?_ | refine q_blk_e ?_
      | refine q_blk_o rfl ?_ | refine q_then_e ?_ | refine aw_block ?_ | refine aw_exit ?_ | refine q_then_r ?_
      | refine aw_seq ?_ | refine aw_reg ?_ | refine aw_true rfl ?_ | refine aw_false rfl ?_ | refine aw_skip ?_
      | refine aw_ret ?_ | refine al_fork ?_ ?_ | refine al_fork3 ?_ ?_ ?_
      | refine aw_draws (id := 8) (trO [0, 1, 2, 3, 4, 5, 6, 7, 8, 9] .nil) [] [] mixed_ok (by kernel_rfl) ?_)
            exact q_ret rfl ⟨rfl, hR, hO⟩
          · subst hb
            obtain ⟨c, hcd, hc10⟩ : ∃ c : UInt8, f.text.data.toList[y.pos + line.length]? = some c ∧ (c.toNat : Int) = 10 := ⟨10, by rw [hTd]; exact h10, rfl⟩
            repeat' (first
      | refine s_op rfl ?_ | (apply s_skip; exact rfl) | (apply s_move; (iterate 4 (exact rfl))) | (apply s_fa_p tab_ok; (iterate 5 (exact rfl))) | (apply s_fa_f tab_ok; (iterate 6 (exact rfl)))
      | (apply s_ld_p tab_ok; (iterate 7 (exact rfl))) | (apply s_ld_f tab_ok; (iterate 6 (exact rfl))) | (apply s_ld_w tab_ok; (iterate 5 (exact rfl)); (first | exact patD_len _ | exact valD_len _)) | (apply s_assign; (iterate 4 (exact rfl))) | (apply s_pick_t; (iterate 5 (exact rfl)))
      | (apply s_pick_f; (iterate 5 (exact rfl))) | (apply s_len tab_ok; (iterate 5 (exact rfl))) | (apply s_lens str_ok; (iterate 4 (exact rfl))) | (apply s_idx tab_ok; (iterate 7 (exact rfl)); (first | exact patR_get (by assumption) | exact valR_get (by assumption) | exact row_map (by assumption) | assumption)) | (apply s_slice tab_ok; (iterate 8 (exact rfl)); (simp; omega))
      | (apply s_nilc; (iterate 5 (exact rfl))) | (apply s_build tabZ_ok; (iterate 5 (exact rfl))) | (apply s_alloc tabZ_ok; (iterate 7 (exact rfl))) | (apply s_store tab_ok; (iterate 10 (exact rfl))) | (apply s_eql_t; (iterate 5 (exact rfl)); omega)
      | (apply s_eql_f; (iterate 5 (exact rfl)); omega) | (apply s_neq_t; (iterate 5 (exact rfl)); omega) | (apply s_neq_f; (iterate 5 (exact rfl)); omega) | (apply s_lss_t; (iterate 5 (exact rfl)); omega) | (apply s_lss_f; (iterate 5 (exact rfl)); omega)
      | (apply s_ldF tab_ok; (iterate 5 (exact rfl)); exact hP; exact rfl)
      | (apply s_ldF tab_ok; (iterate 5 (exact rfl)); exact hX; exact rfl)
      | (apply s_idxO _ tab_ok; (iterate 7 (exact rfl)); exact hH; exact ⟨by omega, rfl⟩)
      | (apply s_idxS (j := y.pos + line.length) (y := c) str_ok; (iterate 5 (exact rfl)); exact hcd)
      | (apply s_sliceSV (bytesOf line) str_ok; (iterate 6 (exact rfl)); (simp; omega); exact hex)
      | (apply s_stA i 1 tab_ok; (iterate 8 (exact rfl)); exact hH; exact hyr; omega; omega; exact hset (y.pos + line.length); intro σ hc; replace hH := hc.at'; replace hP := hc.keep (by first | assumption | (apply Ne.symm; assumption) | omega) hP; replace hF := hc.keep (by first | assumption | (apply Ne.symm; assumption) | omega) hF; replace hT := hc.keep (by first | assumption | (apply Ne.symm; assumption) | omega) hT; replace hX := hc.keep (by first | assumption | (apply Ne.symm; assumption) | omega) hX; replace hO := hO.chg hc (has_h q); clear hc)
      | refine al_nil ?_ | refine q_then_n ?_ | refine q_blk_n ?_ | refine q_blk_r ?_ | refine q_blk_e ?_
      | refine q_blk_o rfl ?_ | refine q_then_e ?_ | refine aw_block ?_ | refine aw_exit ?_ | refine q_then_r ?_
      | refine aw_seq ?_ | refine aw_reg ?_ | refine aw_true rfl ?_ | refine aw_false rfl ?_ | refine aw_skip ?_
      | refine aw_ret ?_ | refine al_fork ?_ ?_ | refine al_fork3 ?_ ?_ ?_
      | refine aw_draws (id := 8) (trO [0, 1, 2, 3, 4, 5, 6, 7, 8, 9] .nil) [] [] mixed_ok (by kernel_rfl) ?_)
            repeat' (first
      | refine s_op rfl ?_ | (apply s_skip; exact rfl) | (apply s_move; (iterate 4 (exact rfl))) | (apply s_fa_p tab_ok; (iterate 5 (exact rfl))) | (apply s_fa_f tab_ok; (iterate 6 (exact rfl)))
      | (apply s_ld_p tab_ok; (iterate 7 (exact rfl))) | (apply s_ld_f tab_ok; (iterate 6 (exact rfl))) | (apply s_ld_w tab_ok; (iterate 5 (exact rfl)); (first | exact patD_len _ | exact valD_len _)) | (apply s_assign; (iterate 4 (exact rfl))) | (apply s_pick_t; (iterate 5 (exact rfl)))
      | (apply s_pick_f; (iterate 5 (exact rfl))) | (apply s_len tab_ok; (iterate 5 (exact rfl))) | (apply s_lens str_ok; (iterate 4 (exact rfl))) | (apply s_idx tab_ok; (iterate 7 (exact rfl)); (first | exact patR_get (by assumption) | exact valR_get (by assumption) | exact row_map (by assumption) | assumption)) | (apply s_slice tab_ok; (iterate 8 (exact rfl)); (simp; omega))
      | (apply s_nilc; (iterate 5 (exact rfl))) | (apply s_build tabZ_ok; (iterate 5 (exact rfl))) | (apply s_alloc tabZ_ok; (iterate 7 (exact rfl))) | (apply s_store tab_ok; (iterate 10 (exact rfl))) | (apply s_eql_t; (iterate 5 (exact rfl)); omega)
      | (apply s_eql_f; (iterate 5 (exact rfl)); omega) | (apply s_neq_t; (iterate 5 (exact rfl)); omega) | (apply s_neq_f; (iterate 5 (exact rfl)); omega) | (apply s_lss_t; (iterate 5 (exact rfl)); omega) | (apply s_lss_f; (iterate 5 (exact rfl)); omega)
      | (apply s_ldF tab_ok; (iterate 5 (exact rfl)); exact hP; exact rfl)
      | (apply s_idxO _ tab_ok; (iterate 7 (exact rfl)); exact hH; exact ⟨by omega, rfl⟩)
      | (apply s_addV ((y.pos + line.length + 1 : Nat) : Int); (iterate 5 (exact rfl)); omega)
      | (apply s_stA i 1 tab_ok; (iterate 8 (exact rfl)); exact hH; exact hyr2 (y.pos + line.length); omega; omega; exact hset2 (y.pos + line.length) (y.pos + line.length + 1); intro σ hc; replace hH := hc.at'; replace hP := hc.keep (by first | assumption | (apply Ne.symm; assumption) | omega) hP; replace hF := hc.keep (by first | assumption | (apply Ne.symm; assumption) | omega) hF; replace hT := hc.keep (by first | assumption | (apply Ne.symm; assumption) | omega) hT; replace hX := hc.keep (by first | assumption | (apply Ne.symm; assumption) | omega) hX; replace hO := hO.chg hc (has_h q); clear hc)
      | refine al_nil ?_ | refine q_then_n ?_ | refine q_blk_n ?_ | refine q_blk_r ?_ | refine q_blk_e ?_
      | refine q_blk_o rfl ?_ | refine q_then_e ?_ | refine aw_block ?_ | refine aw_exit ?_ | refine q_then_r ?_
      | refine aw_seq ?_ | refine aw_reg ?_ | refine aw_true rfl ?_ | refine aw_false rfl ?_ | refine aw_skip ?_
      | refine aw_ret ?_ | refine al_fork ?_ ?_ | refine al_fork3 ?_ ?_ ?_
      | refine aw_draws (id := 8) (trO [0, 1, 2, 3, 4, 5, 6, 7, 8, 9] .nil) [] [] mixed_ok (by kernel_rfl) ?_)
            have hR2 : RefAt σ q (W1.setHandle i { y with pos := y.pos + line.length + 1 }) := ⟨⟨pf, ph, pt, fh, ft, hth⟩, F, t, vf, vh, vt, e, ht, hF0, by unfold refRow AW.setHandle; simp only [List.length_set]; exact hP, hF, hH, hT⟩
            repeat' (first
      | refine s_op rfl ?_ | (apply s_skip; exact rfl) | (apply s_move; (iterate 4 (exact rfl))) | (apply s_fa_p tab_ok; (iterate 5 (exact rfl))) | (apply s_fa_f tab_ok; (iterate 6 (exact rfl)))
      | (apply s_ld_p tab_ok; (iterate 7 (exact rfl))) | (apply s_ld_f tab_ok; (iterate 6 (exact rfl))) | (apply s_ld_w tab_ok; (iterate 5 (exact rfl)); (first | exact patD_len _ | exact valD_len _)) | (apply s_assign; (iterate 4 (exact rfl))) | (apply s_pick_t; (iterate 5 (exact rfl)))
      | (apply s_pick_f; (iterate 5 (exact rfl))) | (apply s_len tab_ok; (iterate 5 (exact rfl))) | (apply s_lens str_ok; (iterate 4 (exact rfl))) | (apply s_idx tab_ok; (iterate 7 (exact rfl)); (first | exact patR_get (by assumption) | exact valR_get (by assumption) | exact row_map (by assumption) | assumption)) | (apply s_slice tab_ok; (iterate 8 (exact rfl)); (simp; omega))
      | (apply s_nilc; (iterate 5 (exact rfl))) | (apply s_build tabZ_ok; (iterate 5 (exact rfl))) | (apply s_alloc tabZ_ok; (iterate 7 (exact rfl))) | (apply s_store tab_ok; (iterate 10 (exact rfl))) | (apply s_eql_t; (iterate 5 (exact rfl)); omega)
      | (apply s_eql_f; (iterate 5 (exact rfl)); omega) | (apply s_neq_t; (iterate 5 (exact rfl)); omega) | (apply s_neq_f; (iterate 5 (exact rfl)); omega) | (apply s_lss_t; (iterate 5 (exact rfl)); omega) | (apply s_lss_f; (iterate 5 (exact rfl)); omega)
      | (apply s_add64; (iterate 5 (exact rfl)); omega)
      | (apply s_callS; (iterate 6 (exact rfl)); exact fin (W1.setHandle i { y with pos := y.pos + line.length + 1 }) ⟨2, i, emptyB, bytesOf line, true⟩ e2 hR2 hO; rintro _ σ ⟨rfl, hR, hO⟩)
      | refine al_nil ?_ | refine q_then_n ?_ | refine q_blk_n ?_ | refine q_blk_r ?_ | refine q_blk_e ?_
      | refine q_blk_o rfl ?_ | refine q_then_e ?_ | refine aw_block ?_ | refine aw_exit ?_ | refine q_then_r ?_
      | refine aw_seq ?_ | refine aw_reg ?_ | refine aw_true rfl ?_ | refine aw_false rfl ?_ | refine aw_skip ?_
      | refine aw_ret ?_ | refine al_fork ?_ ?_ | refine al_fork3 ?_ ?_ ?_
      | refine aw_draws (id := 8) (trO [0, 1, 2, 3, 4, 5, 6, 7, 8, 9] .nil) [] [] mixed_ok (by kernel_rfl) ?_)
            exact q_ret rfl ⟨rfl, hR, hO⟩
  · have hd : W.read x = ((0, emptyB, W.wrong x), W) := by unfold AW.read; rw [if_pos hw]
    rw [hd]
    repeat' (first
      | refine s_op rfl ?_ | (apply s_skip; exact rfl) | (apply s_move; (iterate 4 (exact rfl))) | (apply s_fa_p tab_ok; (iterate 5 (exact rfl))) | (apply s_fa_f tab_ok; (iterate 6 (exact rfl)))
      | (apply s_ld_p tab_ok; (iterate 7 (exact rfl))) | (apply s_ld_f tab_ok; (iterate 6 (exact rfl))) | (apply s_ld_w tab_ok; (iterate 5 (exact rfl)); (first | exact patD_len _ | exact valD_len _)) | (apply s_assign; (iterate 4 (exact rfl))) | (apply s_pick_t; (iterate 5 (exact rfl)))
      | (apply s_pick_f; (iterate 5 (exact rfl))) | (apply s_len tab_ok; (iterate 5 (exact rfl))) | (apply s_lens str_ok; (iterate 4 (exact rfl))) | (apply s_idx tab_ok; (iterate 7 (exact rfl)); (first | exact patR_get (by assumption) | exact valR_get (by assumption) | exact row_map (by assumption) | assumption)) | (apply s_slice tab_ok; (iterate 8 (exact rfl)); (simp; omega))
      | (apply s_nilc; (iterate 5 (exact rfl))) | (apply s_build tabZ_ok; (iterate 5 (exact rfl))) | (apply s_alloc tabZ_ok; (iterate 7 (exact rfl))) | (apply s_store tab_ok; (iterate 10 (exact rfl))) | (apply s_eql_t; (iterate 5 (exact rfl)); omega)
      | (apply s_eql_f; (iterate 5 (exact rfl)); omega) | (apply s_neq_t; (iterate 5 (exact rfl)); omega) | (apply s_neq_f; (iterate 5 (exact rfl)); omega) | (apply s_lss_t; (iterate 5 (exact rfl)); omega) | (apply s_lss_f; (iterate 5 (exact rfl)); omega)
      | (apply s_add64; (iterate 5 (exact rfl)); omega)
      | (apply s_callS; (iterate 6 (exact rfl)); exact wrong_c hR _; rintro _ _ ⟨rfl, rfl⟩)
      | refine al_nil ?_ | refine q_then_n ?_ | refine q_blk_n ?_ | refine q_blk_r ?_ | refine q_blk_e ?_
      | refine q_blk_o rfl ?_ | refine q_then_e ?_ | refine aw_block ?_ | refine aw_exit ?_ | refine q_then_r ?_
      | refine aw_seq ?_ | refine aw_reg ?_ | refine aw_true rfl ?_ | refine aw_false rfl ?_ | refine aw_skip ?_
      | refine aw_ret ?_ | refine al_fork ?_ ?_ | refine al_fork3 ?_ ?_ ?_
      | refine aw_draws (id := 8) (trO [0, 1, 2, 3, 4, 5, 6, 7, 8, 9] .nil) [] [] mixed_ok (by kernel_rfl) ?_)
    exact q_ret rfl ⟨rfl, hR, hO⟩
end
end Go.Proofs.Ytlpgekodoiioaaa
