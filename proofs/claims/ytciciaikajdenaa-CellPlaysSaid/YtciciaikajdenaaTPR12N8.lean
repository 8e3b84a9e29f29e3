/- N8: package cell's cells: how many cells a value has, or that it may not be. -/
import Derived.Test.YtciciaikajdenaaTPR12N5x2
import Derived.Test.YtciciaikajdenaaTPR12N4
set_option linter.unusedSimpArgs false
set_option linter.unusedVariables false
namespace Go.Proofs.Ytciciaikajdenaa
open Go.RowKit

mutual
/-- Kinds of eight bits. -/
def Val.kok : Val → Prop
  | .mk k _ _ l => 0 ≤ k ∧ k ≤ 255 ∧ Val.kokL l
def Val.kokL : List Val → Prop
  | [] => True
  | p :: l => p.kok ∧ Val.kokL l
end
theorem Val.kokL_mem : ∀ {l : List Val}, Val.kokL l → ∀ p ∈ l, p.kok
  | [], _, p, h => by cases h
  | a :: l, ⟨h1, h2⟩, p, h => by
    rcases List.mem_cons.1 h with rfl | h
    · exact h1
    · exact Val.kokL_mem h2 p h
theorem Val.kokL_of : ∀ {l : List Val}, (∀ p ∈ l, p.kok) → Val.kokL l
  | [], _ => trivial
  | a :: l, h => ⟨h a (by simp), Val.kokL_of fun p hp => h p (by simp [hp])⟩
theorem Val.low_kok : ∀ p : Val, p.low → p.kok := by
  refine rec_val fun k n s l ih h => ?_
  exact ⟨h.1.1, h.1.2, Val.kokL_of fun p hp => ih p hp (Val.lowL_mem h.2.2.2 p hp)⟩

theorem head_leaf {k n : Int} {s : ByteArray} {len : Nat} (h : k < 11) : headV k n s len = (len == 0 && (decide (k ≠ 5) && (⟨k, n, s, 0⟩ : AWord).ok)) := by
  unfold headV AWord.ok emptyB
  have e1 : (k == 11) = false := beq_eq_false_iff_ne.2 (by omega)
  have e2 : (k == 12) = false := beq_eq_false_iff_ne.2 (by omega)
  have e3 : (k == 13) = false := beq_eq_false_iff_ne.2 (by omega)
  have es : s.toList.isEmpty = (s.data.size == 0) := by
    obtain ⟨d⟩ := s
    rcases d with ⟨l⟩
    have : (ByteArray.mk ⟨l⟩).toList = l := by simp [ByteArray.toList_eq]
    rw [this]
    cases l <;> rfl
  simp only [es, e1, e2, e3]
  by_cases a1 : k = 1
  · subst a1; simp [Bool.and_comm]
  by_cases a2 : k = 2
  · subst a2; simp [Bool.and_comm]
  by_cases a3 : k = 3
  · subst a3; simp; cases len == 0 <;> cases decide (0 ≤ n) <;> simp
  by_cases a4 : k = 4
  · subst a4; simp; cases len == 0 <;> cases decide (0 ≤ n) <;> simp
  by_cases a5 : k = 5
  · subst a5; simp
  by_cases a6 : k = 6
  · subst a6; simp; cases len == 0 <;> cases decide (0 ≤ n) <;> simp
  by_cases a7 : k = 7
  · subst a7; simp; cases len == 0 <;> cases n == 0 <;> simp
  simp [a1, a2, a3, a4, a5, a6, a7]
theorem head_con {k n : Int} {s : ByteArray} {len : Nat} (h : ¬ k < 11) : headV k n s len = (emptyB s && (decide (0 ≤ n) && ((⟨k - 10, n, []⟩ : ACell).ok && decide (len ≤ 64)))) := by
  unfold headV ACell.ok ACell.headOk
  rw [if_neg (by omega), if_neg (by omega), if_neg (by omega), if_neg (by omega)]
  have e1 : (k - 10 == 1) = (k == 11) := by rw [Bool.eq_iff_iff]; simp; omega
  have e2 : (k - 10 == 2) = (k == 12) := by rw [Bool.eq_iff_iff]; simp; omega
  have e3 : (k - 10 == 3) = (k == 13) := by rw [Bool.eq_iff_iff]; simp; omega
  simp only [e1, e2, e3]
  cases emptyB s <;> cases decide (len ≤ 64) <;> cases (k == 11) <;> cases (k == 12) <;> cases (k == 13) <;> cases decide (0 ≤ n) <;> cases (n == 0) <;> simp
/-- What cells answers. -/
def CntP (v : Val) (σ : List AObj) : AV → List AObj → Prop := fun r σ' => mayV v = true ∧ r = .d (.v (.int .i64 (cellsV v))) ∧ KeptP (fun _ => True) σ σ'
def CntE (v : Val) (σ : List AObj) : Value → List AObj → Prop := fun pv σ' => mayV v = false ∧ pv = badV 2 ∧ KeptP (fun _ => True) σ σ'
section
variable {k n : Int} {s : ByteArray} {l : List Val} {σ : List AObj}
set_option maxRecDepth 100000 in
set_option maxHeartbeats 8000000 in
theorem cells_leaf (hk : k < 11) (hm : massV (.mk k n s l) ≤ 1000000000) : RunsX Try.prog 117 [.d (.agg (valD (.mk k n s l)))] σ (CntP (.mk k n s l) σ) (CntE (.mk k n s l) σ) := by
  have e1 := valR_len l
  have hll := massVL_len l
  simp only [massV] at hm
  have hh := head_leaf (n := n) (s := s) (len := l.length) hk
  have hmay := may119_c ⟨k, n, s, 0⟩
  have hK := KeptP.refl (fun _ => True) σ
  have hcnt : l.length = 0 → cellsV (.mk k n s l) = 0 := fun h => by
    rw [List.length_eq_zero_iff.1 h]
    simp only [cellsV, cellsL]
    rw [if_neg (by omega)]
  have bad : headV k n s l.length = false → mayV (.mk k n s l) = false := fun h => by simp only [mayV]; rw [h]; rfl
  have good : l.length = 0 → headV k n s l.length = true → mayV (.mk k n s l) = true := fun h0 h => by
    simp only [mayV]; rw [h, List.length_eq_zero_iff.1 h0]; rfl
  refine enterX 68 tab_ok Try.func117 rfl (by kernel_rfl) rfl rfl rfl ?_
  by_cases h0 : l.length = 0
  · by_cases h5 : k = 5
    · have hbad := bad (by rw [hh, decide_eq_false (by simp [h5])]; simp)
      clear bad good hcnt hh hmay
      repeat' (first | refine s_op rfl ?_ | (apply s_skipV; (iterate 2 (exact rfl))) | (apply s_move; (iterate 4 (exact rfl))) | (apply s_fa_f tab_ok; (iterate 6 (exact rfl))) | (apply s_ld_f tab_ok; (iterate 6 (exact rfl))) | (apply s_assign; (iterate 4 (exact rfl))) | (apply s_pick_t; (iterate 5 (exact rfl))) | (apply s_pick_f; (iterate 5 (exact rfl))) | (apply s_len tab_ok; (iterate 5 (exact rfl))) | (apply s_boxZ; (iterate 5 (exact rfl)); first | exact rfl | exact allD_mapd _) | (apply s_eql_t; (iterate 5 (exact rfl)); omega) | (apply s_lss_t; (iterate 5 (exact rfl)); omega) | (apply s_gtr_f; (iterate 5 (exact rfl)); omega) | (apply s_callE; (iterate 4 (exact rfl)); exact must_bad 2 (by decide); rintro _ σ ⟨rfl, rfl⟩; (repeat (first | refine q_then_p ?_ | refine q_blk_p ?_)); exact q_panX ⟨hbad, rfl, hK⟩) | refine al_nil ?_ | refine q_then_n ?_ | refine aw_seq ?_ | refine aw_reg ?_ | refine aw_true rfl ?_)
    · cases hw : (⟨k, n, s, 0⟩ : AWord).ok with
      | false =>
        rw [hw] at hmay
        have hbad := bad (by rw [hh, hw]; simp)
        clear bad good hcnt hh
        repeat' (first | refine s_op rfl ?_ | (apply s_move; (iterate 4 (exact rfl))) | (apply s_fa_f tab_ok; (iterate 6 (exact rfl))) | (apply s_ld_f tab_ok; (iterate 6 (exact rfl))) | (apply s_assign; (iterate 4 (exact rfl))) | (apply s_pick_f; (iterate 5 (exact rfl))) | (apply s_len tab_ok; (iterate 5 (exact rfl))) | (apply s_build tabZ_ok; (iterate 5 (exact rfl))) | (apply s_boxZ; (iterate 5 (exact rfl)); first | exact rfl | exact allD_mapd _) | (apply s_not_f; (iterate 4 (exact rfl))) | (apply s_eql_f; (iterate 5 (exact rfl)); omega) | (apply s_lss_t; (iterate 5 (exact rfl)); omega) | (apply s_gtr_f; (iterate 5 (exact rfl)); omega) | (apply s_callE; (iterate 4 (exact rfl)); exact must_bad 2 (by decide); rintro _ σ ⟨rfl, rfl⟩; (repeat (first | refine q_then_p ?_ | refine q_blk_p ?_)); exact q_panX ⟨hbad, rfl, hK⟩) | (apply s_call; (iterate 6 (exact rfl)); first | (exact hmay; rintro _ rfl)) | refine al_nil ?_ | refine q_then_n ?_ | refine aw_seq ?_ | refine aw_reg ?_ | refine aw_true rfl ?_)
      | true =>
        rw [hw] at hmay
        have hg := good h0 (by rw [hh, hw, h0, decide_eq_true h5]; rfl)
        have hc := hcnt h0
        clear bad good hcnt hh
        repeat' (first | refine s_op rfl ?_ | (apply s_move; (iterate 4 (exact rfl))) | (apply s_fa_f tab_ok; (iterate 6 (exact rfl))) | (apply s_ld_f tab_ok; (iterate 6 (exact rfl))) | (apply s_assign; (iterate 4 (exact rfl))) | (apply s_pick_f; (iterate 5 (exact rfl))) | (apply s_len tab_ok; (iterate 5 (exact rfl))) | (apply s_build tabZ_ok; (iterate 5 (exact rfl))) | (apply s_boxZ; (iterate 5 (exact rfl)); first | exact rfl | exact allD_mapd _) | (apply s_not_t; (iterate 4 (exact rfl))) | (apply s_eql_f; (iterate 5 (exact rfl)); omega) | (apply s_lss_t; (iterate 5 (exact rfl)); omega) | (apply s_gtr_f; (iterate 5 (exact rfl)); omega) | (apply s_call; (iterate 6 (exact rfl)); first | (exact hmay; rintro _ rfl)) | refine al_nil ?_ | refine q_then_n ?_ | refine q_then_r ?_ | refine aw_seq ?_ | refine aw_reg ?_ | refine aw_true rfl ?_ | refine aw_false rfl ?_ | refine aw_skip ?_ | refine aw_ret ?_)
        all_goals exact q_retX (resB_1 rfl (resV_t rfl)) ⟨hg, by rw [hc]; rfl, hK⟩
  · have hbad := bad (by rw [hh, beq_eq_false_iff_ne.2 h0]; rfl)
    clear bad good hcnt hh hmay
    repeat' (first | refine s_op rfl ?_ | (apply s_skipV; (iterate 2 (exact rfl))) | (apply s_move; (iterate 4 (exact rfl))) | (apply s_fa_f tab_ok; (iterate 6 (exact rfl))) | (apply s_ld_f tab_ok; (iterate 6 (exact rfl))) | (apply s_assign; (iterate 4 (exact rfl))) | (apply s_pick_t; (iterate 5 (exact rfl))) | (apply s_len tab_ok; (iterate 5 (exact rfl))) | (apply s_boxZ; (iterate 5 (exact rfl)); first | exact rfl | exact allD_mapd _) | (apply s_lss_t; (iterate 5 (exact rfl)); omega) | (apply s_gtr_t; (iterate 5 (exact rfl)); omega) | (apply s_callE; (iterate 4 (exact rfl)); exact must_bad 2 (by decide); rintro _ σ ⟨rfl, rfl⟩; (repeat (first | refine q_then_p ?_ | refine q_blk_p ?_)); exact q_panX ⟨hbad, rfl, hK⟩) | refine al_nil ?_ | refine q_then_n ?_ | refine aw_seq ?_ | refine aw_reg ?_ | refine aw_true rfl ?_)
noncomputable def cnt7 : Option Code := match Try.f117.body with
  | some c => findW 7 c
  | none => none
theorem cellsL_le : ∀ l : List Val, cellsL l ≤ massVL l
  | [] => by simp [cellsL, massVL]
  | a :: m => by have := cells_mass a; have := cellsL_le m; simp only [cellsL, massVL]; omega
theorem mayL_false {l : List Val} {j : Nat} {p : Val} (h : l[j]? = some p) (hf : mayV p = false) : mayL l = false := by
  rw [mayL_all, ← Bool.not_eq_true, List.all_eq_true]
  intro h2
  have := h2 p (List.mem_of_getElem? h)
  rw [hf] at this; cases this
set_option maxRecDepth 100000 in
set_option maxHeartbeats 8000000 in
theorem cells_kids (hk : ¬ k < 11) (hm : massV (.mk k n s l) ≤ 1000000000) (hhead : headV k n s l.length = true) (hcall : ∀ p ∈ l, ∀ σ, RunsX Try.prog 117 [.d (.agg (valD p))] σ (CntP p σ) (CntE p σ)) {σ0 : List AObj} (hK : KeptP (fun _ => True) σ0 σ) {X : Code} (hX : cnt7 = some X) :
    AWk Try.prog 68 X (retX tab Try.f117 (CntP (.mk k n s l) σ0) (CntE (.mk k n s l) σ0)) [(1, .d (.fptr (valD (.mk k n s l))))] σ := by
  have e1 := valR_len l
  have hll := massVL_len l
  have hcl := cellsL_le l
  simp only [massV] at hm
  cases hX
  repeat' (first | refine s_op rfl ?_ | (apply s_move; (iterate 4 (exact rfl))) | (apply s_fa_f tab_ok; (iterate 6 (exact rfl))) | (apply s_ld_f tab_ok; (iterate 6 (exact rfl))) | (apply s_assign; (iterate 4 (exact rfl))) | (apply s_len tab_ok; (iterate 5 (exact rfl))) | refine al_nil ?_ | refine q_then_n ?_ | refine aw_block ?_ | refine aw_seq ?_ | refine aw_reg ?_)
  refine w_loop [3, 56, 57, 58] (fun n' vs' σ => ∃ j : Nat, vs' = [.d (.v (.int .i64 ((1 + cellsL (l.take j) : Nat) : Int))), .d (.lst 4 (valR l)), .d (.v (.int .i64 ((valR l).length : Int))), .d (.v (.int .i64 (j : Int)))] ∧ mayL (l.take j) = true ∧ KeptP (fun _ => True) σ0 σ ∧ j ≤ l.length ∧ n' = l.length - j) rfl ⟨0, rfl, rfl, hK, by omega, rfl⟩ ?_
  clear hK
  rintro n' vs' σ ⟨j, rfl, hmj, hK, hj, rfl⟩ fr hfr
  cases hfr
  by_cases hlt : j < l.length
  · obtain ⟨p, hp⟩ := getS hlt
    have hc := hcall p (List.mem_of_getElem? hp)
    have ht := cellsL_take hp
    have htm := mayL_take hp
    have hbig : cellsL (l.take (j + 1)) ≤ cellsL l := by
      have : cellsL (l.take (j + 1)) + cellsL (l.drop (j + 1)) = cellsL l := by rw [← cellsL_append, List.take_append_drop]
      omega
    have hbad : mayV p = false → mayV (.mk k n s l) = false := fun h => by simp only [mayV]; rw [mayL_false hp h, Bool.and_false]
    obtain ⟨pk, pn, ps, pl⟩ := p
    clear hcall
    repeat' (first | refine s_op rfl ?_ | (apply s_move; (iterate 4 (exact rfl))) | (apply s_ld_f tab_ok; (iterate 6 (exact rfl))) | (apply s_assign; (iterate 4 (exact rfl))) | (apply s_idx tab_ok; (iterate 7 (exact rfl)); (first | exact valR_get (by assumption) | exact wordsR_get (by assumption) | assumption)) | (apply s_lss_t; (iterate 5 (exact rfl)); omega) | (apply s_allocF tabZ_ok (d := 5); (iterate 6 (exact rfl)); intro locZ σ hc; have hZ := hc.at'; have oZ := hK.out hc; replace hK := hK.fresh hc; clear hc) | (apply s_storeF tab_ok; (iterate 7 (exact rfl)); exact hZ; (iterate 2 (exact rfl)); intro σ hc; replace hZ := hc.at'; replace hK := hK.chg oZ hc; clear hc) | (apply s_ldF tab_ok; (iterate 5 (exact rfl)); exact hZ; exact rfl) | (apply s_callX; (iterate 6 (exact rfl)); exact hc _; rotate_left; rintro _ σ ⟨hb, rfl, hk2⟩; (repeat (first | refine q_then_p ?_ | refine q_blk_p ?_)); exact q_panX ⟨hbad hb, rfl, hK.trans hk2⟩; rintro _ σ ⟨hg, rfl, hk2⟩; replace hK := hK.trans hk2; clear hk2 hZ) | (apply s_addV ((1 + cellsL (l.take (j + 1)) : Nat) : Int); (iterate 5 (exact rfl)); omega) | (apply s_addV ((j + 1 : Nat) : Int); (iterate 5 (exact rfl)); omega) | refine al_nil ?_ | refine q_then_n ?_ | refine q_blk_n ?_ | refine aw_block ?_ | refine aw_seq ?_ | refine aw_reg ?_ | refine aw_true rfl ?_ | refine aw_skip ?_)
    all_goals exact ⟨_, _, rfl, by omega, j + 1, rfl, by rw [htm, hmj, hg]; rfl, hK, by omega, rfl⟩
  · rw [List.take_of_length_le (by omega)] at hmj ⊢
    have hg : mayV (.mk k n s l) = true := by simp only [mayV]; rw [hhead, hmj]; rfl
    have hcv : cellsV (.mk k n s l) = 1 + cellsL l := by simp only [cellsV]; rw [if_pos (by omega)]
    repeat' (first | refine s_op rfl ?_ | (apply s_move; (iterate 4 (exact rfl))) | (apply s_assign; (iterate 4 (exact rfl))) | (apply s_lss_f; (iterate 5 (exact rfl)); omega) | refine al_nil ?_ | refine q_then_n ?_ | refine q_blk_e ?_ | refine q_then_e ?_ | refine aw_exit ?_ | refine aw_seq ?_ | refine aw_reg ?_ | refine aw_false rfl ?_ | refine aw_ret ?_)
    all_goals exact q_retX (resB_1 rfl (resV_t rfl)) ⟨hg, by rw [hcv]; rfl, hK⟩
set_option maxRecDepth 100000 in
set_option maxHeartbeats 8000000 in
theorem cells_con (hk : ¬ k < 11) (hk2 : k ≤ 255) (hm : massV (.mk k n s l) ≤ 1000000000) (hcall : ∀ p ∈ l, ∀ σ, RunsX Try.prog 117 [.d (.agg (valD p))] σ (CntP p σ) (CntE p σ)) : RunsX Try.prog 117 [.d (.agg (valD (.mk k n s l)))] σ (CntP (.mk k n s l) σ) (CntE (.mk k n s l) σ) := by
  have e1 := valR_len l
  have hll := massVL_len l
  have hm0 := hm
  simp only [massV] at hm
  have hh := head_con (n := n) (s := s) (len := l.length) hk
  have hmay : RunsP Try.prog 18 [.agg [.v (.int .u8 (k - 10)), .v (.int .i64 n), .nil]] (fun v => v = .v (.bool (⟨k - 10, n, []⟩ : ACell).ok)) := (may_r ⟨k - 10, n, []⟩ (by simp [maxLen])).wkA (.cons (Wk.agg ⟨Wk.refl _, Wk.refl _, Wk.nil 4, trivial⟩) .nil)
  have hK := KeptP.refl (fun _ => True) σ
  have hsub : IntKind.wrap .u8 (k - 10) = k - 10 := wrapU8 (by omega) (by omega)
  have bad : headV k n s l.length = false → mayV (.mk k n s l) = false := fun h => by simp only [mayV]; rw [h]; rfl
  refine enterX 68 tab_ok Try.func117 rfl (by kernel_rfl) rfl rfl rfl ?_
  by_cases hs : s = ⟨#[]⟩
  · by_cases hn : 0 ≤ n
    · cases hc : (⟨k - 10, n, []⟩ : ACell).ok with
      | false =>
        rw [hc] at hmay
        have hbad := bad (by rw [hh, hc]; simp)
        clear bad hh
        repeat' (first | refine s_op rfl ?_ | (apply s_skipV; (iterate 2 (exact rfl))) | (apply s_move; (iterate 4 (exact rfl))) | (apply s_fa_f tab_ok; (iterate 6 (exact rfl))) | (apply s_ld_f tab_ok; (iterate 6 (exact rfl))) | (apply s_assign; (iterate 4 (exact rfl))) | (apply s_pick_t; (iterate 5 (exact rfl))) | (apply s_pick_f; (iterate 5 (exact rfl))) | (apply s_build tabZ_ok; (iterate 5 (exact rfl))) | (apply s_boxZ; (iterate 5 (exact rfl)); first | exact rfl | exact allD_mapd _) | (apply s_not_f; (iterate 4 (exact rfl))) | (apply s_lss_f; (iterate 5 (exact rfl)); omega) | (apply s_strne_f; (iterate 5 (exact rfl)); assumption) | (apply s_subK (k - 10); (iterate 5 (exact rfl)); exact hsub) | (apply s_callE; (iterate 4 (exact rfl)); exact must_bad 2 (by decide); rintro _ σ ⟨rfl, rfl⟩; (repeat (first | refine q_then_p ?_ | refine q_blk_p ?_)); exact q_panX ⟨hbad, rfl, hK⟩) | (apply s_call; (iterate 6 (exact rfl)); first | (exact hmay; rintro _ rfl)) | refine al_nil ?_ | refine q_then_n ?_ | refine aw_seq ?_ | refine aw_reg ?_ | refine aw_true rfl ?_ | refine aw_false rfl ?_ | refine aw_skip ?_)
      | true =>
        rw [hc] at hmay
        by_cases h64 : l.length ≤ 64
        · have hhead : headV k n s l.length = true := by rw [hh, hc, empty_iff.2 hs, decide_eq_true hn, decide_eq_true h64]; rfl
          clear bad hh
          repeat' (first | refine s_op rfl ?_ | (apply s_move; (iterate 4 (exact rfl))) | (apply s_fa_f tab_ok; (iterate 6 (exact rfl))) | (apply s_ld_f tab_ok; (iterate 6 (exact rfl))) | (apply s_assign; (iterate 4 (exact rfl))) | (apply s_pick_f; (iterate 5 (exact rfl))) | (apply s_len tab_ok; (iterate 5 (exact rfl))) | (apply s_build tabZ_ok; (iterate 5 (exact rfl))) | (apply s_boxZ; (iterate 5 (exact rfl)); first | exact rfl | exact allD_mapd _) | (apply s_not_t; (iterate 4 (exact rfl))) | (apply s_lss_f; (iterate 5 (exact rfl)); omega) | (apply s_gtr_f; (iterate 5 (exact rfl)); omega) | (apply s_strne_f; (iterate 5 (exact rfl)); assumption) | (apply s_subK (k - 10); (iterate 5 (exact rfl)); exact hsub) | (refine w_keep [1] rfl rfl ?_; exact cells_kids hk hm0 hhead hcall hK rfl) | (apply s_call; (iterate 6 (exact rfl)); first | (exact hmay; rintro _ rfl)) | refine al_nil ?_ | refine q_then_n ?_ | refine aw_seq ?_ | refine aw_reg ?_ | refine aw_false rfl ?_ | refine aw_skip ?_)
        · have hbad := bad (by rw [hh, decide_eq_false h64]; simp)
          clear bad hh
          repeat' (first | refine s_op rfl ?_ | (apply s_move; (iterate 4 (exact rfl))) | (apply s_fa_f tab_ok; (iterate 6 (exact rfl))) | (apply s_ld_f tab_ok; (iterate 6 (exact rfl))) | (apply s_assign; (iterate 4 (exact rfl))) | (apply s_pick_f; (iterate 5 (exact rfl))) | (apply s_len tab_ok; (iterate 5 (exact rfl))) | (apply s_build tabZ_ok; (iterate 5 (exact rfl))) | (apply s_boxZ; (iterate 5 (exact rfl)); first | exact rfl | exact allD_mapd _) | (apply s_not_t; (iterate 4 (exact rfl))) | (apply s_lss_f; (iterate 5 (exact rfl)); omega) | (apply s_gtr_t; (iterate 5 (exact rfl)); omega) | (apply s_strne_f; (iterate 5 (exact rfl)); assumption) | (apply s_subK (k - 10); (iterate 5 (exact rfl)); exact hsub) | (apply s_callE; (iterate 4 (exact rfl)); exact must_bad 2 (by decide); rintro _ σ ⟨rfl, rfl⟩; (repeat (first | refine q_then_p ?_ | refine q_blk_p ?_)); exact q_panX ⟨hbad, rfl, hK⟩) | (apply s_call; (iterate 6 (exact rfl)); first | (exact hmay; rintro _ rfl)) | refine al_nil ?_ | refine q_then_n ?_ | refine aw_seq ?_ | refine aw_reg ?_ | refine aw_true rfl ?_ | refine aw_false rfl ?_ | refine aw_skip ?_)
    · have hbad := bad (by rw [hh, decide_eq_false hn]; simp)
      clear bad hh hmay
      repeat' (first | refine s_op rfl ?_ | (apply s_skipV; (iterate 2 (exact rfl))) | (apply s_move; (iterate 4 (exact rfl))) | (apply s_fa_f tab_ok; (iterate 6 (exact rfl))) | (apply s_ld_f tab_ok; (iterate 6 (exact rfl))) | (apply s_assign; (iterate 4 (exact rfl))) | (apply s_pick_t; (iterate 5 (exact rfl))) | (apply s_pick_f; (iterate 5 (exact rfl))) | (apply s_boxZ; (iterate 5 (exact rfl)); first | exact rfl | exact allD_mapd _) | (apply s_lss_t; (iterate 5 (exact rfl)); omega) | (apply s_lss_f; (iterate 5 (exact rfl)); omega) | (apply s_strne_f; (iterate 5 (exact rfl)); assumption) | (apply s_callE; (iterate 4 (exact rfl)); exact must_bad 2 (by decide); rintro _ σ ⟨rfl, rfl⟩; (repeat (first | refine q_then_p ?_ | refine q_blk_p ?_)); exact q_panX ⟨hbad, rfl, hK⟩) | refine al_nil ?_ | refine q_then_n ?_ | refine aw_seq ?_ | refine aw_reg ?_ | refine aw_true rfl ?_ | refine aw_false rfl ?_ | refine aw_skip ?_)
  · have hbad := bad (by rw [hh, show emptyB s = false from by rw [← Bool.not_eq_true, empty_iff]; exact hs]; rfl)
    clear bad hh hmay
    repeat' (first | refine s_op rfl ?_ | (apply s_skipV; (iterate 2 (exact rfl))) | (apply s_move; (iterate 4 (exact rfl))) | (apply s_fa_f tab_ok; (iterate 6 (exact rfl))) | (apply s_ld_f tab_ok; (iterate 6 (exact rfl))) | (apply s_assign; (iterate 4 (exact rfl))) | (apply s_pick_t; (iterate 5 (exact rfl))) | (apply s_boxZ; (iterate 5 (exact rfl)); first | exact rfl | exact allD_mapd _) | (apply s_lss_f; (iterate 5 (exact rfl)); omega) | (apply s_strne_t; (iterate 5 (exact rfl)); assumption) | (apply s_callE; (iterate 4 (exact rfl)); exact must_bad 2 (by decide); rintro _ σ ⟨rfl, rfl⟩; (repeat (first | refine q_then_p ?_ | refine q_blk_p ?_)); exact q_panX ⟨hbad, rfl, hK⟩) | refine al_nil ?_ | refine q_then_n ?_ | refine aw_seq ?_ | refine aw_reg ?_ | refine aw_true rfl ?_ | refine aw_false rfl ?_ | refine aw_skip ?_)
end
theorem cells_x : ∀ v : Val, v.kok → massV v ≤ 1000000000 → ∀ σ, RunsX Try.prog 117 [.d (.agg (valD v))] σ (CntP v σ) (CntE v σ) := by
  refine rec_val fun k n s l ih hv hm σ => ?_
  by_cases hk : k < 11
  · exact cells_leaf hk hm
  · refine cells_con hk hv.2.1 hm fun p hp σ => ih p hp (Val.kokL_mem hv.2.2 p hp) ?_ σ
    have := massVL_mem hp
    simp only [massV] at hm
    omega
end Go.Proofs.Ytciciaikajdenaa
