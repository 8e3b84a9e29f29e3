/- WorldFails, as a plain law. No program in sight. -/
import Derived.Test.YtlpgekodoiioaaaWLaw
set_option linter.unusedSimpArgs false
set_option linter.unusedVariables false
namespace Go.Proofs.Ytlpgekodoiioaaa

theorem goes_bit (W : AW) : W.goes = (!W.fails.getD 0 false, { W with fails := W.fails.tail }) := by
  unfold AW.goes
  obtain ⟨files, fails, hs, tr⟩ := W
  cases fails <;> rfl

/-- Either no fail is taken and nothing is traced, or one, and one thing is. -/
theorem do_cases (x : ADo) (files : List AFile) (hs : List AHandle) (tr : List AOp) :
    (∀ fl, doW ⟨files, fl, hs, tr⟩ x = { doW ⟨files, [], hs, tr⟩ x with fails := fl } ∧ (doW ⟨files, [], hs, tr⟩ x).trace = tr) ∨
    (∀ fl, doW ⟨files, fl, hs, tr⟩ x = { doW ⟨files, [fl.getD 0 false], hs, tr⟩ x with fails := fl.tail } ∧ (doW ⟨files, [fl.getD 0 false], hs, tr⟩ x).trace.length = tr.length + 1) := by
  have hwr : ∀ fl y, (⟨files, fl, hs, tr⟩ : AW).wrong y = (⟨files, [], hs, tr⟩ : AW).wrong y := fun fl y => rfl
  by_cases k0 : x.kind = 0
  · right
    intro fl
    have e : ∀ W, doW W x = (W.open_ x.s).2 := fun W => by simp [doW, k0]
    simp only [e]
    unfold AW.open_
    simp only [goes_bit, List.getD_cons_zero]
    cases fl.getD 0 false <;> cases nameIdx x.s files <;> simp [AW.note]
  · by_cases k1 : x.kind = 1
    · by_cases hw : (⟨files, [], hs, tr⟩ : AW).wrong x.h = 0
      · right
        intro fl
        have e : ∀ W, doW W x = (W.read x.h).2 := fun W => by simp [doW, k1]
        simp only [e]
        unfold AW.read
        rw [hwr fl, hwr [fl.getD 0 false], hw]
        simp only [goes_bit, List.getD_cons_zero, ne_eq, not_true_eq_false, if_false]
        cases fl.getD 0 false
        · simp only [Bool.not_false, Bool.true_eq_false, if_false]
          simp only [AW.handle, AW.file]
          by_cases hR : (files.getD (hs.getD x.h.toNat ⟨0, 0, true⟩).file ⟨emptyB, emptyB⟩).text.toList.drop (hs.getD x.h.toNat ⟨0, 0, true⟩).pos = []
          · simp only [hR, if_true]
            exact ⟨rfl, by simp [AW.note]⟩
          · simp only [hR, if_false]
            exact ⟨rfl, by simp [AW.note, AW.setHandle]⟩
        · simp [AW.note]
      · left
        intro fl
        have e : ∀ W, doW W x = (W.read x.h).2 := fun W => by simp [doW, k1]
        simp only [e]
        unfold AW.read
        rw [hwr fl]
        simp [hw]
    · by_cases k2 : x.kind = 2
      · by_cases hw : (⟨files, [], hs, tr⟩ : AW).wrong x.h = 0
        · right
          intro fl
          have e : ∀ W, doW W x = (W.write x.h x.s).2 := fun W => by simp [doW, k2]
          simp only [e]
          unfold AW.write
          rw [hwr fl, hwr [fl.getD 0 false], hw]
          simp only [goes_bit, List.getD_cons_zero, ne_eq, not_true_eq_false, if_false]
          cases fl.getD 0 false
          · simp only [Bool.not_false, Bool.true_and]
            simp only [AW.handle, AW.file]
            by_cases hR : x.s.size + (files.getD (hs.getD x.h.toNat ⟨0, 0, true⟩).file ⟨emptyB, emptyB⟩).text.size ≤ 4000
            · simp only [hR, decide_true, if_true]
              exact ⟨rfl, by simp [AW.note]⟩
            · simp only [hR, decide_false, Bool.false_eq_true, if_false]
              exact ⟨rfl, by simp [AW.note]⟩
          · simp [AW.note]
        · left
          intro fl
          have e : ∀ W, doW W x = (W.write x.h x.s).2 := fun W => by simp [doW, k2]
          simp only [e]
          unfold AW.write
          rw [hwr fl]
          simp [hw]
      · by_cases k3 : x.kind = 3
        · by_cases hw : (⟨files, [], hs, tr⟩ : AW).wrong x.h = 0
          · right
            intro fl
            have e : ∀ W, doW W x = (W.close x.h).2 := fun W => by simp [doW, k3]
            simp only [e]
            unfold AW.close
            rw [hwr fl, hwr [fl.getD 0 false], hw]
            simp [goes_bit, AW.note, AW.setHandle, AW.handle]
          · left
            intro fl
            have e : ∀ W, doW W x = (W.close x.h).2 := fun W => by simp [doW, k3]
            simp only [e]
            unfold AW.close
            rw [hwr fl]
            simp [hw]
        · left
          intro fl
          by_cases k4 : x.kind = 4
          · have e : ∀ W, doW W x = (W.drop x.h).2 := fun W => by simp [doW, k4]
            simp only [e]
            unfold AW.drop
            rw [hwr fl]
            split <;> exact ⟨rfl, rfl⟩
          · simp only [doW, k0, k1, k2, k3, k4, if_false]
            simp

/-- Two lists of fails say the same of the next k. -/
def Agr (k : Nat) (a b : List Bool) : Prop := ∀ i, i < k → a.getD i false = b.getD i false

theorem run_trace_mono : ∀ (l : List ADo) (W : AW), W.trace.length ≤ (runW W l).trace.length
  | [], W => Nat.le_refl _
  | x :: l, W => by
    refine Nat.le_trans ?_ (run_trace_mono l (doW W x))
    obtain ⟨files, fl, hs, tr⟩ := W
    rcases do_cases x files hs tr with h | h <;> obtain ⟨h1, h2⟩ := h fl <;> rw [h1] <;> simp only
    · rw [h2]; exact Nat.le_refl _
    · rw [h2]; omega

theorem runs_agree : ∀ (l : List ADo) (files : List AFile) (hs : List AHandle) (tr : List AOp) (a b : List Bool) (k : Nat), Agr k a b → (runW ⟨files, a, hs, tr⟩ l).trace.length ≤ tr.length + k →
    (runW ⟨files, a, hs, tr⟩ l).files = (runW ⟨files, b, hs, tr⟩ l).files ∧ (runW ⟨files, a, hs, tr⟩ l).trace = (runW ⟨files, b, hs, tr⟩ l).trace
  | [], _, _, _, _, _, _, _, _ => ⟨rfl, rfl⟩
  | x :: l, files, hs, tr, a, b, k, ha, hk => by
    have e : ∀ fl, runW ⟨files, fl, hs, tr⟩ (x :: l) = runW (doW ⟨files, fl, hs, tr⟩ x) l := fun fl => rfl
    rw [e a, e b]
    rw [e a] at hk
    rcases do_cases x files hs tr with h | h
    · obtain ⟨h1, h2⟩ := h a
      rw [h1, (h b).1]
      rw [h1] at hk
      dsimp only at hk
      rw [h2] at hk
      dsimp only
      rw [h2]
      exact runs_agree l _ _ _ a b k ha hk
    · have hk1 : 0 < k := by
        have hm := run_trace_mono l (doW ⟨files, a, hs, tr⟩ x)
        obtain ⟨h1, h2⟩ := h a
        rw [h1] at hm hk
        dsimp only at hm hk
        rw [h2] at hm
        omega
      obtain ⟨h1, h2⟩ := h a
      have h3 := (h b).1
      rw [← ha 0 hk1] at h3
      rw [h1, h3]
      rw [h1] at hk
      dsimp only at hk ⊢
      refine runs_agree l _ _ _ a.tail b.tail (k - 1) (fun i hi => ?_) (by rw [h2]; omega)
      have := ha (i + 1) (by omega)
      simpa [List.getD_eq_getElem?_getD, List.getElem?_tail] using this

/-- The law. -/
theorem fails_law (files : List AFile) (fails more : List Bool) (script : List ADo) (t n : Nat) (ht : (runW ⟨files, fails, [], []⟩ script).trace.length = t) (hn : n = min t fails.length) :
    (runW ⟨files, fails.take n ++ List.replicate (t - n) false ++ more, [], []⟩ script).files = (runW ⟨files, fails, [], []⟩ script).files ∧
    (runW ⟨files, fails.take n ++ List.replicate (t - n) false ++ more, [], []⟩ script).trace = (runW ⟨files, fails, [], []⟩ script).trace := by
  have := runs_agree script files [] [] fails (fails.take n ++ List.replicate (t - n) false ++ more) t (fun i hi => by
    simp only [List.getD_eq_getElem?_getD]
    by_cases h : i < n
    · rw [List.append_assoc, List.getElem?_append_left (by simp; omega), List.getElem?_take, if_pos h]
    · have hl : (fails.take n).length = n := by simp; omega
      have hfl : fails.length ≤ i := by omega
      rw [List.append_assoc, List.getElem?_append_right (by omega), hl, List.getElem?_append_left (by simp; omega), List.getElem?_replicate, if_pos (by omega), List.getElem?_eq_none hfl]
      rfl) (by rw [ht]; simp)
  exact ⟨this.1.symm, this.2.symm⟩
end Go.Proofs.Ytlpgekodoiioaaa
