/- N27: the chapter's rows hold (joined). -/
import Derived.Test.YtciciaikajdenaaQN26
set_option linter.unusedSimpArgs false
set_option linter.unusedVariables false
namespace Go.Proofs.Ytciciaikajdenaa
open Go.RowKit

theorem kok0 : v0.kok := by simp [v0, Val.kok, Val.kokL]
theorem kokArr : vArr.kok := by simp [vArr, Val.kok, Val.kokL]
theorem kokBad : vBad.kok := by simp [vBad, Val.kok, Val.kokL]
theorem low0 : v0.low := by
  have e : (ByteArray.mk #[]).size = 0 := rfl
  simp [v0, Val.low, Val.lowL, e]
theorem known_c {σ : List AObj} : Runs Try.prog 42 [] σ (fun r σ' => r = .d (.v (.bool true)) ∧ KeptP (fun _ => True) σ σ') := by
  refine known_w (K0 := .new 9) (K1 := H1) (K2 := H2) (K3 := H3) (K4 := H4) (fun σ => new_r (by decide) (by decide)) ?_ ?_ ?_ ?_ ?_ ?_ ?_ ?_ ?_ ?_ (same_c51 v0 low0)
  · intro σ loc hH
    have h := build_c45 (σ := σ) (AHeap.new_ok 9 (by decide) (by decide) 0) (by decide) hH (v := v0) kok0 (by decide)
    rw [f1] at h
    exact h
  · intro σ loc hH
    have h := size_c53 (σ := σ) (f := 8) (w := cellWord 1 0) ok1 live1.cells hH (walks_fine H1 (by decide) _ _)
    rw [f2] at h
    exact h
  · intro σ loc hH
    have h := value_c (σ := σ) (f := 8) (w := cellWord 1 0) ok1 live1.cells hH (walk_fine H1 (by decide) _ _)
    rw [f3] at h
    exact h
  · intro σ loc hH
    have hv := (hold0 (H := H1) (i := 1) (j := 0) rfl rfl).value ok1 (by decide) mass0
    simp only [Int.natCast_one] at hv
    have h := copy_c46 (σ := σ) (f := 8) (w := cellWord 1 0) ok1 (by decide) live1.cells hH (walk_fine H1 (by decide) _ _) (fun v come fl hw => by
      rw [hv] at hw
      injection hw with hw
      subst hw
      exact ⟨kok0, by decide⟩)
    rw [f4] at h
    exact h
  · intro σ loc hH
    have h := value_c (σ := σ) (f := 8) (w := cellWord 3 0) ok2 live2.cells hH (walk_fine H2 (by decide) _ _)
    rw [f5] at h
    exact h
  · intro σ loc hH
    have h := drop_c50 (σ := σ) (f := 8) (w := cellWord 1 0) ok2 live2.cells hH (walks_fine H2 (by decide) _ _) (fun _ => n6)
    rw [f6] at h
    exact h
  · intro σ loc hH
    have h := build_c45 (σ := σ) ok3 (by decide) hH (v := vArr) kokArr (by decide)
    rw [f7] at h
    exact h
  · intro σ loc hH
    have h := size_c53 (σ := σ) (f := 8) (w := cellWord 1 0) ok4 live4.cells hH (walks_fine H4 (by decide) _ _)
    rw [f8] at h
    exact h
  · intro σ loc hH
    have h := copy_c46 (σ := σ) (f := 8) (w := ⟨7, 0, ⟨#[]⟩, 0⟩) ok4 (by decide) live4.cells hH (walk_fine H4 (by decide) _ _) (fun v come fl hw => by
      have a : (⟨7, 0, ⟨#[]⟩, 0⟩ : AWord).ok = true := by simp [AWord.ok, empty_list]
      simp only [walkF, a] at hw
      simp at hw
      obtain ⟨rfl, _⟩ := hw
      exact ⟨by simp [Val.kok, Val.kokL], by simp [massV, massVL]⟩)
    rw [f9] at h
    exact h
  · intro σ loc hH
    have h := build_c45 (σ := σ) ok4 (by decide) hH (v := vBad) kokBad (by decide)
    rw [f10] at h
    exact h
end Go.Proofs.Ytciciaikajdenaa
