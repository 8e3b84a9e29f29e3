/- What comes in, opened: patterns, values. -/
import Derived.Test.YtjflembhgjcgkaaLd
import Derived.Test.YtjflembhgjcgkaaTab
import Derived.Test.YtjflembhgjcgkaaM1
set_option linter.unusedVariables false
set_option linter.unusedSimpArgs false
set_option maxRecDepth 100000
namespace Go.Proofs.Ytjflembhgjcgkaa
open Go.RowKit

theorem patR_map : ∀ l : List Pat, patR l = l.map patD
  | [] => rfl
  | p :: l => by simp [patR, patR_map l]
theorem valR_map : ∀ l : List Val, valR l = l.map valD
  | [] => rfl
  | p :: l => by simp [valR, valR_map l]
theorem Val.smallL_of {m : Nat} : ∀ {l : List Val}, (∀ p ∈ l, p.small m) → Val.smallL m l
  | [], _ => trivial
  | a :: l, h => ⟨h a (by simp), Val.smallL_of fun p hp => h p (by simp [hp])⟩

theorem cellsOf2 : Try.prog.cellsOf 2 = 1 := by kernel_rfl
theorem cellsOf3 : Try.prog.cellsOf 3 = 1 := by kernel_rfl
theorem cellsOf5 : Try.prog.cellsOf 5 = 1 := by kernel_rfl
theorem cellsOf9 : Try.prog.cellsOf 9 = 1 := by kernel_rfl
theorem cellsOf26 : Try.prog.cellsOf 26 = 1 := by kernel_rfl
theorem cellsOf58 : Try.prog.cellsOf 58 = 1 := by kernel_rfl
theorem cellsOf39 : Try.prog.cellsOf 39 = 3 := by kernel_rfl
theorem cellsOf41 : Try.prog.cellsOf 41 = 8 := by kernel_rfl
theorem cellsOf60 : Try.prog.cellsOf 60 = 4 := by kernel_rfl

section
variable {w : World}
theorem reads_pos {n : Nat} {c0 c1 c2 : Value} (h : Reads Try.prog w n 39 [c0, c1, c2]) : ∃ a b c : Int, c0 = .int .i64 a ∧ c1 = .int .i64 b ∧ c2 = .int .i64 c := by
  obtain ⟨m, _, hl, hf⟩ := h.struct Try.underlying39
  have h0 := hf 0 _ rfl
  have h1 := hf 1 _ rfl
  have h2 := hf 2 _ rfl
  simp only [cellsOf3, List.getElem_toArray, List.getElem_cons_zero, List.getElem_cons_succ, List.drop_succ_cons, List.drop_zero, List.take_succ_cons, List.take_zero] at h0 h1 h2
  obtain ⟨s0, e0, _⟩ := h0.int Try.underlying3
  obtain ⟨s1, e1, _⟩ := h1.int Try.underlying3
  obtain ⟨s2, e2, _⟩ := h2.int Try.underlying3
  simp only [List.cons.injEq, and_true] at e0 e1 e2
  exact ⟨s0, s1, s2, e0, e1, e2⟩

theorem reads_pat : ∀ (n : Nat) {cs : List Value}, Reads Try.prog w n 41 cs → ∃ p : Pat, LRep (FH w) (patD p) cs ∧ One cs ∧ p.small maxLen := by
  intro n
  induction n using Nat.strongRecOn with
  | ind n ih =>
  intro cs h
  obtain ⟨m, hn, hl, hf⟩ := h.struct Try.underlying41
  rw [cellsOf41] at hl
  match cs, hl with
  | [c0, c1, c2, c3, c4, c5, c6, c7], _ =>
    have h0 := hf 0 _ rfl
    have h1 := hf 1 _ rfl
    have h2 := hf 2 _ rfl
    have h3 := hf 3 _ rfl
    have h4 := hf 4 _ rfl
    have h5 := hf 5 _ rfl
    simp only [cellsOf2, cellsOf3, cellsOf5, cellsOf9, cellsOf26, cellsOf39, List.getElem_toArray, List.getElem_cons_zero, List.getElem_cons_succ, List.drop_succ_cons, List.drop_zero, List.take_succ_cons, List.take_zero] at h0 h1 h2 h3 h4 h5
    obtain ⟨s0, e0, _⟩ := h0.int Try.underlying5
    obtain ⟨s1, e1, _⟩ := h1.int Try.underlying3
    obtain ⟨s2, e2, _⟩ := h2.int Try.underlying2
    obtain ⟨s3, e3, z3⟩ := h3.string Try.underlying9
    obtain ⟨a, b, c, rfl, rfl, rfl⟩ := reads_pos h4
    obtain ⟨v, l, e5, r5, z5, q5⟩ := h5.lstD (f := patD) (Q := fun p => p.small maxLen) Try.underlying26 cellsOf41 (by decide) fun m' r hm' hr hrd => ih m' (by omega) hrd
    simp only [List.cons.injEq, and_true] at e0 e1 e2 e3 e5
    subst e0 e1 e2 e3 e5
    rw [← patR_map] at r5
    refine ⟨.mk s0 s1 s2 s3 a b c l, ⟨_, _, rfl, ⟨rfl, rfl⟩, _, _, rfl, ⟨rfl, rfl⟩, _, _, rfl, ⟨rfl, rfl⟩, _, _, rfl, ⟨rfl, rfl⟩, _, _, rfl, ⟨rfl, rfl⟩, _, _, rfl, ⟨rfl, rfl⟩, _, _, rfl, ⟨rfl, rfl⟩, _, _, rfl, r5, rfl⟩, ?_, z5, z3, Pat.smallL_of q5⟩
    obtain ⟨a', cap, e, _⟩ := r5
    subst e
    intro u hu
    simp at hu
    rcases hu with rfl | rfl | rfl | rfl | rfl | rfl | rfl | rfl <;> rfl

theorem reads_val : ∀ (n : Nat) {cs : List Value}, Reads Try.prog w n 60 cs → ∃ p : Val, LRep (FH w) (valD p) cs ∧ One cs ∧ p.small maxLen := by
  intro n
  induction n using Nat.strongRecOn with
  | ind n ih =>
  intro cs h
  obtain ⟨m, hn, hl, hf⟩ := h.struct Try.underlying60
  rw [cellsOf60] at hl
  match cs, hl with
  | [c0, c1, c2, c3], _ =>
    have h0 := hf 0 _ rfl
    have h1 := hf 1 _ rfl
    have h2 := hf 2 _ rfl
    have h3 := hf 3 _ rfl
    simp only [cellsOf2, cellsOf5, cellsOf9, cellsOf58, List.getElem_toArray, List.getElem_cons_zero, List.getElem_cons_succ, List.drop_succ_cons, List.drop_zero, List.take_succ_cons, List.take_zero] at h0 h1 h2 h3
    obtain ⟨s0, e0, _⟩ := h0.int Try.underlying5
    obtain ⟨s1, e1, _⟩ := h1.int Try.underlying2
    obtain ⟨s2, e2, z2⟩ := h2.string Try.underlying9
    obtain ⟨v, l, e5, r5, z5, q5⟩ := h3.lstD (f := valD) (Q := fun p => p.small maxLen) Try.underlying58 cellsOf60 (by decide) fun m' r hm' hr hrd => ih m' (by omega) hrd
    simp only [List.cons.injEq, and_true] at e0 e1 e2 e5
    subst e0 e1 e2 e5
    rw [← valR_map] at r5
    refine ⟨.mk s0 s1 s2 l, ⟨_, _, rfl, ⟨rfl, rfl⟩, _, _, rfl, ⟨rfl, rfl⟩, _, _, rfl, ⟨rfl, rfl⟩, _, _, rfl, r5, rfl⟩, ?_, z5, z2, Val.smallL_of q5⟩
    obtain ⟨a', cap, e, _⟩ := r5
    subst e
    intro u hu
    simp at hu
    rcases hu with rfl | rfl | rfl | rfl <;> rfl
end
end Go.Proofs.Ytjflembhgjcgkaa
