/- What comes in, opened: files, fails, scripts. -/
import Derived.Test.YtlpgekodoiioaaaLd
import Derived.Test.YtlpgekodoiioaaaL2
set_option linter.unusedVariables false
set_option linter.unusedSimpArgs false
set_option maxRecDepth 100000
namespace Go.Proofs.Ytlpgekodoiioaaa
open Go.RowKit

section
variable {w : World} {n : Nat} {cs : List Value}
theorem cellsOf3 : Try.prog.cellsOf 3 = 1 := by kernel_rfl
theorem cellsOf4 : Try.prog.cellsOf 4 = 1 := by kernel_rfl
theorem cellsOf9 : Try.prog.cellsOf 9 = 1 := by kernel_rfl
theorem cellsOf36 : Try.prog.cellsOf 36 = 3 := by kernel_rfl
theorem cellsOf62 : Try.prog.cellsOf 62 = 2 := by kernel_rfl

theorem reads_files (h : Reads Try.prog w n 22 cs) : ∃ (v : Value) (l : List AFile), cs = [v] ∧ DRep (FH w) (filesD l) v ∧ l.length ≤ maxLen ∧ ∀ x ∈ l, x.text.size ≤ maxLen :=
  h.lstD (f := fileD) (Q := fun x => x.text.size ≤ maxLen) Try.underlying22 cellsOf62 (by decide) fun m r hn hl hr => by
    obtain ⟨m, _, hl, hf⟩ := hr.struct Try.underlying62
    rw [cellsOf62] at hl
    match r, hl with
    | [c0, c1], _ =>
      have h0 := hf 0 _ rfl
      have h1 := hf 1 _ rfl
      simp only [cellsOf9, List.getElem_toArray, List.getElem_cons_zero, List.getElem_cons_succ, List.drop_succ_cons, List.drop_zero, List.take_succ_cons, List.take_zero] at h0 h1
      obtain ⟨s0, e0, z0⟩ := h0.string Try.underlying9
      obtain ⟨s1, e1, z1⟩ := h1.string Try.underlying9
      simp only [List.cons.injEq, and_true] at e0 e1
      subst e0 e1
      exact ⟨⟨s0, s1⟩, ⟨_, _, rfl, ⟨rfl, rfl⟩, _, _, rfl, ⟨rfl, rfl⟩, rfl⟩, by intro u hu; simp at hu; rcases hu with rfl | rfl <;> rfl, z1⟩

theorem reads_bools (h : Reads Try.prog w n 23 cs) : ∃ (v : Value) (l : List Bool), cs = [v] ∧ DRep (FH w) (boolsD l) v ∧ l.length ≤ maxLen := by
  obtain ⟨v, l, h1, h2, h3, _⟩ := h.lstD (f := boolD) (Q := fun x => True) Try.underlying23 cellsOf4 (by decide) fun m r hn hl hr => by
    obtain ⟨b, e⟩ := hr.bool Try.underlying4
    subst e
    exact ⟨b, ⟨_, _, rfl, ⟨rfl, rfl⟩, rfl⟩, by intro u hu; simp at hu; subst hu; rfl, trivial⟩
  exact ⟨v, l, h1, h2, h3⟩

theorem reads_dos (h : Reads Try.prog w n 24 cs) : ∃ (v : Value) (l : List ADo), cs = [v] ∧ DRep (FH w) (dosD l) v ∧ l.length ≤ maxLen ∧ ∀ x ∈ l, x.s.size ≤ maxLen :=
  h.lstD (f := doD) (Q := fun x => x.s.size ≤ maxLen) Try.underlying24 cellsOf36 (by decide) fun m r hn hl hr => by
    obtain ⟨m, _, hl, hf⟩ := hr.struct Try.underlying36
    rw [cellsOf36] at hl
    match r, hl with
    | [c0, c1, c2], _ =>
      have h0 := hf 0 _ rfl
      have h1 := hf 1 _ rfl
      have h2 := hf 2 _ rfl
      simp only [cellsOf3, cellsOf9, List.getElem_toArray, List.getElem_cons_zero, List.getElem_cons_succ, List.drop_succ_cons, List.drop_zero, List.take_succ_cons, List.take_zero] at h0 h1 h2
      obtain ⟨s0, e0, _⟩ := h0.int Try.underlying3
      obtain ⟨s1, e1, _⟩ := h1.int Try.underlying3
      obtain ⟨s2, e2, z2⟩ := h2.string Try.underlying9
      simp only [List.cons.injEq, and_true] at e0 e1 e2
      subst e0 e1 e2
      exact ⟨⟨s0, s1, s2⟩, ⟨_, _, rfl, ⟨rfl, rfl⟩, _, _, rfl, ⟨rfl, rfl⟩, _, _, rfl, ⟨rfl, rfl⟩, rfl⟩, by intro u hu; simp at hu; rcases hu with rfl | rfl | rfl <;> rfl, z2⟩
end
end Go.Proofs.Ytlpgekodoiioaaa
