/- NZ: a value that comes in, opened, with its sizes. -/
import Derived.Test.YtciciaikajdenaaProg
import Derived.Test.YtciciaikajdenaaXLdLz
import Derived.Test.YtciciaikajdenaaQN1
set_option linter.unusedSimpArgs false
set_option linter.unusedVariables false
set_option maxRecDepth 100000
namespace Go.Proofs.Ytciciaikajdenaa
open Go.RowKit

theorem valR_mapZ : ∀ l : List Val, valR l = l.map valD
  | [] => rfl
  | p :: l => by simp [valR, valR_mapZ l]
theorem reach_le : reachBytes ≤ 140737488355328 := by decide
theorem u8_wf {z : Int} (h : (Lit.int .u8 z).wf = true) : 0 ≤ z ∧ z ≤ 255 := by
  simp only [Lit.wf, Bool.and_eq_true, decide_eq_true_eq] at h
  exact h
section
variable {w : World}
theorem cz2 : Try.prog.cellsOf 2 = 1 := by kernel_rfl
theorem cz5 : Try.prog.cellsOf 5 = 1 := by kernel_rfl
theorem cz9 : Try.prog.cellsOf 9 = 1 := by kernel_rfl
theorem cz64 : Try.prog.cellsOf 64 = 1 := by kernel_rfl
theorem cz66 : Try.prog.cellsOf 66 = 4 := by kernel_rfl
theorem bz66 : Try.prog.bytesOf 66 = 56 := by kernel_rfl
theorem drep_one {F : Frag} {sz : Nat} {rows : List (List DV)} {v : Value} (h : DRep F (.lst sz rows) v) : v.oneCell' = true := by
  obtain ⟨a, cap, e, _⟩ := h
  subst e
  rfl
theorem reads_valZ : ∀ (n : Nat) {cs : List Value}, ReadsZ Try.prog w n 66 cs → ∃ p : Val, LRep (FH w) (valD p) cs ∧ One cs ∧ p.low := by
  intro n
  induction n using Nat.strongRecOn with
  | ind n ih =>
  intro cs h
  obtain ⟨m, hn, hl, hf⟩ := h.struct Try.underlying66
  rw [cz66] at hl
  match cs, hl with
  | [c0, c1, c2, c3], _ =>
    have h0 := hf 0 _ rfl
    have h1 := hf 1 _ rfl
    have h2 := hf 2 _ rfl
    have h3 := hf 3 _ rfl
    simp only [cz2, cz5, cz9, cz64, List.getElem_toArray, List.getElem_cons_zero, List.getElem_cons_succ, List.drop_succ_cons, List.drop_zero, List.take_succ_cons, List.take_zero] at h0 h1 h2 h3
    obtain ⟨s0, e0, w0⟩ := h0.int Try.underlying5
    obtain ⟨s1, e1, _⟩ := h1.int Try.underlying2
    obtain ⟨s2, e2, z2⟩ := h2.string Try.underlying9
    obtain ⟨v, l, e5, r5, _, z5, q5⟩ := h3.lstD (f := valD) (Q := fun p => p.low) Try.underlying64 cz66 bz66 (by decide) fun m' r hm' hr hrd => ih m' (by omega) hrd
    simp only [List.cons.injEq, and_true] at e0 e1 e2 e5
    subst e0 e1 e2 e5
    rw [← valR_mapZ] at r5
    have hre := reach_le
    refine ⟨.mk s0 s1 s2 l, ⟨_, _, rfl, ⟨rfl, rfl⟩, _, _, rfl, ⟨rfl, rfl⟩, _, _, rfl, ⟨rfl, rfl⟩, _, _, rfl, r5, rfl⟩, ?_, u8_wf w0, by omega, by omega, Val.lowL_of q5⟩
    have ho := drep_one r5
    intro u hu
    simp at hu
    rcases hu with rfl | rfl | rfl | rfl <;> first | rfl | exact ho
end
end Go.Proofs.Ytciciaikajdenaa
