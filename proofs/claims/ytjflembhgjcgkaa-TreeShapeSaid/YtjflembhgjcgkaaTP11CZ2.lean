/- What comes in, opened, with its sizes: signatures, trees. -/
import Derived.Test.YtjflembhgjcgkaaTP11XM10CZM12
import Derived.Test.YtjflembhgjcgkaaTP11XC40C41
set_option linter.unusedVariables false
set_option linter.unusedSimpArgs false
set_option maxRecDepth 100000
namespace Go.Proofs.Ytjflembhgjcgkaa
open Go.RowKit

section
variable {w : World}
theorem cz147 : Try.prog.cellsOf 147 = 1 := by kernel_rfl
theorem cz149 : Try.prog.cellsOf 149 = 2 := by kernel_rfl
theorem cz151 : Try.prog.cellsOf 151 = 5 := by kernel_rfl
theorem bz147 : Try.prog.bytesOf 147 = 1 := by kernel_rfl
theorem bz151 : Try.prog.bytesOf 151 = 56 := by kernel_rfl
theorem lrep_raw {F : Frag} : ∀ {r : List Value}, One r → LRep F (r.map .v) r
  | [], _ => rfl
  | u :: r, h => ⟨u, r, rfl, ⟨rfl, h u (by simp)⟩, lrep_raw fun x hx => h x (by simp [hx])⟩
theorem slice_one {n t e : Nat} {cs : List Value} (ht : Try.prog.underlying t = some (.slice e)) (hc : 0 < Try.prog.cellsOf e) (h : ReadsZ Try.prog w n t cs) : One cs := by
  obtain ⟨v, rows, e, hrd, _⟩ := h.slice ht hc
  subst e
  intro u hu
  rw [List.mem_singleton.1 hu]
  obtain ⟨_, ⟨⟨a, c, rfl⟩, _⟩ | ⟨b, off, cap, rfl, _⟩⟩ := hrd
  · rfl
  · rfl
theorem reads_typeZ {n : Nat} {cs : List Value} (h : ReadsZ Try.prog w n 151 cs) : One cs := by
  obtain ⟨m, hn, hl, hf⟩ := h.struct Try.underlying151
  rw [cz151] at hl
  match cs, hl with
  | [c0, c1, c2, c3, c4], _ =>
    have h0 := hf 0 _ rfl
    have h1 := hf 1 _ rfl
    have h2 := hf 2 _ rfl
    have h3 := hf 3 _ rfl
    simp only [cz3, cz5, cz89, cz149, List.getElem_toArray, List.getElem_cons_zero, List.getElem_cons_succ, List.drop_succ_cons, List.drop_zero, List.take_succ_cons, List.take_zero] at h0 h1 h2 h3
    obtain ⟨s0, e0, _⟩ := h0.int Try.underlying5
    obtain ⟨s1, e1, _⟩ := h1.int Try.underlying3
    obtain ⟨m', _, _, hg⟩ := h2.struct Try.underlying149
    have g0 := hg 0 _ rfl
    have g1 := hg 1 _ rfl
    simp only [cz3, cz147, List.getElem_toArray, List.getElem_cons_zero, List.getElem_cons_succ, List.drop_succ_cons, List.drop_zero, List.take_succ_cons, List.take_zero] at g0 g1
    obtain ⟨s2, e2, _⟩ := g0.int Try.underlying3
    obtain ⟨s3, e3, _⟩ := g1.int Try.underlying147
    have o4 := slice_one Try.underlying89 (by rw [cz151]; decide) h3
    simp only [List.cons.injEq, and_true] at e0 e1 e2 e3
    subst e0 e1 e2 e3
    have ho := o4 c4 (by simp)
    intro u hu
    simp at hu
    rcases hu with rfl | rfl | rfl | rfl | rfl <;> first | rfl | exact ho
theorem reads_dataZ {n : Nat} {cs : List Value} (h : ReadsZ Try.prog w n 88 cs) : ∃ d : DataT, LRep (FH w) (dataD d) cs ∧ One cs ∧ d.cons.length ≤ 140737488355328 := by
  obtain ⟨m, hn, hl, hf⟩ := h.struct Try.underlying88
  rw [cz88] at hl
  match cs, hl with
  | [c0, c1, c2], _ =>
    have h0 := hf 0 _ rfl
    have h1 := hf 1 _ rfl
    have h2 := hf 2 _ rfl
    simp only [cz9, cz3, cz29, List.getElem_toArray, List.getElem_cons_zero, List.getElem_cons_succ, List.drop_succ_cons, List.drop_zero, List.take_succ_cons, List.take_zero] at h0 h1 h2
    obtain ⟨s0, e0, _⟩ := h0.string Try.underlying9
    obtain ⟨s1, e1, _⟩ := h1.int Try.underlying3
    obtain ⟨v, l, e2, r2, z2, _⟩ := reads_intsZ h2
    simp only [List.cons.injEq, and_true] at e0 e1 e2
    subst e0 e1 e2
    refine ⟨⟨s0, s1, l⟩, ⟨_, _, rfl, ⟨rfl, rfl⟩, _, _, rfl, ⟨rfl, rfl⟩, _, _, rfl, r2, rfl⟩, ?_, z2⟩
    have ho := drep_one r2
    intro u hu
    simp at hu
    rcases hu with rfl | rfl | rfl <;> first | rfl | exact ho
theorem reads_conZ {n : Nat} {cs : List Value} (h : ReadsZ Try.prog w n 92 cs) : ∃ d : ConT, LRep (FH w) (conD d) cs ∧ One cs ∧ d.fields.length ≤ 140737488355328 := by
  obtain ⟨m, hn, hl, hf⟩ := h.struct Try.underlying92
  rw [cz92] at hl
  match cs, hl with
  | [c0, c1, c2, c3], _ =>
    have h0 := hf 0 _ rfl
    have h1 := hf 1 _ rfl
    have h2 := hf 2 _ rfl
    have h3 := hf 3 _ rfl
    simp only [cz9, cz3, cz89, cz90, List.getElem_toArray, List.getElem_cons_zero, List.getElem_cons_succ, List.drop_succ_cons, List.drop_zero, List.take_succ_cons, List.take_zero] at h0 h1 h2 h3
    obtain ⟨s0, e0, _⟩ := h0.string Try.underlying9
    obtain ⟨s1, e1, _⟩ := h1.int Try.underlying3
    obtain ⟨v, l, e2, r2, _, z2, _⟩ := h2.lstD (f := fun r : List Value => r.map DV.v) (Q := fun _ => True) Try.underlying89 cz151 bz151 (by decide) fun m' r hm' hr hrd => ⟨r, lrep_raw (reads_typeZ hrd), reads_typeZ hrd, trivial⟩
    obtain ⟨v', l', e3, r3, _, _, _⟩ := h3.lstD (f := fun r : List Value => r.map DV.v) (Q := fun _ => True) Try.underlying90 cz147 bz147 (by decide) fun m' r hm' hr hrd => by
      obtain ⟨s3, e3, _⟩ := hrd.int Try.underlying147
      subst e3
      have ho : One [Value.int .u8 s3] := fun u hu => by rw [List.mem_singleton.1 hu]; rfl
      exact ⟨_, lrep_raw ho, ho, trivial⟩
    simp only [List.cons.injEq, and_true] at e0 e1 e2 e3
    subst e0 e1 e2 e3
    have hre := reach_le
    refine ⟨⟨s0, s1, l.map fun r => r.map DV.v, l'.map fun r => r.map DV.v⟩, ⟨_, _, rfl, ⟨rfl, rfl⟩, _, _, rfl, ⟨rfl, rfl⟩, _, _, rfl, r2, _, _, rfl, r3, rfl⟩, ?_, by simp; omega⟩
    have ho := drep_one r2
    have ho' := drep_one r3
    intro u hu
    simp at hu
    rcases hu with rfl | rfl | rfl | rfl <;> first | rfl | exact ho | exact ho'
theorem reads_sigZ {n : Nat} {cs : List Value} (h : ReadsZ Try.prog w n 25 cs) : ∃ g : Sg, LRep (FH w) (sigD g) cs ∧ One cs ∧ g.Low := by
  obtain ⟨m, hn, hl, hf⟩ := h.struct Try.underlying25
  rw [cz25] at hl
  match cs, hl with
  | [c0, c1], _ =>
    have h0 := hf 0 _ rfl
    have h1 := hf 1 _ rfl
    simp only [cz22, cz23, List.getElem_toArray, List.getElem_cons_zero, List.getElem_cons_succ, List.drop_succ_cons, List.drop_zero, List.take_succ_cons, List.take_zero] at h0 h1
    obtain ⟨v, l, e2, r2, _, z2, q2⟩ := h0.lstD (f := dataD) (Q := fun d => d.cons.length ≤ 140737488355328) Try.underlying22 cz88 bz88 (by decide) fun m' r hm' hr hrd => reads_dataZ hrd
    obtain ⟨v', l', e3, r3, _, z3, q3⟩ := h1.lstD (f := conD) (Q := fun d => d.fields.length ≤ 140737488355328) Try.underlying23 cz92 bz92 (by decide) fun m' r hm' hr hrd => reads_conZ hrd
    simp only [List.cons.injEq, and_true] at e2 e3
    subst e2 e3
    have hre := reach_le
    refine ⟨⟨l, l'⟩, ⟨_, _, rfl, r2, _, _, rfl, r3, rfl⟩, ?_, ⟨by simp only; omega, by simp only; omega, q2, q3⟩⟩
    have ho := drep_one r2
    have ho' := drep_one r3
    intro u hu
    simp at hu
    rcases hu with rfl | rfl <;> first | exact ho | exact ho'

/-! Trees. -/
end
end Go.Proofs.Ytjflembhgjcgkaa
