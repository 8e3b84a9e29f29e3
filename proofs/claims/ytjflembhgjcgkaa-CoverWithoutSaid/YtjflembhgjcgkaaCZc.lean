/- CZc: what comes in, opened, with its sizes: patterns, values, signatures. -/
import Derived.Test.YtjflembhgjcgkaaXLdLz
import Derived.Test.YtjflembhgjcgkaaXC32C47
set_option linter.unusedSimpArgs false
set_option linter.unusedVariables false
/- What comes in, opened, with its sizes: patterns, values, signatures, trees, lists of them. -/
set_option maxRecDepth 100000
namespace Go.Proofs.Ytjflembhgjcgkaa
open Go.RowKit

theorem patR_mapZ : ∀ l : List Pat, patR l = l.map patD
  | [] => rfl
  | p :: l => by simp [patR, patR_mapZ l]
theorem valR_mapZ : ∀ l : List Val, valR l = l.map valD
  | [] => rfl
  | p :: l => by simp [valR, valR_mapZ l]
theorem reach_le : reachBytes ≤ 140737488355328 := by decide

section
variable {w : World}
theorem cz2 : Try.prog.cellsOf 2 = 1 := by kernel_rfl
theorem cz3 : Try.prog.cellsOf 3 = 1 := by kernel_rfl
theorem cz5 : Try.prog.cellsOf 5 = 1 := by kernel_rfl
theorem cz9 : Try.prog.cellsOf 9 = 1 := by kernel_rfl
theorem cz22 : Try.prog.cellsOf 22 = 1 := by kernel_rfl
theorem cz23 : Try.prog.cellsOf 23 = 1 := by kernel_rfl
theorem cz25 : Try.prog.cellsOf 25 = 2 := by kernel_rfl
theorem cz26 : Try.prog.cellsOf 26 = 1 := by kernel_rfl
theorem cz29 : Try.prog.cellsOf 29 = 1 := by kernel_rfl
theorem cz30 : Try.prog.cellsOf 30 = 1 := by kernel_rfl
theorem cz31 : Try.prog.cellsOf 31 = 1 := by kernel_rfl
theorem cz33 : Try.prog.cellsOf 33 = 5 := by kernel_rfl
theorem cz39 : Try.prog.cellsOf 39 = 3 := by kernel_rfl
theorem cz41 : Try.prog.cellsOf 41 = 8 := by kernel_rfl
theorem cz58 : Try.prog.cellsOf 58 = 1 := by kernel_rfl
theorem cz60 : Try.prog.cellsOf 60 = 4 := by kernel_rfl
theorem cz81 : Try.prog.cellsOf 81 = 9 := by kernel_rfl
theorem cz88 : Try.prog.cellsOf 88 = 3 := by kernel_rfl
theorem cz89 : Try.prog.cellsOf 89 = 1 := by kernel_rfl
theorem cz90 : Try.prog.cellsOf 90 = 1 := by kernel_rfl
theorem cz92 : Try.prog.cellsOf 92 = 4 := by kernel_rfl
theorem bz3 : Try.prog.bytesOf 3 = 8 := by kernel_rfl
theorem bz33 : Try.prog.bytesOf 33 = 88 := by kernel_rfl
theorem bz41 : Try.prog.bytesOf 41 = 88 := by kernel_rfl
theorem bz60 : Try.prog.bytesOf 60 = 56 := by kernel_rfl
theorem bz81 : Try.prog.bytesOf 81 = 128 := by kernel_rfl
theorem bz88 : Try.prog.bytesOf 88 = 48 := by kernel_rfl
theorem bz92 : Try.prog.bytesOf 92 = 72 := by kernel_rfl

theorem drep_one {F : Frag} {sz : Nat} {rows : List (List DV)} {v : Value} (h : DRep F (.lst sz rows) v) : v.oneCell' = true := by
  obtain ⟨a, cap, e, _⟩ := h
  subst e
  rfl
theorem reads_posZ {n : Nat} {c0 c1 c2 : Value} (h : ReadsZ Try.prog w n 39 [c0, c1, c2]) : ∃ a b c : Int, c0 = .int .i64 a ∧ c1 = .int .i64 b ∧ c2 = .int .i64 c := by
  obtain ⟨m, _, hl, hf⟩ := h.struct Try.underlying39
  have h0 := hf 0 _ rfl
  have h1 := hf 1 _ rfl
  have h2 := hf 2 _ rfl
  simp only [cz3, List.getElem_toArray, List.getElem_cons_zero, List.getElem_cons_succ, List.drop_succ_cons, List.drop_zero, List.take_succ_cons, List.take_zero] at h0 h1 h2
  obtain ⟨s0, e0, _⟩ := h0.int Try.underlying3
  obtain ⟨s1, e1, _⟩ := h1.int Try.underlying3
  obtain ⟨s2, e2, _⟩ := h2.int Try.underlying3
  simp only [List.cons.injEq, and_true] at e0 e1 e2
  exact ⟨s0, s1, s2, e0, e1, e2⟩

theorem reads_patZ : ∀ (n : Nat) {cs : List Value}, ReadsZ Try.prog w n 41 cs → ∃ p : Pat, LRep (FH w) (patD p) cs ∧ One cs ∧ p.low := by
  intro n
  induction n using Nat.strongRecOn with
  | ind n ih =>
  intro cs h
  obtain ⟨m, hn, hl, hf⟩ := h.struct Try.underlying41
  rw [cz41] at hl
  match cs, hl with
  | [c0, c1, c2, c3, c4, c5, c6, c7], _ =>
    have h0 := hf 0 _ rfl
    have h1 := hf 1 _ rfl
    have h2 := hf 2 _ rfl
    have h3 := hf 3 _ rfl
    have h4 := hf 4 _ rfl
    have h5 := hf 5 _ rfl
    simp only [cz2, cz3, cz5, cz9, cz26, cz39, List.getElem_toArray, List.getElem_cons_zero, List.getElem_cons_succ, List.drop_succ_cons, List.drop_zero, List.take_succ_cons, List.take_zero] at h0 h1 h2 h3 h4 h5
    obtain ⟨s0, e0, _⟩ := h0.int Try.underlying5
    obtain ⟨s1, e1, _⟩ := h1.int Try.underlying3
    obtain ⟨s2, e2, _⟩ := h2.int Try.underlying2
    obtain ⟨s3, e3, z3⟩ := h3.string Try.underlying9
    obtain ⟨a, b, c, rfl, rfl, rfl⟩ := reads_posZ h4
    obtain ⟨v, l, e5, r5, _, z5, q5⟩ := h5.lstD (f := patD) (Q := fun p => p.low) Try.underlying26 cz41 bz41 (by decide) fun m' r hm' hr hrd => ih m' (by omega) hrd
    simp only [List.cons.injEq, and_true] at e0 e1 e2 e3 e5
    subst e0 e1 e2 e3 e5
    rw [← patR_mapZ] at r5
    have hre := reach_le
    refine ⟨.mk s0 s1 s2 s3 a b c l, ⟨_, _, rfl, ⟨rfl, rfl⟩, _, _, rfl, ⟨rfl, rfl⟩, _, _, rfl, ⟨rfl, rfl⟩, _, _, rfl, ⟨rfl, rfl⟩, _, _, rfl, ⟨rfl, rfl⟩, _, _, rfl, ⟨rfl, rfl⟩, _, _, rfl, ⟨rfl, rfl⟩, _, _, rfl, r5, rfl⟩, ?_, by omega, by omega, Pat.lowL_of q5⟩
    have ho := drep_one r5
    intro u hu
    simp at hu
    rcases hu with rfl | rfl | rfl | rfl | rfl | rfl | rfl | rfl <;> first | rfl | exact ho

theorem reads_valZ : ∀ (n : Nat) {cs : List Value}, ReadsZ Try.prog w n 60 cs → ∃ p : Val, LRep (FH w) (valD p) cs ∧ One cs ∧ p.low := by
  intro n
  induction n using Nat.strongRecOn with
  | ind n ih =>
  intro cs h
  obtain ⟨m, hn, hl, hf⟩ := h.struct Try.underlying60
  rw [cz60] at hl
  match cs, hl with
  | [c0, c1, c2, c3], _ =>
    have h0 := hf 0 _ rfl
    have h1 := hf 1 _ rfl
    have h2 := hf 2 _ rfl
    have h3 := hf 3 _ rfl
    simp only [cz2, cz5, cz9, cz58, List.getElem_toArray, List.getElem_cons_zero, List.getElem_cons_succ, List.drop_succ_cons, List.drop_zero, List.take_succ_cons, List.take_zero] at h0 h1 h2 h3
    obtain ⟨s0, e0, _⟩ := h0.int Try.underlying5
    obtain ⟨s1, e1, _⟩ := h1.int Try.underlying2
    obtain ⟨s2, e2, z2⟩ := h2.string Try.underlying9
    obtain ⟨v, l, e5, r5, _, z5, q5⟩ := h3.lstD (f := valD) (Q := fun p => p.low) Try.underlying58 cz60 bz60 (by decide) fun m' r hm' hr hrd => ih m' (by omega) hrd
    simp only [List.cons.injEq, and_true] at e0 e1 e2 e5
    subst e0 e1 e2 e5
    rw [← valR_mapZ] at r5
    have hre := reach_le
    refine ⟨.mk s0 s1 s2 l, ⟨_, _, rfl, ⟨rfl, rfl⟩, _, _, rfl, ⟨rfl, rfl⟩, _, _, rfl, ⟨rfl, rfl⟩, _, _, rfl, r5, rfl⟩, ?_, by omega, by omega, Val.lowL_of q5⟩
    have ho := drep_one r5
    intro u hu
    simp at hu
    rcases hu with rfl | rfl | rfl | rfl <;> first | rfl | exact ho

theorem reads_patsZ {n : Nat} {cs : List Value} (h : ReadsZ Try.prog w n 26 cs) : ∃ (v : Value) (l : List Pat), cs = [v] ∧ DRep (FH w) (patsD l) v ∧ l.length ≤ 1599289640354 ∧ ∀ p ∈ l, p.low := by
  obtain ⟨v, l, e, r, _, z, q⟩ := h.lstD (f := patD) (Q := fun p => p.low) Try.underlying26 cz41 bz41 (by decide) fun m' r hm' hr hrd => reads_patZ m' hrd
  rw [← patR_mapZ] at r
  have hre : reachBytes = 140737488351232 := by decide
  exact ⟨v, l, e, r, by rw [hre] at z; omega, q⟩
theorem reads_valsZ {n : Nat} {cs : List Value} (h : ReadsZ Try.prog w n 58 cs) : ∃ (v : Value) (l : List Val), cs = [v] ∧ DRep (FH w) (.lst 4 (valR l)) v ∧ l.length ≤ 140737488355328 ∧ ∀ p ∈ l, p.low := by
  obtain ⟨v, l, e, r, _, z, q⟩ := h.lstD (f := valD) (Q := fun p => p.low) Try.underlying58 cz60 bz60 (by decide) fun m' r hm' hr hrd => reads_valZ m' hrd
  rw [← valR_mapZ] at r
  have hre := reach_le
  exact ⟨v, l, e, r, by omega, q⟩
theorem reads_intsZ {n : Nat} {cs : List Value} (h : ReadsZ Try.prog w n 29 cs) : ∃ (v : Value) (l : List Int), cs = [v] ∧ DRep (FH w) (intsD l) v ∧ l.length ≤ 140737488355328 ∧ ∀ z ∈ l, (Lit.int .i64 z).wf = true := by
  obtain ⟨v, l, e, r, z, q⟩ := h.ints Try.underlying29 Try.underlying3 cz3 bz3
  have hre := reach_le
  exact ⟨v, l, e, r, by omega, q⟩
end
end Go.Proofs.Ytjflembhgjcgkaa

namespace Go.Proofs.Ytjflembhgjcgkaa
open Go.RowKit

section
variable {w : World}
theorem cz147 : Try.prog.cellsOf 147 = 1 := by kernel_rfl
theorem cz149 : Try.prog.cellsOf 149 = 2 := by kernel_rfl
theorem cz151 : Try.prog.cellsOf 151 = 5 := by kernel_rfl
theorem bz147 : Try.prog.bytesOf 147 = 1 := by kernel_rfl
theorem bz151 : Try.prog.bytesOf 151 = 56 := by kernel_rfl
theorem lrep_raw {F : Frag} : ∀ {r : List Value}, One r → LRep F (r.map .v) r
  | [], _ => rfl
  | u :: r, h => ⟨u, r, rfl, ⟨rfl, h u (by simp)⟩, lrep_raw fun x hx => h x (by simp [hx])⟩
theorem slice_one {n t e : Nat} {cs : List Value} (ht : Try.prog.underlying t = some (.slice e)) (hc : 0 < Try.prog.cellsOf e) (h : ReadsZ Try.prog w n t cs) : One cs := by
  obtain ⟨v, rows, e, hrd, _⟩ := h.slice ht hc
  subst e
  intro u hu
  rw [List.mem_singleton.1 hu]
  obtain ⟨_, ⟨⟨a, c, rfl⟩, _⟩ | ⟨b, off, cap, rfl, _⟩⟩ := hrd
  · rfl
  · rfl
theorem reads_typeZ {n : Nat} {cs : List Value} (h : ReadsZ Try.prog w n 151 cs) : One cs := by
  obtain ⟨m, hn, hl, hf⟩ := h.struct Try.underlying151
  rw [cz151] at hl
  match cs, hl with
  | [c0, c1, c2, c3, c4], _ =>
    have h0 := hf 0 _ rfl
    have h1 := hf 1 _ rfl
    have h2 := hf 2 _ rfl
    have h3 := hf 3 _ rfl
    simp only [cz3, cz5, cz89, cz149, List.getElem_toArray, List.getElem_cons_zero, List.getElem_cons_succ, List.drop_succ_cons, List.drop_zero, List.take_succ_cons, List.take_zero] at h0 h1 h2 h3
    obtain ⟨s0, e0, _⟩ := h0.int Try.underlying5
    obtain ⟨s1, e1, _⟩ := h1.int Try.underlying3
    obtain ⟨m', _, _, hg⟩ := h2.struct Try.underlying149
    have g0 := hg 0 _ rfl
    have g1 := hg 1 _ rfl
    simp only [cz3, cz147, List.getElem_toArray, List.getElem_cons_zero, List.getElem_cons_succ, List.drop_succ_cons, List.drop_zero, List.take_succ_cons, List.take_zero] at g0 g1
    obtain ⟨s2, e2, _⟩ := g0.int Try.underlying3
    obtain ⟨s3, e3, _⟩ := g1.int Try.underlying147
    have o4 := slice_one Try.underlying89 (by rw [cz151]; decide) h3
    simp only [List.cons.injEq, and_true] at e0 e1 e2 e3
    subst e0 e1 e2 e3
    have ho := o4 c4 (by simp)
    intro u hu
    simp at hu
    rcases hu with rfl | rfl | rfl | rfl | rfl <;> first | rfl | exact ho
theorem reads_dataZ {n : Nat} {cs : List Value} (h : ReadsZ Try.prog w n 88 cs) : ∃ d : DataT, LRep (FH w) (dataD d) cs ∧ One cs ∧ d.cons.length ≤ 140737488355328 := by
  obtain ⟨m, hn, hl, hf⟩ := h.struct Try.underlying88
  rw [cz88] at hl
  match cs, hl with
  | [c0, c1, c2], _ =>
    have h0 := hf 0 _ rfl
    have h1 := hf 1 _ rfl
    have h2 := hf 2 _ rfl
    simp only [cz9, cz3, cz29, List.getElem_toArray, List.getElem_cons_zero, List.getElem_cons_succ, List.drop_succ_cons, List.drop_zero, List.take_succ_cons, List.take_zero] at h0 h1 h2
    obtain ⟨s0, e0, _⟩ := h0.string Try.underlying9
    obtain ⟨s1, e1, _⟩ := h1.int Try.underlying3
    obtain ⟨v, l, e2, r2, z2, _⟩ := reads_intsZ h2
    simp only [List.cons.injEq, and_true] at e0 e1 e2
    subst e0 e1 e2
    refine ⟨⟨s0, s1, l⟩, ⟨_, _, rfl, ⟨rfl, rfl⟩, _, _, rfl, ⟨rfl, rfl⟩, _, _, rfl, r2, rfl⟩, ?_, z2⟩
    have ho := drep_one r2
    intro u hu
    simp at hu
    rcases hu with rfl | rfl | rfl <;> first | rfl | exact ho
theorem reads_conZ {n : Nat} {cs : List Value} (h : ReadsZ Try.prog w n 92 cs) : ∃ d : ConT, LRep (FH w) (conD d) cs ∧ One cs ∧ d.fields.length ≤ 140737488355328 := by
  obtain ⟨m, hn, hl, hf⟩ := h.struct Try.underlying92
  rw [cz92] at hl
  match cs, hl with
  | [c0, c1, c2, c3], _ =>
    have h0 := hf 0 _ rfl
    have h1 := hf 1 _ rfl
    have h2 := hf 2 _ rfl
    have h3 := hf 3 _ rfl
    simp only [cz9, cz3, cz89, cz90, List.getElem_toArray, List.getElem_cons_zero, List.getElem_cons_succ, List.drop_succ_cons, List.drop_zero, List.take_succ_cons, List.take_zero] at h0 h1 h2 h3
    obtain ⟨s0, e0, _⟩ := h0.string Try.underlying9
    obtain ⟨s1, e1, _⟩ := h1.int Try.underlying3
    obtain ⟨v, l, e2, r2, _, z2, _⟩ := h2.lstD (f := fun r : List Value => r.map DV.v) (Q := fun _ => True) Try.underlying89 cz151 bz151 (by decide) fun m' r hm' hr hrd => ⟨r, lrep_raw (reads_typeZ hrd), reads_typeZ hrd, trivial⟩
    obtain ⟨v', l', e3, r3, _, _, _⟩ := h3.lstD (f := fun r : List Value => r.map DV.v) (Q := fun _ => True) Try.underlying90 cz147 bz147 (by decide) fun m' r hm' hr hrd => by
      obtain ⟨s3, e3, _⟩ := hrd.int Try.underlying147
      subst e3
      have ho : One [Value.int .u8 s3] := fun u hu => by rw [List.mem_singleton.1 hu]; rfl
      exact ⟨_, lrep_raw ho, ho, trivial⟩
    simp only [List.cons.injEq, and_true] at e0 e1 e2 e3
    subst e0 e1 e2 e3
    have hre := reach_le
    refine ⟨⟨s0, s1, l.map fun r => r.map DV.v, l'.map fun r => r.map DV.v⟩, ⟨_, _, rfl, ⟨rfl, rfl⟩, _, _, rfl, ⟨rfl, rfl⟩, _, _, rfl, r2, _, _, rfl, r3, rfl⟩, ?_, by simp; omega⟩
    have ho := drep_one r2
    have ho' := drep_one r3
    intro u hu
    simp at hu
    rcases hu with rfl | rfl | rfl | rfl <;> first | rfl | exact ho | exact ho'
theorem reads_sigZ {n : Nat} {cs : List Value} (h : ReadsZ Try.prog w n 25 cs) : ∃ g : Sg, LRep (FH w) (sigD g) cs ∧ One cs ∧ g.Low := by
  obtain ⟨m, hn, hl, hf⟩ := h.struct Try.underlying25
  rw [cz25] at hl
  match cs, hl with
  | [c0, c1], _ =>
    have h0 := hf 0 _ rfl
    have h1 := hf 1 _ rfl
    simp only [cz22, cz23, List.getElem_toArray, List.getElem_cons_zero, List.getElem_cons_succ, List.drop_succ_cons, List.drop_zero, List.take_succ_cons, List.take_zero] at h0 h1
    obtain ⟨v, l, e2, r2, _, z2, q2⟩ := h0.lstD (f := dataD) (Q := fun d => d.cons.length ≤ 140737488355328) Try.underlying22 cz88 bz88 (by decide) fun m' r hm' hr hrd => reads_dataZ hrd
    obtain ⟨v', l', e3, r3, _, z3, q3⟩ := h1.lstD (f := conD) (Q := fun d => d.fields.length ≤ 140737488355328) Try.underlying23 cz92 bz92 (by decide) fun m' r hm' hr hrd => reads_conZ hrd
    simp only [List.cons.injEq, and_true] at e2 e3
    subst e2 e3
    have hre := reach_le
    refine ⟨⟨l, l'⟩, ⟨_, _, rfl, r2, _, _, rfl, r3, rfl⟩, ?_, ⟨by simp only; omega, by simp only; omega, q2, q3⟩⟩
    have ho := drep_one r2
    have ho' := drep_one r3
    intro u hu
    simp at hu
    rcases hu with rfl | rfl <;> first | exact ho | exact ho'
end
end Go.Proofs.Ytjflembhgjcgkaa
