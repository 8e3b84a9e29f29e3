/- What comes in, opened, with its sizes: signatures, trees. -/
import Derived.Test.YtjflembhgjcgkaaXM10CZM12
import Derived.Test.YtjflembhgjcgkaaXC40C41
set_option linter.unusedVariables false
set_option linter.unusedSimpArgs false
set_option maxRecDepth 100000
namespace Go.Proofs.Ytjflembhgjcgkaa
open Go.RowKit

section
variable {w : World}
theorem cz147 : Try.prog.cellsOf 147 = 1 := by kernel_rfl
theorem cz149 : Try.prog.cellsOf 149 = 2 := by kernel_rfl
theorem cz151 : Try.prog.cellsOf 151 = 5 := by kernel_rfl
theorem bz147 : Try.prog.bytesOf 147 = 1 := by kernel_rfl
theorem bz151 : Try.prog.bytesOf 151 = 56 := by kernel_rfl
theorem lrep_raw {F : Frag} : ∀ {r : List Value}, One r → LRep F (r.map .v) r
  | [], _ => rfl
  | u :: r, h => ⟨u, r, rfl, ⟨rfl, h u (by simp)⟩, lrep_raw fun x hx => h x (by simp [hx])⟩
theorem slice_one {n t e : Nat} {cs : List Value} (ht : Try.prog.underlying t = some (.slice e)) (hc : 0 < Try.prog.cellsOf e) (h : ReadsZ Try.prog w n t cs) : One cs := by
  obtain ⟨v, rows, e, hrd, _⟩ := h.slice ht hc
  subst e
  intro u hu
  rw [List.mem_singleton.1 hu]
  obtain ⟨_, ⟨⟨a, c, rfl⟩, _⟩ | ⟨b, off, cap, rfl, _⟩⟩ := hrd
  · rfl
  · rfl
theorem reads_typeZ {n : Nat} {cs : List Value} (h : ReadsZ Try.prog w n 151 cs) : One cs := by
  obtain ⟨m, hn, hl, hf⟩ := h.struct Try.underlying151
  rw [cz151] at hl
  match cs, hl with
  | [c0, c1, c2, c3, c4], _ =>
    have h0 := hf 0 _ rfl
    have h1 := hf 1 _ rfl
    have h2 := hf 2 _ rfl
    have h3 := hf 3 _ rfl
    simp only [cz3, cz5, cz89, cz149, List.getElem_toArray, List.getElem_cons_zero, List.getElem_cons_succ, List.drop_succ_cons, List.drop_zero, List.take_succ_cons, List.take_zero] at h0 h1 h2 h3
    obtain ⟨s0, e0, _⟩ := h0.int Try.underlying5
    obtain ⟨s1, e1, _⟩ := h1.int Try.underlying3
    obtain ⟨m', _, _, hg⟩ := h2.struct Try.underlying149
    have g0 := hg 0 _ rfl
    have g1 := hg 1 _ rfl
    simp only [cz3, cz147, List.getElem_toArray, List.getElem_cons_zero, List.getElem_cons_succ, List.drop_succ_cons, List.drop_zero, List.take_succ_cons, List.take_zero] at g0 g1
    obtain ⟨s2, e2, _⟩ := g0.int Try.underlying3
    obtain ⟨s3, e3, _⟩ := g1.int Try.underlying147
    have o4 := slice_one Try.underlying89 (by rw [cz151]; decide) h3
    simp only [List.cons.injEq, and_true] at e0 e1 e2 e3
    subst e0 e1 e2 e3
    have ho := o4 c4 (by simp)
    intro u hu
    simp at hu
    rcases hu with rfl | rfl | rfl | rfl | rfl <;> first | rfl | exact ho
theorem reads_dataZ {n : Nat} {cs : List Value} (h : ReadsZ Try.prog w n 88 cs) : ∃ d : DataT, LRep (FH w) (dataD d) cs ∧ One cs ∧ d.cons.length ≤ 140737488355328 := by
  obtain ⟨m, hn, hl, hf⟩ := h.struct Try.underlying88
  rw [cz88] at hl
  match cs, hl with
  | [c0, c1, c2], _ =>
    have h0 := hf 0 _ rfl
    have h1 := hf 1 _ rfl
    have h2 := hf 2 _ rfl
    simp only [cz9, cz3, cz29, List.getElem_toArray, List.getElem_cons_zero, List.getElem_cons_succ, List.drop_succ_cons, List.drop_zero, List.take_succ_cons, List.take_zero] at h0 h1 h2
    obtain ⟨s0, e0, _⟩ := h0.string Try.underlying9
    obtain ⟨s1, e1, _⟩ := h1.int Try.underlying3
    obtain ⟨v, l, e2, r2, z2, _⟩ := reads_intsZ h2
    simp only [List.cons.injEq, and_true] at e0 e1 e2
    subst e0 e1 e2
    refine ⟨⟨s0, s1, l⟩, ⟨_, _, rfl, ⟨rfl, rfl⟩, _, _, rfl, ⟨rfl, rfl⟩, _, _, rfl, r2, rfl⟩, ?_, z2⟩
    have ho := drep_one r2
    intro u hu
    simp at hu
    rcases hu with rfl | rfl | rfl <;> first | rfl | exact ho
theorem reads_conZ {n : Nat} {cs : List Value} (h : ReadsZ Try.prog w n 92 cs) : ∃ d : ConT, LRep (FH w) (conD d) cs ∧ One cs ∧ d.fields.length ≤ 140737488355328 := by
  obtain ⟨m, hn, hl, hf⟩ := h.struct Try.underlying92
  rw [cz92] at hl
  match cs, hl with
  | [c0, c1, c2, c3], _ =>
    have h0 := hf 0 _ rfl
    have h1 := hf 1 _ rfl
    have h2 := hf 2 _ rfl
    have h3 := hf 3 _ rfl
    simp only [cz9, cz3, cz89, cz90, List.getElem_toArray, List.getElem_cons_zero, List.getElem_cons_succ, List.drop_succ_cons, List.drop_zero, List.take_succ_cons, List.take_zero] at h0 h1 h2 h3
    obtain ⟨s0, e0, _⟩ := h0.string Try.underlying9
    obtain ⟨s1, e1, _⟩ := h1.int Try.underlying3
    obtain ⟨v, l, e2, r2, _, z2, _⟩ := h2.lstD (f := fun r : List Value => r.map DV.v) (Q := fun _ => True) Try.underlying89 cz151 bz151 (by decide) fun m' r hm' hr hrd => ⟨r, lrep_raw (reads_typeZ hrd), reads_typeZ hrd, trivial⟩
    obtain ⟨v', l', e3, r3, _, _, _⟩ := h3.lstD (f := fun r : List Value => r.map DV.v) (Q := fun _ => True) Try.underlying90 cz147 bz147 (by decide) fun m' r hm' hr hrd => by
      obtain ⟨s3, e3, _⟩ := hrd.int Try.underlying147
      subst e3
      have ho : One [Value.int .u8 s3] := fun u hu => by rw [List.mem_singleton.1 hu]; rfl
      exact ⟨_, lrep_raw ho, ho, trivial⟩
    simp only [List.cons.injEq, and_true] at e0 e1 e2 e3
    subst e0 e1 e2 e3
    have hre := reach_le
    refine ⟨⟨s0, s1, l.map fun r => r.map DV.v, l'.map fun r => r.map DV.v⟩, ⟨_, _, rfl, ⟨rfl, rfl⟩, _, _, rfl, ⟨rfl, rfl⟩, _, _, rfl, r2, _, _, rfl, r3, rfl⟩, ?_, by simp; omega⟩
    have ho := drep_one r2
    have ho' := drep_one r3
    intro u hu
    simp at hu
    rcases hu with rfl | rfl | rfl | rfl <;> first | rfl | exact ho | exact ho'
theorem reads_sigZ {n : Nat} {cs : List Value} (h : ReadsZ Try.prog w n 25 cs) : ∃ g : Sg, LRep (FH w) (sigD g) cs ∧ One cs ∧ g.Low := by
  obtain ⟨m, hn, hl, hf⟩ := h.struct Try.underlying25
  rw [cz25] at hl
  match cs, hl with
  | [c0, c1], _ =>
    have h0 := hf 0 _ rfl
    have h1 := hf 1 _ rfl
    simp only [cz22, cz23, List.getElem_toArray, List.getElem_cons_zero, List.getElem_cons_succ, List.drop_succ_cons, List.drop_zero, List.take_succ_cons, List.take_zero] at h0 h1
    obtain ⟨v, l, e2, r2, _, z2, q2⟩ := h0.lstD (f := dataD) (Q := fun d => d.cons.length ≤ 140737488355328) Try.underlying22 cz88 bz88 (by decide) fun m' r hm' hr hrd => reads_dataZ hrd
    obtain ⟨v', l', e3, r3, _, z3, q3⟩ := h1.lstD (f := conD) (Q := fun d => d.fields.length ≤ 140737488355328) Try.underlying23 cz92 bz92 (by decide) fun m' r hm' hr hrd => reads_conZ hrd
    simp only [List.cons.injEq, and_true] at e2 e3
    subst e2 e3
    have hre := reach_le
    refine ⟨⟨l, l'⟩, ⟨_, _, rfl, r2, _, _, rfl, r3, rfl⟩, ?_, ⟨by simp only; omega, by simp only; omega, q2, q3⟩⟩
    have ho := drep_one r2
    have ho' := drep_one r3
    intro u hu
    simp at hu
    rcases hu with rfl | rfl <;> first | exact ho | exact ho'

/-! Trees. -/
theorem brR_mapZ : ∀ l : List TreeT, brR l = l.map brD := brR_map
theorem treeR_mapZ : ∀ l : List TreeT, treeR l = l.map treeD := treeR_map
theorem reads_treeZ : ∀ (n : Nat) {cs : List Value}, ReadsZ Try.prog w n 33 cs → ∀ (bk bn bi : Int) (bs : ByteArray), ∃ p : TreeT, LRep (FH w) (treeD p) cs ∧ One cs ∧ p.small ∧ labD p = [.v (.int .u8 bk), .v (.int .i64 bn), .v (.int .i64 bi), .v (.string bs)] := by
  intro n
  induction n using Nat.strongRecOn with
  | ind n ih =>
  intro cs h bk bn bi bs
  obtain ⟨m, hn, hl, hf⟩ := h.struct Try.underlying33
  rw [cz33] at hl
  match cs, hl with
  | [c0, c1, c2, c3, c4], _ =>
    have h0 := hf 0 _ rfl
    have h1 := hf 1 _ rfl
    have h2 := hf 2 _ rfl
    have h3 := hf 3 _ rfl
    have h4 := hf 4 _ rfl
    simp only [cz5, cz3, cz29, cz30, cz31, List.getElem_toArray, List.getElem_cons_zero, List.getElem_cons_succ, List.drop_succ_cons, List.drop_zero, List.take_succ_cons, List.take_zero] at h0 h1 h2 h3 h4
    obtain ⟨s0, e0, _⟩ := h0.int Try.underlying5
    obtain ⟨s1, e1, _⟩ := h1.int Try.underlying3
    obtain ⟨v2, path, e2, r2, z2, _⟩ := reads_intsZ h2
    obtain ⟨v3, cases', e3, r3, _, z3, q3⟩ := h3.lstD (f := brD) (Q := fun t => t.small) Try.underlying30 cz81 bz81 (by decide) fun m' r hm' hr hrd => by
      obtain ⟨m2, hn2, hl2, hf2⟩ := hrd.struct Try.underlying81
      rw [cz81] at hl2
      match r, hl2 with
      | [d0, d1, d2, d3, d4, d5, d6, d7, d8], _ =>
        have g0 := hf2 0 _ rfl
        have g1 := hf2 1 _ rfl
        have g2 := hf2 2 _ rfl
        have g3 := hf2 3 _ rfl
        have g4 := hf2 4 _ rfl
        simp only [cz5, cz3, cz2, cz9, cz33, List.getElem_toArray, List.getElem_cons_zero, List.getElem_cons_succ, List.drop_succ_cons, List.drop_zero, List.take_succ_cons, List.take_zero] at g0 g1 g2 g3 g4
        obtain ⟨t0, f0, _⟩ := g0.int Try.underlying5
        obtain ⟨t1, f1, _⟩ := g1.int Try.underlying3
        obtain ⟨t2, f2, _⟩ := g2.int Try.underlying2
        obtain ⟨t3, f3, _⟩ := g3.string Try.underlying9
        simp only [List.cons.injEq, and_true] at f0 f1 f2 f3
        subst f0 f1 f2 f3
        obtain ⟨p, k1, k2, k3, k4⟩ := ih m2 (by omega) g4 t0 t1 t2 t3
        refine ⟨p, ?_, ?_, k3⟩
        · unfold brD
          rw [k4]
          exact ⟨_, _, rfl, ⟨rfl, rfl⟩, _, _, rfl, ⟨rfl, rfl⟩, _, _, rfl, ⟨rfl, rfl⟩, _, _, rfl, ⟨rfl, rfl⟩, k1⟩
        · intro u hu
          simp at hu
          rcases hu with rfl | rfl | rfl | rfl | hu
          · rfl
          · rfl
          · rfl
          · rfl
          · exact k2 u (by simpa using hu)
    obtain ⟨v4, els, e4, r4, _, z4, q4⟩ := h4.lstD (f := treeD) (Q := fun t => t.small) Try.underlying31 cz33 bz33 (by decide) fun m' r hm' hr hrd => by
      obtain ⟨p, k1, k2, k3, _⟩ := ih m' (by omega) hrd 0 0 0 ⟨#[]⟩
      exact ⟨p, k1, k2, k3⟩
    simp only [List.cons.injEq, and_true] at e0 e1 e2 e3 e4
    subst e0 e1 e2 e3 e4
    rw [← brR_mapZ] at r3
    rw [← treeR_mapZ] at r4
    have hre := reach_le
    refine ⟨.mk bk bn bi bs s0 s1 path cases' els, ⟨_, _, rfl, ⟨rfl, rfl⟩, _, _, rfl, ⟨rfl, rfl⟩, _, _, rfl, r2, _, _, rfl, r3, _, _, rfl, r4, rfl⟩, ?_, ⟨by omega, by omega, by omega, TreeT.smallL_of q3, TreeT.smallL_of q4⟩, rfl⟩
    have o2 := drep_one r2
    have o3 := drep_one r3
    have o4 := drep_one r4
    intro u hu
    simp at hu
    rcases hu with rfl | rfl | rfl | rfl | rfl <;> first | rfl | exact o2 | exact o3 | exact o4
end
end Go.Proofs.Ytjflembhgjcgkaa
