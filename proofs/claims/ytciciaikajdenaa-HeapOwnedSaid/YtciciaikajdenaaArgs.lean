/- A script that comes in, opened. -/
import Derived.Test.YtciciaikajdenaaD1
import Derived.Test.YtciciaikajdenaaOpen
set_option linter.unusedVariables false
set_option linter.unusedSimpArgs false
set_option maxRecDepth 100000
namespace Go.Proofs.Ytciciaikajdenaa
open Go.ChangeShapes Go.WideShapes Go.ChangeAt Go.RowKit

section
variable {w : World} {n : Nat} {cs : List Value}

theorem cellsOf3 : Try.prog.cellsOf 3 = 1 := by kernel_rfl
theorem cellsOf2 : Try.prog.cellsOf 2 = 1 := by kernel_rfl
theorem cellsOf4 : Try.prog.cellsOf 4 = 1 := by kernel_rfl
theorem cellsOf5 : Try.prog.cellsOf 5 = 1 := by kernel_rfl
theorem cellsOf9 : Try.prog.cellsOf 9 = 1 := by kernel_rfl
theorem cellsOf32 : Try.prog.cellsOf 32 = 1 := by kernel_rfl
theorem cellsOf34 : Try.prog.cellsOf 34 = 3 := by kernel_rfl
theorem cellsOf36 : Try.prog.cellsOf 36 = 4 := by kernel_rfl
theorem cellsOf38 : Try.prog.cellsOf 38 = 15 := by kernel_rfl

theorem reads_word (h : Reads Try.prog w n 36 cs) : ∃ x : AWord, cs = wcells x := by
  obtain ⟨m, _, hl, hf⟩ := h.struct Try.underlying36
  rw [cellsOf36] at hl
  match cs, hl with
  | [c0, c1, c2, c3], _ =>
    have h0 := hf 0 _ rfl
    have h1 := hf 1 _ rfl
    have h2 := hf 2 _ rfl
    have h3 := hf 3 _ rfl
    simp only [cellsOf5, cellsOf2, cellsOf9, cellsOf3, List.getElem_toArray, List.getElem_cons_zero, List.getElem_cons_succ, List.drop_succ_cons, List.drop_zero, List.take_succ_cons, List.take_zero] at h0 h1 h2 h3
    obtain ⟨z0, e0, _⟩ := h0.int Try.underlying5
    obtain ⟨z1, e1, _⟩ := h1.int Try.underlying2
    obtain ⟨z2, e2, _⟩ := h2.string Try.underlying9
    obtain ⟨z3, e3, _⟩ := h3.int Try.underlying3
    simp only [List.cons.injEq, and_true] at e0 e1 e2 e3
    subst e0 e1 e2 e3
    exact ⟨⟨z0, z1, z2, z3⟩, rfl⟩

theorem reads_words (h : Reads Try.prog w n 32 cs) : ∃ (v : Value) (ws : List AWord), cs = [v] ∧ rd w 4 v ws.length (flatW ws) ∧ ws.length ≤ maxLen := by
  obtain ⟨v, rows, e, h1, h2, h3⟩ := h.slice Try.underlying32 (by rw [cellsOf36]; decide)
  rw [cellsOf36] at h1 h3
  obtain ⟨ws, l1, l2, _⟩ := rows_choose (f := wcells) (Q := fun _ => True) rows (fun r hr => by
    obtain ⟨_, m, _, h4⟩ := h3 r hr
    obtain ⟨x, e⟩ := reads_word h4
    exact ⟨x, e, trivial⟩)
  rw [l1] at h1 h2
  rw [l2] at h1
  exact ⟨v, ws, e, h1, h2⟩

theorem reads_cell (h : Reads Try.prog w n 34 cs) : ∃ (c : ACell) (v : Value), cs = [.int .u8 c.k, .int .i64 c.n, v] ∧ rd w 4 v c.ws.length (flatW c.ws) ∧ c.ws.length ≤ maxLen := by
  obtain ⟨m, _, hl, hf⟩ := h.struct Try.underlying34
  rw [cellsOf34] at hl
  match cs, hl with
  | [c0, c1, c2], _ =>
    have h0 := hf 0 _ rfl
    have h1 := hf 1 _ rfl
    have h2 := hf 2 _ rfl
    simp only [cellsOf5, cellsOf3, cellsOf32, List.getElem_toArray, List.getElem_cons_zero, List.getElem_cons_succ, List.drop_succ_cons, List.drop_zero, List.take_succ_cons, List.take_zero] at h0 h1 h2
    obtain ⟨z0, e0, _⟩ := h0.int Try.underlying5
    obtain ⟨z1, e1, _⟩ := h1.int Try.underlying3
    obtain ⟨v, ws, e2, r1, r2⟩ := reads_words h2
    simp only [List.cons.injEq, and_true] at e0 e1 e2
    subst e0 e1 e2
    exact ⟨⟨z0, z1, ws⟩, c2, rfl, r1, r2⟩

theorem reads_do (h : Reads Try.prog w n 38 cs) : ∃ p : ADo × Value, cs = dCells p ∧ rd w 4 p.2 p.1.c.ws.length (flatW p.1.c.ws) ∧ p.1.c.ws.length ≤ maxLen := by
  obtain ⟨m, _, hl, hf⟩ := h.struct Try.underlying38
  rw [cellsOf38] at hl
  match cs, hl with
  | [c0, c1, c2, c3, c4, c5, c6, c7, c8, c9, c10, c11, c12, c13, c14], _ =>
    have h0 := hf 0 _ rfl
    have h1 := hf 1 _ rfl
    have h2 := hf 2 _ rfl
    have h3 := hf 3 _ rfl
    have h4 := hf 4 _ rfl
    have h5 := hf 5 _ rfl
    have h6 := hf 6 _ rfl
    simp only [cellsOf3, cellsOf34, cellsOf36, cellsOf4, List.getElem_toArray, List.getElem_cons_zero, List.getElem_cons_succ, List.drop_succ_cons, List.drop_zero, List.take_succ_cons, List.take_zero] at h0 h1 h2 h3 h4 h5 h6
    obtain ⟨z0, e0, _⟩ := h0.int Try.underlying3
    obtain ⟨z1, e1, _⟩ := h1.int Try.underlying3
    obtain ⟨z2, e2, _⟩ := h2.int Try.underlying3
    obtain ⟨c, v, e3, r1, r2⟩ := reads_cell h3
    obtain ⟨x, e4⟩ := reads_word h4
    obtain ⟨y, e5⟩ := reads_word h5
    obtain ⟨b, e6⟩ := h6.bool Try.underlying4
    simp only [wcells, List.cons.injEq, and_true] at e0 e1 e2 e3 e4 e5 e6
    obtain ⟨e30, e31, e32⟩ := e3
    obtain ⟨e40, e41, e42, e43⟩ := e4
    obtain ⟨e50, e51, e52, e53⟩ := e5
    subst e0 e1 e2 e30 e31 e32 e40 e41 e42 e43 e50 e51 e52 e53 e6
    exact ⟨(⟨z0, z1, z2, c, x, y, b⟩, c5), rfl, r1, r2⟩

theorem reads_dos (h : Reads Try.prog w n 22 cs) : ∃ (v : Value) (l : List (ADo × Value)), cs = [v] ∧ DosIn w v l := by
  obtain ⟨v, rows, e, h1, h2, h3⟩ := h.slice Try.underlying22 (by rw [cellsOf38]; decide)
  rw [cellsOf38] at h1 h3
  obtain ⟨l, l1, l2, q⟩ := rows_choose (f := dCells) (Q := fun p => rd w 4 p.2 p.1.c.ws.length (flatW p.1.c.ws) ∧ p.1.c.ws.length ≤ maxLen) rows (fun r hr => by
    obtain ⟨_, m, _, h4⟩ := h3 r hr
    obtain ⟨p, e, q⟩ := reads_do h4
    exact ⟨p, e, q⟩)
  rw [l1] at h1 h2
  rw [l2] at h1
  exact ⟨v, l, e, h1, h2, q⟩
end

end Go.Proofs.Ytciciaikajdenaa
