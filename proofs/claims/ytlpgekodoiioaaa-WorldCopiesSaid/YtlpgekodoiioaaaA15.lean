/- New: ContainsFunc, by the name of a file. -/
import Derived.Test.YtlpgekodoiioaaaA14
set_option linter.unusedSimpArgs false
set_option linter.unusedVariables false
namespace Go.Proofs.Ytlpgekodoiioaaa
open Go.RowKit Classical

section
variable {W0 w : World} {L : List HProp} {c : Nat} {x : AFile}

set_option maxRecDepth 100000 in
theorem cl33_c (h : St W0 w (cellsB c #[.string x.name, .string x.text] 62 :: L)) (f : AFile) : Calls Try.prog 33 #[.agg #[.string f.name, .string f.text], .pointer (some ⟨c, 0, none⟩)] w fun e w' =>
    e = .returned (.bool (decide (f.name = x.name))) ∧ St W0 w' (cellsB c #[.string x.name, .string x.text] 62 :: L) ∧ Below w.heap.size w w' := by
  have S := h.allocC #[.string f.name, .string f.text] 62
  have hb := (Below.refl _ w).alloc (Nat.le_refl _) (.cells #[.string f.name, .string f.text] 62)
  have c0 := S.cell
  have d0 := (S.pull 1).cell
  have HS := Lib.hid (And.intro S hb)
  clear h S hb
  rw [← str_eq]
  go_enter Try.func33, Try.ntmps33
  go_wp2
  go_ret
  exact ⟨rfl, HS.out.1.tail, HS.out.2⟩

def Idx33Rel (W0 w0 : World) (L : List HProp) (c : Nat) (x : AFile) (v : Value) (fs : List AFile) (i : Value) (wr : World) : Prop :=
  ∃ k : Nat, k ≤ fs.length ∧ i = .int .i64 k ∧ (∀ g ∈ fs.take k, g.name ≠ x.name) ∧ St W0 wr (cellsB c #[.string x.name, .string x.text] 62 :: L) ∧ rd wr 2 v fs.length (fs.flatMap fCells) ∧ Below w0.heap.size w0 wr

theorem rd_file {b off cap : Nat} {fs : List AFile} {k : Nat} {f : AFile} (h : rd w 2 (.slice (some ⟨b, off, none⟩) fs.length cap) fs.length (fs.flatMap fCells)) (hf : fs[k]? = some f) :
    w.cell? ⟨b, off + k * 2, none⟩ = some (.string f.name) ∧ w.cell? ⟨b, off + k * 2 + 1, none⟩ = some (.string f.text) := by
  obtain ⟨_, ⟨_, h0⟩ | ⟨b', off', cap', e, _, _, hc⟩⟩ := h
  · have := (List.getElem?_eq_some_iff.1 hf).1
    omega
  · injection e with e1 _ e3
    injection e1 with e1
    injection e1 with e1 e2 _
    subst e1 e2 e3
    refine ⟨hc _ _ ?_, ?_⟩
    · have := flat_get' fCells_len fs k 0 f hf (by omega)
      rw [Nat.add_zero] at this
      rw [this]; rfl
    · have := hc (k * 2 + 1) (.string f.text) (by rw [flat_get' fCells_len fs k 1 f hf (by omega)]; rfl)
      rwa [← Nat.add_assoc] at this

set_option maxRecDepth 100000 in
theorem idx33_c {v : Value} {fs : List AFile} (h : St W0 w (cellsB c #[.string x.name, .string x.text] 62 :: L)) (hr : rd w 2 v fs.length (fs.flatMap fCells)) (hn : fs.length ≤ 100000) :
    Calls Try.prog 40 #[v, .func (.func 33) #[] #[.pointer (some ⟨c, 0, none⟩)]] w fun e w' =>
      e = .returned (.int .i64 (idxI x.name fs)) ∧ St W0 w' (cellsB c #[.string x.name, .string x.text] 62 :: L) ∧ Below w.heap.size w w' := by
  obtain ⟨a, cap, rfl⟩ : ∃ a cap, v = .slice a fs.length cap := by
    obtain ⟨_, ⟨⟨a, c, e⟩, h0⟩ | ⟨b, off, cap, e, _⟩⟩ := hr
    · exact ⟨a, c, by rw [h0]; exact e⟩
    · exact ⟨_, _, e⟩
  have HS := Lib.hid (And.intro h hr)
  clear h hr
  go_enter Try.func40, Try.ntmps40
  go_wp2
  go_loopw [8] (fun i wr => Idx33Rel W0 w L c x (.slice a fs.length cap) fs i wr) (fun i _ => fs.length - (intOf i).toNat)
  case atStart => exact ⟨0, Nat.zero_le _, rfl, by simp, HS.out.1, HS.out.2, Below.refl _ _⟩
  case round =>
    obtain ⟨k, hk, rfl, hall, S, R, hb⟩ := hrel
    clear HS
    by_cases hlt : k < fs.length
    · obtain ⟨f, hf⟩ : ∃ f, fs[k]? = some f := ⟨_, List.getElem?_eq_getElem hlt⟩
      obtain ⟨b, off, rfl⟩ : ∃ b off, a = some ⟨b, off, none⟩ := by
        obtain ⟨_, ⟨_, h0⟩ | ⟨b, off, cap, e, _⟩⟩ := R
        · omega
        · injection e with e1 _ _; exact ⟨b, off, e1⟩
      obtain ⟨c0, c1⟩ := rd_file R hf
      have CL := Lib.hid (cl33_c S f)
      have HALL := Lib.hid hall
      have HF := Lib.hid hf
      have HB := Lib.hid (And.intro hb R)
      clear S R hf hall hb
      go_wp2_with (go_at_call 33; refine CL.out.mono ?_; rintro e w' ⟨rfl, S, hb⟩; have HS := Lib.hid (And.intro S hb); clear S hb)
      case roundEnd =>
        rename_i hne
        refine ⟨⟨k + 1, by omega, by go_num, ?_, HS.out.1, HB.out.2.mono HS.out.2, HB.out.1.trans (HS.out.2.mono HB.out.1.size)⟩, by simp [intOf]; omega⟩
        intro g hg
        rw [List.take_add_one, HF.out] at hg
        rcases List.mem_append.1 hg with h | h
        · exact HALL.out g h
        · simp at h; subst h; exact hne
      rename_i heq
      go_ret
      refine ⟨?_, HS.out.1, HB.out.1.trans (HS.out.2.mono HB.out.1.size)⟩
      unfold idxI
      rw [nameIdx_take x.name fs k f HF.out heq HALL.out]
      rfl
    · go_wp2_with fail
      have hk' : k = fs.length := by omega
      subst hk'
      go_ret
      rw [List.take_length] at hall
      refine ⟨?_, S, hb⟩
      unfold idxI
      rw [nameIdx_none x.name fs hall]
      rfl

set_option maxRecDepth 100000 in
theorem has32_c {v : Value} {fs : List AFile} (h : St W0 w (cellsB c #[.string x.name, .string x.text] 62 :: L)) (hr : rd w 2 v fs.length (fs.flatMap fCells)) (hn : fs.length ≤ 100000) :
    Calls Try.prog 32 #[v, .func (.func 33) #[] #[.pointer (some ⟨c, 0, none⟩)]] w fun e w' =>
      e = .returned (.bool (decide (0 ≤ idxI x.name fs))) ∧ St W0 w' (cellsB c #[.string x.name, .string x.text] 62 :: L) ∧ Below w.heap.size w w' := by
  have C := Lib.hid (idx33_c h hr hn)
  clear h hr
  go_enter Try.func32, Try.ntmps32
  go_wp2_with (go_at_call 40; refine C.out.mono ?_; rintro e w' ⟨rfl, S, hb⟩; have HS := Lib.hid (And.intro S hb); clear S hb)
  go_ret
  exact ⟨rfl, HS.out⟩
end
end Go.Proofs.Ytlpgekodoiioaaa
