/- slices.IndexFunc over the files, by a name. -/
import Derived.Test.YtlpgekodoiioaaaA8
set_option linter.unusedSimpArgs false
set_option linter.unusedVariables false
namespace Go.Proofs.Ytlpgekodoiioaaa
open Go.RowKit Classical

theorem str_eq (a b : ByteArray) : (a.toList == b.toList) = decide (a = b) := by
  by_cases q : a = b
  · subst q; simp
  · rw [decide_eq_false q]
    simp only [beq_eq_false_iff_ne]
    intro r
    rw [Lib.toList_data, Lib.toList_data] at r
    exact q (by rw [← Lib.mk_data a, ← Lib.mk_data b, r])

section
variable {W0 w : World} {L : List HProp} {c : Nat} {name : ByteArray}

set_option maxRecDepth 100000 in
theorem cl_c (h : St W0 w (cellsB c #[.string name] 9 :: L)) (f : AFile) : Calls Try.prog 41 #[.agg #[.string f.name, .string f.text], .pointer (some ⟨c, 0, none⟩)] w fun e w' =>
    e = .returned (.bool (decide (f.name = name))) ∧ St W0 w' (cellsB c #[.string name] 9 :: L) := by
  have S := h.allocC #[.string f.name, .string f.text] 62
  have c0 := S.cell
  have d0 := (S.pull 1).cell
  have HS := Lib.hid S
  clear h S
  rw [← str_eq]
  go_enter Try.func41, Try.ntmps41
  go_wp2
  go_ret
  exact ⟨rfl, HS.out.tail⟩

/-- The place of a name from i on, -1 for none. -/
noncomputable def idxI (name : ByteArray) (l : List AFile) : Int := match nameIdx name l with
  | some j => j
  | none => -1

theorem nameIdx_take (name : ByteArray) : ∀ (l : List AFile) (k : Nat) (f : AFile), l[k]? = some f → f.name = name → (∀ g ∈ l.take k, g.name ≠ name) → nameIdx name l = some k
  | [], k, f, h, _, _ => by simp at h
  | a :: l, 0, f, h, e, _ => by
    simp at h; subst h
    unfold nameIdx
    rw [if_pos e]
  | a :: l, k + 1, f, h, e, n => by
    have h1 := nameIdx_take name l k f (by simpa using h) e (fun g hg => n g (by simp [hg]))
    unfold nameIdx
    rw [if_neg (n a (by simp)), h1]
    rfl

theorem nameIdx_none (name : ByteArray) : ∀ (l : List AFile), (∀ g ∈ l, g.name ≠ name) → nameIdx name l = none
  | [], _ => rfl
  | a :: l, n => by
    unfold nameIdx
    rw [if_neg (n a (by simp)), nameIdx_none name l (fun g hg => n g (by simp [hg]))]
    rfl

def IdxRel (W0 : World) (L : List HProp) (c : Nat) (name : ByteArray) (vf : Value) (fs : List AFile) (i : Value) (wr : World) : Prop :=
  ∃ k : Nat, k ≤ fs.length ∧ i = .int .i64 k ∧ (∀ g ∈ fs.take k, g.name ≠ name) ∧ St W0 wr (ownS 62 2 vf fs.length (fs.flatMap fCells) :: cellsB c #[.string name] 9 :: L)

set_option maxRecDepth 100000 in
theorem idx_c {vf : Value} {fs : List AFile} (h : St W0 w (ownS 62 2 vf fs.length (fs.flatMap fCells) :: cellsB c #[.string name] 9 :: L)) (hn : fs.length ≤ 100000) :
    Calls Try.prog 40 #[vf, .func (.func 41) #[] #[.pointer (some ⟨c, 0, none⟩)]] w fun e w' =>
      e = .returned (.int .i64 (idxI name fs)) ∧ St W0 w' (ownS 62 2 vf fs.length (fs.flatMap fCells) :: cellsB c #[.string name] 9 :: L) := by
  obtain ⟨a, cap, rfl, _⟩ := h.own_form
  have HS := Lib.hid h
  clear h
  go_enter Try.func40, Try.ntmps40
  go_wp2
  go_loopw [8] (fun i wr => IdxRel W0 L c name (.slice a fs.length cap) fs i wr) (fun i _ => fs.length - (intOf i).toNat)
  case atStart => exact ⟨0, Nat.zero_le _, rfl, by simp, HS.out⟩
  case round =>
    obtain ⟨k, hk, rfl, hall, S⟩ := hrel
    clear HS
    by_cases hlt : k < fs.length
    · obtain ⟨f, hf⟩ : ∃ f, fs[k]? = some f := ⟨_, List.getElem?_eq_getElem hlt⟩
      obtain ⟨hl, hc⟩ := St.own_cases S
      obtain ⟨bf, fcap, frest, e0, m1, m2, m3, T⟩ := hc.resolve_left (fun q => by have := q.2.1; omega)
      injection e0 with e1 _ e3
      subst e1 e3
      obtain ⟨c0, c1⟩ := file_cells T hf
      have CL := Lib.hid (cl_c (S.pull 1) f)
      have HALL := Lib.hid hall
      have HF := Lib.hid hf
      clear S T hf hall hl hc m1 m2 m3
      go_wp2_with (go_at_call 41; refine CL.out.mono ?_; rintro e w' ⟨rfl, S⟩; have HS := Lib.hid (S.pull 1); clear S)
      case roundEnd =>
        rename_i hne
        refine ⟨⟨k + 1, by omega, by go_num, ?_, HS.out⟩, by simp [intOf]; omega⟩
        intro g hg
        rw [List.take_add_one, HF.out] at hg
        rcases List.mem_append.1 hg with h | h
        · exact HALL.out g h
        · simp at h; subst h; exact hne
      rename_i heq
      go_ret
      refine ⟨?_, HS.out⟩
      unfold idxI
      rw [nameIdx_take name fs k f HF.out heq HALL.out]
      rfl
    · go_wp2_with fail
      have hk' : k = fs.length := by omega
      subst hk'
      go_ret
      rw [List.take_length] at hall
      refine ⟨?_, S⟩
      unfold idxI
      rw [nameIdx_none name fs hall]
      rfl
end
end Go.Proofs.Ytlpgekodoiioaaa
