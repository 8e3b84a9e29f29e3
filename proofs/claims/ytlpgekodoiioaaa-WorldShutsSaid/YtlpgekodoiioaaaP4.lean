/- WorldShuts, as a plain law. No program in sight. -/
import Derived.Test.YtlpgekodoiioaaaWLaw
set_option linter.unusedSimpArgs false
set_option linter.unusedVariables false
namespace Go.Proofs.Ytlpgekodoiioaaa

def AW.flags (W : AW) : List Bool := W.handles.map (·.shut)
def wrongF (l : List Bool) (x : Int) : Int := if x < 0 ∨ (l.length : Int) ≤ x then 4 else match l[x.toNat]? with
  | some b => if b then 220 else 0
  | none => 4
theorem wrong_flags (W : AW) (x : Int) : W.wrong x = wrongF W.flags x := by
  unfold AW.wrong wrongF AW.flags
  simp only [List.length_map, List.getElem?_map]
  cases W.handles[x.toNat]? <;> rfl
theorem wrong_three (W : AW) (x : Int) : W.wrong x = 0 ∨ W.wrong x = 4 ∨ W.wrong x = 220 := by
  unfold AW.wrong
  split
  · exact .inr (.inl rfl)
  · split
    · split
      · exact .inr (.inr rfl)
      · exact .inl rfl
    · exact .inr (.inl rfl)
theorem wrong_220 {W : AW} {x : Int} : W.wrong x = 220 ↔ ∃ i : Nat, x = i ∧ W.flags[i]? = some true := by
  rw [wrong_flags]
  unfold wrongF
  constructor
  · intro h
    split at h
    · omega
    · rename_i hx
      obtain ⟨i, rfl⟩ : ∃ i : Nat, x = i := ⟨x.toNat, by omega⟩
      refine ⟨i, rfl, ?_⟩
      simp only [Int.toNat_natCast] at h
      split at h
      · rename_i b hb
        cases b
        · simp at h
        · exact hb
      · omega
  · rintro ⟨i, rfl, h⟩
    have := (List.getElem?_eq_some_iff.1 h).1
    rw [if_neg (by omega)]
    simp only [Int.toNat_natCast, h]
    rfl

theorem goes_flags (W : AW) : W.goes.2.flags = W.flags := by unfold AW.flags; rw [goes_handles]
theorem note_flags (W : AW) (o : AOp) : (W.note o).flags = W.flags := rfl
theorem set_flags {W V : AW} {i : Nat} {x : AHandle} (h : V.handles = W.handles) : (V.setHandle i x).flags = W.flags.set i x.shut := by
  unfold AW.flags AW.setHandle; simp [h, List.map_set]
theorem set_flags_same {W V : AW} {i : Nat} {x : AHandle} (h : V.handles = W.handles) (hi : W.handles[i]? = some (W.handle i)) (hx : x.shut = (W.handle i).shut) : (V.setHandle i x).flags = W.flags := by
  rw [set_flags h]
  apply List.ext_getElem?
  intro j
  by_cases e : i = j
  · subst e
    have hlt := (List.getElem?_eq_some_iff.1 hi).1
    rw [List.getElem?_set_self (by simpa [AW.flags] using hlt)]
    simp [AW.flags, hi, hx]
  · rw [List.getElem?_set_ne e]

theorem read_flags (W : AW) (x : Int) : (W.read x).2.flags = W.flags := by
  unfold AW.read
  split
  · rfl
  · rename_i hw
    obtain ⟨i, rfl, hi, hx, hs⟩ := wrong_handle hw
    split
    · rw [note_flags, goes_flags]
    · simp only
      split
      · rw [note_flags, goes_flags]
      · rw [note_flags]
        exact set_flags_same (goes_handles W) hx rfl
theorem write_flags (W : AW) (x : Int) (s : ByteArray) : (W.write x s).2.flags = W.flags := by
  unfold AW.write
  split
  · rfl
  · simp only
    rw [note_flags]
    split
    · exact goes_flags W
    · exact goes_flags W
theorem close_flags (W : AW) (x : Int) : (W.close x).2.flags = (W.drop x).2.flags := by
  unfold AW.close AW.drop
  split
  · rfl
  · rw [note_flags, set_flags (goes_handles W), set_flags rfl]
theorem drop_flags {W : AW} {x : Int} (h : W.wrong x ≠ 4) : (W.drop x).2.wrong x = 220 := by
  unfold AW.drop
  split
  · rename_i hw
    rcases wrong_three W x with e | e | e
    · exact absurd e hw
    · exact absurd e h
    · exact e
  · rename_i hw
    obtain ⟨i, rfl, hi, hx, hs⟩ := wrong_handle hw
    rw [wrong_220]
    refine ⟨i, rfl, ?_⟩
    rw [set_flags rfl, Int.toNat_natCast, List.getElem?_set_self (by simpa [AW.flags] using hi)]

theorem open_flags (W : AW) (s : ByteArray) : ∃ t, (W.open_ s).2.flags = W.flags ++ t := by
  unfold AW.open_
  split
  · rw [note_flags]; exact ⟨[false], by simp [AW.flags]⟩
  · rw [note_flags, goes_flags]; exact ⟨[], by simp⟩

theorem set_true {l : List Bool} {i j : Nat} (h : l[i]? = some true) : (l.set j true)[i]? = some true := by
  by_cases e : j = i
  · subst e; rw [List.getElem?_set_self (List.getElem?_eq_some_iff.1 h).1]
  · rw [List.getElem?_set_ne e]; exact h

theorem drop_true {W : AW} {x : Int} {i : Nat} (h : W.flags[i]? = some true) : (W.drop x).2.flags[i]? = some true := by
  unfold AW.drop
  split
  · exact h
  · rw [set_flags rfl]; exact set_true h

theorem shut_step {W : AW} {x : Int} (h : W.wrong x = 220) (y : ADo) : (doW W y).wrong x = 220 := by
  rw [wrong_220] at h ⊢
  obtain ⟨i, rfl, h⟩ := h
  refine ⟨i, rfl, ?_⟩
  unfold doW
  split
  · obtain ⟨t, e⟩ := open_flags W y.s
    rw [e, List.getElem?_append_left (List.getElem?_eq_some_iff.1 h).1]; exact h
  · split
    · rw [read_flags]; exact h
    · split
      · rw [write_flags]; exact h
      · split
        · rw [close_flags]; exact drop_true h
        · split
          · exact drop_true h
          · exact h
theorem shut_run {x : Int} : ∀ {l : List ADo} {W : AW}, W.wrong x = 220 → (runW W l).wrong x = 220
  | [], _, h => h
  | y :: l, W, h => shut_run (l := l) (shut_step h y)

theorem drop_trace (W : AW) (x : Int) : (W.drop x).2.trace = W.trace := by unfold AW.drop; split <;> rfl
theorem drop_wrong (W : AW) (x : Int) : (W.drop x).1 = W.wrong x := by unfold AW.drop; split <;> simp_all
theorem read_bad {W : AW} {x : Int} (h : W.wrong x ≠ 0) : W.read x = ((0, emptyB, W.wrong x), W) := by unfold AW.read; rw [if_pos h]
theorem write_bad {W : AW} {x : Int} {s : ByteArray} (h : W.wrong x ≠ 0) : W.write x s = ((false, W.wrong x), W) := by unfold AW.write; rw [if_pos h]
theorem close_bad {W : AW} {x : Int} (h : W.wrong x ≠ 0) : W.close x = ((false, W.wrong x), W) := by unfold AW.close; rw [if_pos h]
theorem drop_bad {W : AW} {x : Int} (h : W.wrong x ≠ 0) : W.drop x = (W.wrong x, W) := by unfold AW.drop; rw [if_pos h]
theorem read_err {W : AW} {x : Int} (h : W.wrong x = 0) : (W.read x).1.2.2 = 0 := by
  unfold AW.read; rw [if_neg (by simpa using h)]
  split
  · rfl
  · simp only; split <;> rfl
theorem write_err {W : AW} {x : Int} {s : ByteArray} (h : W.wrong x = 0) : (W.write x s).1.2 = 0 := by unfold AW.write; rw [if_neg (by simpa using h)]
theorem close_err {W : AW} {x : Int} (h : W.wrong x = 0) : (W.close x).1.2 = 0 := by unfold AW.close; rw [if_neg (by simpa using h)]
theorem read_wrong (W : AW) (x y : Int) : (W.read x).2.wrong y = W.wrong y := by rw [wrong_flags, read_flags, ← wrong_flags]
theorem write_wrong (W : AW) (x y : Int) (s : ByteArray) : (W.write x s).2.wrong y = W.wrong y := by rw [wrong_flags, write_flags, ← wrong_flags]

/-- The errors of a read, a write and a close behind one another. -/
theorem three_same (W : AW) (x : Int) (s : ByteArray) : (W.read x).1.2.2 = W.wrong x ∧ ((W.read x).2.write x s).1.2 = W.wrong x ∧ (((W.read x).2.write x s).2.close x).1.2 = W.wrong x := by
  by_cases h : W.wrong x = 0
  · have h1 := (read_wrong W x x).trans h
    have h2 := (write_wrong (W.read x).2 x x s).trans h1
    rw [read_err h, write_err h1, close_err h2, h]
    exact ⟨rfl, rfl, rfl⟩
  · rw [read_bad h]
    simp only
    rw [write_bad h]
    simp only
    rw [close_bad h]
    refine ⟨?_, ?_, ?_⟩ <;> first | rfl | trivial
theorem three_shut {W : AW} {x : Int} (s : ByteArray) (h : W.wrong x = 220) : (((W.read x).2.write x s).2.close x).2 = W := by
  have h0 : W.wrong x ≠ 0 := by omega
  rw [read_bad h0]
  simp only
  rw [write_bad h0]
  simp only
  rw [close_bad h0]
theorem open_num {W : AW} {x : Int} (s : ByteArray) (h : W.wrong x = 220) : ((W.open_ s).1.2 = false ∧ (W.open_ s).1.1 = 0) ∨ x < (W.open_ s).1.1 := by
  obtain ⟨i, rfl, hi⟩ := wrong_220.1 h
  have := (List.getElem?_eq_some_iff.1 hi).1
  simp [AW.flags] at this
  unfold AW.open_
  split
  · right; simp only; omega
  · left; simp only; exact ⟨trivial, trivial⟩
end Go.Proofs.Ytlpgekodoiioaaa
