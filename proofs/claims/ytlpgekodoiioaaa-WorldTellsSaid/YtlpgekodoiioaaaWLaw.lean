/- What the world's operations keep. No program in sight. -/
import Derived.Test.YtlpgekodoiioaaaWb
set_option linter.unusedSimpArgs false
set_option linter.unusedVariables false
namespace Go.Proofs.Ytlpgekodoiioaaa

theorem ok_mono {W : AW} {n m : Nat} (h : W.Ok n) (l : n ≤ m) : W.Ok m := ⟨h.few, h.texts, h.files, Nat.le_trans h.handles l, Nat.le_trans h.trace l⟩
theorem ok_goes {W : AW} {n : Nat} (h : W.Ok n) : W.goes.2.Ok n := by
  unfold AW.goes
  split
  · exact h
  · exact ⟨h.few, h.texts, h.files, h.handles, h.trace⟩
theorem goes_files (W : AW) : W.goes.2.files = W.files := by unfold AW.goes; split <;> rfl
theorem goes_handles (W : AW) : W.goes.2.handles = W.handles := by unfold AW.goes; split <;> rfl
theorem goes_trace (W : AW) : W.goes.2.trace = W.trace := by unfold AW.goes; split <;> rfl
theorem goes_file (W : AW) (i : Nat) : W.goes.2.file i = W.file i := by unfold AW.file; rw [goes_files]
theorem ok_note {W : AW} {n : Nat} (h : W.Ok n) (o : AOp) : (W.note o).Ok (n + 1) :=
  ⟨h.few, h.texts, h.files, Nat.le_succ_of_le h.handles, by have := h.trace; simp [AW.note]; omega⟩

theorem nameIdx_lt {name : ByteArray} : ∀ {l : List AFile} {i : Nat}, nameIdx name l = some i → ∃ f, l[i]? = some f ∧ f.name = name
  | [], i, h => by cases h
  | a :: l, i, h => by
    unfold nameIdx at h
    by_cases e : a.name = name
    · rw [if_pos e] at h; injection h with h; subst h; exact ⟨a, rfl, e⟩
    · rw [if_neg e] at h
      cases hq : nameIdx name l with
      | none => rw [hq] at h; cases h
      | some j =>
        rw [hq] at h
        injection h with h
        subst h
        obtain ⟨f, h1, h2⟩ := nameIdx_lt hq
        exact ⟨f, by simpa using h1, h2⟩

theorem ok_open {W : AW} {n : Nat} (h : W.Ok n) (name : ByteArray) : (W.open_ name).2.Ok (n + 1) := by
  unfold AW.open_
  split
  · rename_i i hg hi
    obtain ⟨f, hf, _⟩ := nameIdx_lt hi
    have h1 := (List.getElem?_eq_some_iff.1 hf).1
    have g := ok_goes h
    refine ⟨g.few, g.texts, fun x hx => ?_, ?_, ?_⟩
    · rcases List.mem_append.1 hx with hx | hx
      · have := h.files x hx
        rw [← goes_files W, ← goes_file W] at this
        exact this
      · simp at hx; subst hx
        rw [← goes_files W] at h1
        exact ⟨h1, Nat.zero_le _⟩
    · have := h.handles; simp [AW.note]; omega
    · have := g.trace; simp only [AW.note, List.length_append, List.length_singleton]; omega
  · exact ok_note (ok_goes h) _

theorem ok_set {W : AW} {n i : Nat} {x : AHandle} (h : W.Ok n) (hx : x.file < W.files.length ∧ x.pos ≤ (W.file x.file).text.size) : (W.setHandle i x).Ok n :=
  ⟨h.few, h.texts, fun y hy => by
    rcases List.mem_or_eq_of_mem_set hy with hy | hy
    · exact h.files y hy
    · subst hy; exact hx, by simpa [AW.setHandle] using h.handles, h.trace⟩

theorem lineOf_len : ∀ l : List UInt8, (lineOf l).1.length + (if (lineOf l).2 then 1 else 0) ≤ l.length
  | [] => by simp [lineOf]
  | b :: l => by
    have := lineOf_len l
    unfold lineOf
    split
    · simp
    · simp only [List.length_cons]; omega

theorem wrong_handle {W : AW} {x : Int} (hw : ¬ W.wrong x ≠ 0) : ∃ i : Nat, x = i ∧ i < W.handles.length ∧ W.handles[i]? = some (W.handle i) ∧ (W.handle i).shut = false := wrong_zero (by simpa using hw)

theorem ok_read {W : AW} {n : Nat} (h : W.Ok n) (x : Int) : (W.read x).2.Ok (n + 1) := by
  unfold AW.read
  split
  · exact ok_mono h (Nat.le_succ _)
  · rename_i hw
    obtain ⟨i, rfl, hi, hx, hs⟩ := wrong_handle hw
    obtain ⟨h1, h2⟩ := h.files _ (List.mem_of_getElem? hx)
    split
    · exact ok_note (ok_goes h) _
    · simp only
      split
      · exact ok_note (ok_goes h) _
      · refine ok_note (ok_set (ok_goes h) ?_) _
        simp only [Int.toNat_natCast]
        rw [goes_files, goes_file]
        refine ⟨h1, ?_⟩
        have := lineOf_len ((W.file (W.handle i).file).text.toList.drop (W.handle i).pos)
        rw [List.length_drop] at this
        have e : (W.file (W.handle i).file).text.toList.length = (W.file (W.handle i).file).text.size := by rw [Go.Lib.toList_data, ← Go.Lib.size_eq]
        omega

theorem file_set {W : AW} {i j : Nat} {f : AFile} (hi : i < W.files.length) : ({ W with files := W.files.set i f } : AW).file j = if j = i then f else W.file j := by
  unfold AW.file
  simp only [List.getD_eq_getElem?_getD]
  by_cases e : j = i
  · subst e; rw [List.getElem?_set_self hi, if_pos rfl]; rfl
  · rw [List.getElem?_set_ne (Ne.symm e), if_neg e]

theorem ok_write {W : AW} {n : Nat} (h : W.Ok n) (x : Int) (s : ByteArray) : (W.write x s).2.Ok (n + 1) := by
  unfold AW.write
  split
  · exact ok_mono h (Nat.le_succ _)
  · rename_i hw
    obtain ⟨i, rfl, hi, hx, hs⟩ := wrong_handle hw
    obtain ⟨h1, h2⟩ := h.files _ (List.mem_of_getElem? hx)
    simp only [Int.toNat_natCast]
    refine ok_note ?_ _
    split
    · rename_i hok
      rw [Bool.and_eq_true, decide_eq_true_eq] at hok
      have g := ok_goes h
      refine ⟨by simpa using h.few, fun f hf => ?_, fun y hy => ?_, g.handles, g.trace⟩
      · rcases List.mem_or_eq_of_mem_set hf with hf | hf
        · exact h.texts f hf
        · subst hf; simp only [ByteArray.size_append]; omega
      · have hy : y ∈ W.handles := by simpa [goes_handles] using hy
        obtain ⟨k1, k2⟩ := h.files y hy
        refine ⟨by simpa using k1, ?_⟩
        have e := file_set (W := W.goes.2) (i := (W.handle i).file) (j := y.file) (f := { W.file (W.handle i).file with text := (W.file (W.handle i).file).text ++ s }) (by rw [goes_files]; exact h1)
        rw [goes_files] at e
        rw [e]
        split
        · rename_i e2; rw [e2] at k2; simp only [ByteArray.size_append]; omega
        · rw [goes_file]; exact k2
    · exact ok_goes h

theorem ok_shut {W V : AW} {n i : Nat} (h : V.Ok n) (hf : V.files = W.files) (hx : W.handles[i]? = some (W.handle i)) (hw : W.Ok n) : (V.setHandle i { W.handle i with shut := true }).Ok n := by
  obtain ⟨h1, h2⟩ := hw.files _ (List.mem_of_getElem? hx)
  refine ok_set h ⟨by rw [hf]; exact h1, ?_⟩
  unfold AW.file at h2 ⊢
  rw [hf]; exact h2

theorem ok_close {W : AW} {n : Nat} (h : W.Ok n) (x : Int) : (W.close x).2.Ok (n + 1) := by
  unfold AW.close
  split
  · exact ok_mono h (Nat.le_succ _)
  · rename_i hw
    obtain ⟨i, rfl, hi, hx, hs⟩ := wrong_handle hw
    exact ok_note (ok_shut (ok_goes h) (goes_files W) hx h) _

theorem ok_drop {W : AW} {n : Nat} (h : W.Ok n) (x : Int) : (W.drop x).2.Ok n := by
  unfold AW.drop
  split
  · exact h
  · rename_i hw
    obtain ⟨i, rfl, hi, hx, hs⟩ := wrong_handle hw
    exact ok_shut h rfl hx h

structure ADo where
  kind : Int
  h : Int
  s : ByteArray

noncomputable def doW (W : AW) (x : ADo) : AW :=
  if x.kind = 0 then (W.open_ x.s).2 else if x.kind = 1 then (W.read x.h).2 else if x.kind = 2 then (W.write x.h x.s).2 else if x.kind = 3 then (W.close x.h).2 else if x.kind = 4 then (W.drop x.h).2 else W
noncomputable def runW (W : AW) (l : List ADo) : AW := l.foldl doW W

theorem ok_step {W : AW} {n : Nat} (h : W.Ok n) (x : ADo) : (doW W x).Ok (n + 1) := by
  unfold doW
  split
  · exact ok_open h _
  · split
    · exact ok_read h _
    · split
      · exact ok_write h _ _
      · split
        · exact ok_close h _
        · split
          · exact ok_mono (ok_drop h _) (Nat.le_succ _)
          · exact ok_mono h (Nat.le_succ _)
theorem ok_run {n : Nat} : ∀ {l : List ADo} {W : AW} {n : Nat}, W.Ok n → (runW W l).Ok (n + l.length)
  | [], _, _, h => h
  | x :: l, W, n, h => by
    have := ok_run (n := n) (l := l) (ok_step h x)
    rw [show n + (x :: l).length = n + 1 + l.length by simp; omega]
    exact this
theorem runW_snoc {W : AW} {l : List ADo} {k : Nat} {x : ADo} (h : l[k]? = some x) : runW W (l.take (k + 1)) = doW (runW W (l.take k)) x := by
  unfold runW
  rw [List.take_add_one, h, List.foldl_append]; rfl
theorem ok_new {files : List AFile} {fails : List Bool} (h : NewOk files) : (⟨files, fails, [], []⟩ : AW).Ok 0 :=
  ⟨h.1, fun f hf => by
    obtain ⟨k, hk⟩ := List.getElem?_of_mem hf
    exact (h.2 k f hk).1, fun x hx => by simp at hx, Nat.le_refl _, Nat.le_refl _⟩
end Go.Proofs.Ytlpgekodoiioaaa
