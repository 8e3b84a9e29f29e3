/- Wb: A9, A10, A11, A12, A13, A14, A15, A16 in one. -/
import Derived.Test.YtlpgekodoiioaaaWa
set_option linter.unusedSimpArgs false
set_option linter.unusedVariables false
/- slices.IndexFunc over the files, by a name. -/
namespace Go.Proofs.Ytlpgekodoiioaaa
open Go.RowKit Classical

theorem str_eq (a b : ByteArray) : (a.toList == b.toList) = decide (a = b) := by
  by_cases q : a = b
  · subst q; simp
  · rw [decide_eq_false q]
    simp only [beq_eq_false_iff_ne]
    intro r
    rw [Lib.toList_data, Lib.toList_data] at r
    exact q (by rw [← Lib.mk_data a, ← Lib.mk_data b, r])

section
variable {W0 w : World} {L : List HProp} {c : Nat} {name : ByteArray}

set_option maxRecDepth 100000 in
theorem cl_c (h : St W0 w (cellsB c #[.string name] 9 :: L)) (f : AFile) : Calls Try.prog 41 #[.agg #[.string f.name, .string f.text], .pointer (some ⟨c, 0, none⟩)] w fun e w' =>
    e = .returned (.bool (decide (f.name = name))) ∧ St W0 w' (cellsB c #[.string name] 9 :: L) := by
  have S := h.allocC #[.string f.name, .string f.text] 62
  have c0 := S.cell
  have d0 := (S.pull 1).cell
  have HS := Lib.hid S
  clear h S
  rw [← str_eq]
  go_enter Try.func41, Try.ntmps41
  go_wp2
  go_ret
  exact ⟨rfl, HS.out.tail⟩

/-- The place of a name from i on, -1 for none. -/
noncomputable def idxI (name : ByteArray) (l : List AFile) : Int := match nameIdx name l with
  | some j => j
  | none => -1

theorem nameIdx_take (name : ByteArray) : ∀ (l : List AFile) (k : Nat) (f : AFile), l[k]? = some f → f.name = name → (∀ g ∈ l.take k, g.name ≠ name) → nameIdx name l = some k
  | [], k, f, h, _, _ => by simp at h
  | a :: l, 0, f, h, e, _ => by
    simp at h; subst h
    unfold nameIdx
    rw [if_pos e]
  | a :: l, k + 1, f, h, e, n => by
    have h1 := nameIdx_take name l k f (by simpa using h) e (fun g hg => n g (by simp [hg]))
    unfold nameIdx
    rw [if_neg (n a (by simp)), h1]
    rfl

theorem nameIdx_none (name : ByteArray) : ∀ (l : List AFile), (∀ g ∈ l, g.name ≠ name) → nameIdx name l = none
  | [], _ => rfl
  | a :: l, n => by
    unfold nameIdx
    rw [if_neg (n a (by simp)), nameIdx_none name l (fun g hg => n g (by simp [hg]))]
    rfl

def IdxRel (W0 : World) (L : List HProp) (c : Nat) (name : ByteArray) (vf : Value) (fs : List AFile) (i : Value) (wr : World) : Prop :=
  ∃ k : Nat, k ≤ fs.length ∧ i = .int .i64 k ∧ (∀ g ∈ fs.take k, g.name ≠ name) ∧ St W0 wr (ownS 62 2 vf fs.length (fs.flatMap fCells) :: cellsB c #[.string name] 9 :: L)

set_option maxRecDepth 100000 in
theorem idx_c {vf : Value} {fs : List AFile} (h : St W0 w (ownS 62 2 vf fs.length (fs.flatMap fCells) :: cellsB c #[.string name] 9 :: L)) (hn : fs.length ≤ 100000) :
    Calls Try.prog 40 #[vf, .func (.func 41) #[] #[.pointer (some ⟨c, 0, none⟩)]] w fun e w' =>
      e = .returned (.int .i64 (idxI name fs)) ∧ St W0 w' (ownS 62 2 vf fs.length (fs.flatMap fCells) :: cellsB c #[.string name] 9 :: L) := by
  obtain ⟨a, cap, rfl, _⟩ := h.own_form
  have HS := Lib.hid h
  clear h
  go_enter Try.func40, Try.ntmps40
  go_wp2
  go_loopw [8] (fun i wr => IdxRel W0 L c name (.slice a fs.length cap) fs i wr) (fun i _ => fs.length - (intOf i).toNat)
  case atStart => exact ⟨0, Nat.zero_le _, rfl, by simp, HS.out⟩
  case round =>
    obtain ⟨k, hk, rfl, hall, S⟩ := hrel
    clear HS
    by_cases hlt : k < fs.length
    · obtain ⟨f, hf⟩ : ∃ f, fs[k]? = some f := ⟨_, List.getElem?_eq_getElem hlt⟩
      obtain ⟨hl, hc⟩ := St.own_cases S
      obtain ⟨bf, fcap, frest, e0, m1, m2, m3, T⟩ := hc.resolve_left (fun q => by have := q.2.1; omega)
      injection e0 with e1 _ e3
      subst e1 e3
      obtain ⟨c0, c1⟩ := file_cells T hf
      have CL := Lib.hid (cl_c (S.pull 1) f)
      have HALL := Lib.hid hall
      have HF := Lib.hid hf
      clear S T hf hall hl hc m1 m2 m3
      go_wp2_with (go_at_call 41; refine CL.out.mono ?_; rintro e w' ⟨rfl, S⟩; have HS := Lib.hid (S.pull 1); clear S)
      case roundEnd =>
        rename_i hne
        refine ⟨⟨k + 1, by omega, by go_num, ?_, HS.out⟩, by simp [intOf]; omega⟩
        intro g hg
        rw [List.take_add_one, HF.out] at hg
        rcases List.mem_append.1 hg with h | h
        · exact HALL.out g h
        · simp at h; subst h; exact hne
      rename_i heq
      go_ret
      refine ⟨?_, HS.out⟩
      unfold idxI
      rw [nameIdx_take name fs k f HF.out heq HALL.out]
      rfl
    · go_wp2_with fail
      have hk' : k = fs.length := by omega
      subst hk'
      go_ret
      rw [List.take_length] at hall
      refine ⟨?_, S⟩
      unfold idxI
      rw [nameIdx_none name fs hall]
      rfl
end
end Go.Proofs.Ytlpgekodoiioaaa

/- Open. -/
namespace Go.Proofs.Ytlpgekodoiioaaa
open Go.RowKit

theorem open_no {W : AW} {name : ByteArray} {g : Bool} {fs : List Bool} (hg : goesB W.fails = (g, fs)) (h : g = false ∨ nameIdx name W.files = none) :
    W.open_ name = ((0, false), ({ W with fails := fs } : AW).note ⟨1, -1, name, emptyB, false⟩) := by
  unfold AW.open_
  rw [goes_eq, hg]
  rcases h with rfl | h
  · rfl
  · simp only [h]

theorem open_yes {W : AW} {name : ByteArray} {fs : List Bool} {i : Nat} (hg : goesB W.fails = (true, fs)) (h : nameIdx name W.files = some i) :
    W.open_ name = (((W.handles.length : Int), true), ({ W with fails := fs, handles := W.handles ++ [⟨i, 0, false⟩] } : AW).note ⟨1, W.handles.length, name, emptyB, true⟩) := by
  unfold AW.open_
  rw [goes_eq, hg]
  simp only [h]

theorem info86 : (Try.prog.info? 86).map (fun i => (i.zero, i.size, i.bytes)) = some (some (.agg #[.int .i64 0, .int .i64 0, .bool false]), 3, 24) := by kernel_rfl

section
variable {W0 w : World} {L : List HProp} {p n : Nat} {W : AW}

def OpenP (W0 : World) (L : List HProp) (p : Nat) (r : (Int × Bool) × AW) (e : Ending) (w' : World) : Prop :=
  e = .returned (.tuple #[.int .i64 r.1.1, .bool r.1.2]) ∧ St W0 w' (worldAt p r.2 :: L)

theorem one_hCells (o : AHandle) : ∀ u ∈ hCells o, u.oneCell' = true := by
  intro u hu
  simp only [hCells, List.mem_cons, List.not_mem_nil, or_false] at hu
  rcases hu with rfl | rfl | rfl <;> rfl

set_option maxRecDepth 100000 in
set_option maxHeartbeats 1000000 in
theorem open_c (h : St W0 w (worldAt p W :: L)) (ok : W.Ok n) (hn : n ≤ 100000) (name : ByteArray) :
    Calls Try.prog 15 #[.pointer (some ⟨p, 0, none⟩), .string name] w fun e w' => OpenP W0 L p (W.open_ name) e w' := by
  unfold OpenP
  have hhn : W.handles.length ≤ 100000 := Nat.le_trans ok.handles hn
  have htn : W.trace.length ≤ 100000 := Nat.le_trans ok.trace hn
  have hfn : W.files.length ≤ 100000 := Nat.le_trans ok.few (by omega)
  obtain ⟨g, fs, hgf⟩ : ∃ g fs, goesB W.fails = (g, fs) := ⟨_, _, rfl⟩
  obtain ⟨r, hr⟩ : ∃ r, r = W.open_ name := ⟨_, rfl⟩
  rw [← hr]
  obtain ⟨ix, hix⟩ : ∃ ix, nameIdx name W.files = ix := ⟨_, rfl⟩
  have HR := Lib.hid (And.intro hr (And.intro hgf hix))
  obtain ⟨z, hz⟩ : ∃ z, idxI name W.files = z := ⟨_, rfl⟩
  have HZ := Lib.hid hz
  have hz' : idxI name W.files = z := hz
  obtain ⟨vf, vb, vh, vt, S⟩ := h.world_open
  unfold worldL at S
  simp only [List.cons_append, List.nil_append] at S
  obtain ⟨ha, hcap, rfl, _⟩ := (S.pull 3).own_form
  -- [p, files, tail, handles, trace, L]
  have S := S.allocC #[Value.string name] 9
  have HS := Lib.hid S
  have hmf : ∀ (fn : Fn) (first cap : Array Value) (w : World), (Instr.makeFunc fn first cap).run Try.prog w = .ok (.func fn first cap) w := fun _ _ _ _ => rfl
  clear h ok hr hix hz S
  go_enter_defers Try.func15, Try.ntmps15
  go_upto_region 3 with fail
  generalize w.heap.size = c at HS ⊢
  refine abs_wp HS.out ?_
  clear HS
  intro w2 S
  have d0 := S.cell
  have S := S.allocC #[Value.int .u8 1, .int .i64 (-1), .string name, .string ⟨#[]⟩, .bool false] 68
  have HS := Lib.hid S
  clear S
  go_upto_region 5 with fail
  generalize w2.heap.size = B at HS ⊢
  refine abs_wp HS.out ?_
  clear HS d0
  intro w3 S
  -- [B, c, p, files, tail, handles, trace, L]
  have HG := Lib.hid (goes_o ((S.pull 4).pull 3))
  unfold GoesPost at HG
  rw [hgf] at HG
  clear S hgf
  -- behind goes: [p, tail, B, c, files, handles, trace, L]
  go_upto_region 6 with (go_at_call 39; refine HG.out.mono ?_; rintro e w4 ⟨rfl, vb2, S⟩; have HS3 := Lib.hid S; clear S)
  refine abs_wp HS3.out ?_
  clear HS3 HG
  intro w4 S
  have d0 := S.cell
  have IC := Lib.hid (idx_c ((S.pull 3).pull 4) hfn)
  rw [hz'] at IC
  clear S
  have key : (g = false ∨ ix = none) ∨ ∃ i, g = true ∧ ix = some i := by
    cases g with
    | false => exact .inl (.inl rfl)
    | true => cases ix with
      | none => exact .inl (.inr rfl)
      | some i => exact .inr ⟨i, rfl, rfl⟩
  rcases key with (rfl | rfl) | ⟨i, rfl, rfl⟩
  · go_wp2_with (go_at_call 40; refine IC.out.mono ?_; rintro e w5 ⟨rfl, S⟩; have HS5 := Lib.hid S; clear S)
    have hr := HR.out.1.trans (open_no HR.out.2.1 (.inl rfl))
    subst hr
    have X := HS5.out
    have T := (((((X.pull 4).pull 6).pull 6).pull 6).pull 4).pull 6
    have T2 := ((St.world_close (W := { W with fails := fs }) (L := _ :: _ :: L) (by unfold worldL; exact T)).pull 2).tail
    refine leaves_cons (f := 38) (args := #[.pointer (some ⟨p, 0, none⟩), .pointer (some ⟨B, 0, none⟩)]) (by simp) (by simp [go_sem]) ?_
    refine (note_d (o := ⟨1, -1, name, emptyB, false⟩) (T2.pull 1) htn .returning).mono ?_
    rintro e u' w6 ⟨rfl, rfl, S⟩
    refine ⟨.tuple #[.int .i64 0, .bool false], by simp [results, Try.results15, go_sem, emptyB], rfl, S⟩
  · have hz1 : z = -1 := by rw [← hz']; unfold idxI; rw [HR.out.2.2]
    subst hz1
    have HZ2 := Lib.hid hz'
    cases g with
    | false =>
      go_wp2_with (go_at_call 40; refine IC.out.mono ?_; rintro e w5 ⟨rfl, S⟩; have HS5 := Lib.hid S; clear S)
      have hr := HR.out.1.trans (open_no HR.out.2.1 (.inr HR.out.2.2))
      subst hr
      have X := HS5.out
      have T := (((((X.pull 4).pull 6).pull 6).pull 6).pull 4).pull 6
      have T2 := ((St.world_close (W := { W with fails := fs }) (L := _ :: _ :: L) (by unfold worldL; exact T)).pull 2).tail
      refine leaves_cons (f := 38) (args := #[.pointer (some ⟨p, 0, none⟩), .pointer (some ⟨B, 0, none⟩)]) (by simp) (by simp [go_sem]) ?_
      refine (note_d (o := ⟨1, -1, name, emptyB, false⟩) (T2.pull 1) htn .returning).mono ?_
      rintro e u' w6 ⟨rfl, rfl, S⟩
      refine ⟨.tuple #[.int .i64 0, .bool false], by simp [results, Try.results15, go_sem, emptyB], rfl, S⟩
    | true =>
      go_wp2_with (go_at_call 40; refine IC.out.mono ?_; rintro e w5 ⟨rfl, S⟩; have HS5 := Lib.hid S; clear S)
      have hr := HR.out.1.trans (open_no HR.out.2.1 (.inr HR.out.2.2))
      subst hr
      have X := HS5.out
      have T := (((((X.pull 4).pull 6).pull 6).pull 6).pull 4).pull 6
      have T2 := ((St.world_close (W := { W with fails := fs }) (L := _ :: _ :: L) (by unfold worldL; exact T)).pull 2).tail
      refine leaves_cons (f := 38) (args := #[.pointer (some ⟨p, 0, none⟩), .pointer (some ⟨B, 0, none⟩)]) (by simp) (by simp [go_sem]) ?_
      refine (note_d (o := ⟨1, -1, name, emptyB, false⟩) (T2.pull 1) htn .returning).mono ?_
      rintro e u' w6 ⟨rfl, rfl, S⟩
      refine ⟨.tuple #[.int .i64 0, .bool false], by simp [results, Try.results15, go_sem, emptyB], rfl, S⟩
  · have hz1 : z = i := by rw [← hz']; unfold idxI; rw [HR.out.2.2]
    subst hz1
    have hi0 : (0 : Int) ≤ (i : Int) := by omega
    have hil : ¬ ((i : Int) < 0) := by omega
    go_upto_region 9 with (go_at_call 40; refine IC.out.mono ?_; rintro e w5 ⟨rfl, S⟩; have HS5 := Lib.hid S; clear S)
    have hr := HR.out.1.trans (open_yes HR.out.2.1 HR.out.2.2)
    subst hr
    refine abs_wp HS5.out ?_
    clear HS5 IC d0
    intro w5 S
    -- [files, c, p, tail, B, handles, trace, L]
    have dp := (S.pull 2).cell
    have dB := (S.pull 4).cell
    have fB := (S.pull 4).free
    have S := ((S.pull 4).set 1 (.int .i64 W.handles.length)).set 4 (.bool true)
    simp only [List.setIfInBounds_toArray, List.set_cons_zero, List.set_cons_succ] at S
    have HS := Lib.hid S
    clear S
    go_upto_region 10 with fail
    refine abs_wp HS.out ?_
    clear HS dp dB fB
    intro w6 S
    -- [B, files, c, p, tail, handles, trace, L]
    have dp := (S.pull 3).cell
    have fp := (S.pull 3).free
    have S1 := S.allocC #[Value.int .i64 i, .int .i64 0, .bool false] 86
    obtain ⟨ii, hi1, hz0, hz1, hz2⟩ := info_parts info86
    have A := Lib.hid fun o rest ops Q x => wpList_append_st (P := Try.prog) (o := o) (rest := rest) (ops := ops) (Q := Q) (a := x) (S1.pull 6) (rd_cells (sz := 3) (n := 1) (cap := 1) S1 (Nat.le_refl _) rfl) (one_hCells ⟨i, 0, false⟩) hi1 hz0 hz1 hz2 rfl (by unfold maxLen; omega) (by omega) Try.underlying76
    clear S S1 hi1 hz0 hz1 hz2
    go_wp2_with (at_builtin; refine A.out _ _ _ _ _ _ _ rfl rfl rfl rfl ?_; intro v' w7 S1 _; obtain ⟨a2, cap2, rfl, _⟩ := S1.own_form; clear dp fp; have dp := (S1.pull 5).cell; have fp := (S1.pull 5).free; have dB := (S1.pull 2).cell; have neB := (((S1.pull 5).pull 3).ne).symm; have neB2 := ((S1.pull 5).pull 3).ne; have S1 := Lib.hid S1)
    have X := ((S1.out.pull 5).set 2 (.slice a2 (W.handles.length + 1) cap2))
    simp only [List.setIfInBounds_toArray, List.set_cons_zero, List.set_cons_succ] at X
    have T := (((((((X.pull 5).pull 3).pull 4).pull 7).pull 5).pull 7).pull 7).pull 7
    have T2 := (((St.world_close (p := p) (vf := vf) (vb := vb2) (vh := .slice a2 (W.handles.length + 1) cap2) (vt := vt) (W := { W with fails := fs, handles := W.handles ++ [⟨i, 0, false⟩] }) (L := _ :: _ :: _ :: L) (by unfold worldL; rw [List.length_append, List.flatMap_append]; exact T)).pull 2).tail.pull 2).tail
    refine leaves_cons (f := 38) (args := #[.pointer (some ⟨p, 0, none⟩), .pointer (some ⟨B, 0, none⟩)]) (by simp) (by simp [go_sem]) ?_
    refine (note_d (o := ⟨1, W.handles.length, name, emptyB, true⟩) (T2.pull 1) htn .returning).mono ?_
    rintro e u' w6 ⟨rfl, rfl, S⟩
    refine ⟨.tuple #[.int .i64 W.handles.length, .bool true], by simp [results, Try.results15, go_sem, emptyB], rfl, S⟩
end
end Go.Proofs.Ytlpgekodoiioaaa

/- slices.Clone, four times. Printed by gen_clone.py. -/
namespace Go.Proofs.Ytlpgekodoiioaaa
open Go.RowKit
theorem info62 : (Try.prog.info? 62).map (fun i => (i.zero, i.size, i.bytes)) = some (some (.agg #[.string ⟨#[]⟩, .string ⟨#[]⟩]), 2, 32) := by kernel_rfl
theorem info4 : (Try.prog.info? 4).map (fun i => (i.zero, i.size, i.bytes)) = some (some (.bool false), 1, 1) := by kernel_rfl


set_option maxRecDepth 100000 in
theorem clone34_c {W0 w : World} {L : List HProp} {v : Value} {n : Nat} {xs : List Value} (h : St W0 w L) (hr : rd w 2 v n xs) (h1 : ∀ u ∈ xs, u.oneCell' = true) (hn : n ≤ 200000) :
    Calls Try.prog 34 #[v] w fun e w' => ∃ v', e = .returned v' ∧ St W0 w' (ownS 62 2 v' n xs :: L) := by
  obtain ⟨ii, hi1, hz0, hz1, hz2⟩ := info_parts info62
  by_cases hnil : ∃ c, v = .slice none 0 c
  · obtain ⟨c, rfl⟩ := hnil
    have hx : xs = [] ∧ n = 0 := by
      obtain ⟨hl, ⟨_, h0⟩ | ⟨_, _, _, e, _⟩⟩ := hr
      · subst h0; simp at hl; exact ⟨hl, rfl⟩
      · cases e
    obtain ⟨rfl, rfl⟩ := hx
    have HS := Lib.hid (h.own_nil (T := 62) (sz := 2))
    clear h hr h1 hi1 hz0 hz1 hz2
    have hb : ∀ w, Sem.run Try.prog (binOp .eql 22 (.slice none 0 c) (.slice none 0 0)) w = .ok (.bool true) w := by
      intro w
      exact Lib.run_eql_slice_nil w 22 62 none 0 c 0 0 Try.underlying22
    go_enter Try.func34, Try.ntmps34
    go_wp2
    go_ret
    exact ⟨_, rfl, HS.out⟩
  · obtain ⟨a, len, cap, rfl⟩ : ∃ a len cap, v = .slice (some a) len cap := by
      obtain ⟨hl, ⟨⟨a, c, e⟩, h0⟩ | ⟨b, off, cap, e, _⟩⟩ := hr
      · cases a with
        | none => exact absurd ⟨c, e⟩ hnil
        | some a => exact ⟨a, _, _, e⟩
      · exact ⟨_, _, _, e⟩
    clear hnil
    have hb : ∀ w, Sem.run Try.prog (binOp .eql 22 (.slice (some a) len cap) (.slice none 0 0)) w = .ok (.bool false) w := by
      intro w
      exact Lib.run_eql_slice_nil w 22 62 (some a) len cap 0 0 Try.underlying22
    have S := h.allocC #[] 62
    have S1 := St.own_mk (sz := 2) (n := 0) (cap := 0) (xs := []) (rest := []) (by exact S) (by simp) (Nat.le_refl _) (Nat.zero_le _) (by simp)
    have A := Lib.hid fun o rest ops Q x => wpList_append_st (P := Try.prog) (o := o) (rest := rest) (ops := ops) (Q := Q) (a := x) S1 (hr.mono ((Below.refl _ _).alloc (Nat.le_refl _) _)) h1 hi1 hz0 hz1 hz2 rfl (by unfold maxLen; omega) (by omega) Try.underlying22
    clear h hr h1 hi1 hz0 hz1 hz2 S S1
    go_enter Try.func34, Try.ntmps34
    go_wp2_with (at_builtin; refine A.out _ _ _ _ _ _ _ rfl rfl rfl rfl ?_; intro v' w7 S1 _; have HS := Lib.hid S1; clear S1)
    go_ret
    have S := HS.out
    rw [List.nil_append, Nat.zero_add] at S
    exact ⟨_, rfl, S⟩


set_option maxRecDepth 100000 in
theorem clone35_c {W0 w : World} {L : List HProp} {v : Value} {n : Nat} {xs : List Value} (h : St W0 w L) (hr : rd w 1 v n xs) (h1 : ∀ u ∈ xs, u.oneCell' = true) (hn : n ≤ 200000) :
    Calls Try.prog 35 #[v] w fun e w' => ∃ v', e = .returned v' ∧ St W0 w' (ownS 4 1 v' n xs :: L) := by
  obtain ⟨ii, hi1, hz0, hz1, hz2⟩ := info_parts info4
  by_cases hnil : ∃ c, v = .slice none 0 c
  · obtain ⟨c, rfl⟩ := hnil
    have hx : xs = [] ∧ n = 0 := by
      obtain ⟨hl, ⟨_, h0⟩ | ⟨_, _, _, e, _⟩⟩ := hr
      · subst h0; simp at hl; exact ⟨hl, rfl⟩
      · cases e
    obtain ⟨rfl, rfl⟩ := hx
    have HS := Lib.hid (h.own_nil (T := 4) (sz := 1))
    clear h hr h1 hi1 hz0 hz1 hz2
    have hb : ∀ w, Sem.run Try.prog (binOp .eql 23 (.slice none 0 c) (.slice none 0 0)) w = .ok (.bool true) w := by
      intro w
      exact Lib.run_eql_slice_nil w 23 4 none 0 c 0 0 Try.underlying23
    go_enter Try.func35, Try.ntmps35
    go_wp2
    go_ret
    exact ⟨_, rfl, HS.out⟩
  · obtain ⟨a, len, cap, rfl⟩ : ∃ a len cap, v = .slice (some a) len cap := by
      obtain ⟨hl, ⟨⟨a, c, e⟩, h0⟩ | ⟨b, off, cap, e, _⟩⟩ := hr
      · cases a with
        | none => exact absurd ⟨c, e⟩ hnil
        | some a => exact ⟨a, _, _, e⟩
      · exact ⟨_, _, _, e⟩
    clear hnil
    have hb : ∀ w, Sem.run Try.prog (binOp .eql 23 (.slice (some a) len cap) (.slice none 0 0)) w = .ok (.bool false) w := by
      intro w
      exact Lib.run_eql_slice_nil w 23 4 (some a) len cap 0 0 Try.underlying23
    have S := h.allocC #[] 4
    have S1 := St.own_mk (sz := 1) (n := 0) (cap := 0) (xs := []) (rest := []) (by exact S) (by simp) (Nat.le_refl _) (Nat.zero_le _) (by simp)
    have A := Lib.hid fun o rest ops Q x => wpList_append_st (P := Try.prog) (o := o) (rest := rest) (ops := ops) (Q := Q) (a := x) S1 (hr.mono ((Below.refl _ _).alloc (Nat.le_refl _) _)) h1 hi1 hz0 hz1 hz2 rfl (by unfold maxLen; omega) (by omega) Try.underlying23
    clear h hr h1 hi1 hz0 hz1 hz2 S S1
    go_enter Try.func35, Try.ntmps35
    go_wp2_with (at_builtin; refine A.out _ _ _ _ _ _ _ rfl rfl rfl rfl ?_; intro v' w7 S1 _; have HS := Lib.hid S1; clear S1)
    go_ret
    have S := HS.out
    rw [List.nil_append, Nat.zero_add] at S
    exact ⟨_, rfl, S⟩


set_option maxRecDepth 100000 in
theorem clone36_c {W0 w : World} {L : List HProp} {v : Value} {n : Nat} {xs : List Value} (h : St W0 w L) (hr : rd w 3 v n xs) (h1 : ∀ u ∈ xs, u.oneCell' = true) (hn : n ≤ 200000) :
    Calls Try.prog 36 #[v] w fun e w' => ∃ v', e = .returned v' ∧ St W0 w' (ownS 86 3 v' n xs :: L) := by
  obtain ⟨ii, hi1, hz0, hz1, hz2⟩ := info_parts info86
  by_cases hnil : ∃ c, v = .slice none 0 c
  · obtain ⟨c, rfl⟩ := hnil
    have hx : xs = [] ∧ n = 0 := by
      obtain ⟨hl, ⟨_, h0⟩ | ⟨_, _, _, e, _⟩⟩ := hr
      · subst h0; simp at hl; exact ⟨hl, rfl⟩
      · cases e
    obtain ⟨rfl, rfl⟩ := hx
    have HS := Lib.hid (h.own_nil (T := 86) (sz := 3))
    clear h hr h1 hi1 hz0 hz1 hz2
    have hb : ∀ w, Sem.run Try.prog (binOp .eql 76 (.slice none 0 c) (.slice none 0 0)) w = .ok (.bool true) w := by
      intro w
      exact Lib.run_eql_slice_nil w 76 86 none 0 c 0 0 Try.underlying76
    go_enter Try.func36, Try.ntmps36
    go_wp2
    go_ret
    exact ⟨_, rfl, HS.out⟩
  · obtain ⟨a, len, cap, rfl⟩ : ∃ a len cap, v = .slice (some a) len cap := by
      obtain ⟨hl, ⟨⟨a, c, e⟩, h0⟩ | ⟨b, off, cap, e, _⟩⟩ := hr
      · cases a with
        | none => exact absurd ⟨c, e⟩ hnil
        | some a => exact ⟨a, _, _, e⟩
      · exact ⟨_, _, _, e⟩
    clear hnil
    have hb : ∀ w, Sem.run Try.prog (binOp .eql 76 (.slice (some a) len cap) (.slice none 0 0)) w = .ok (.bool false) w := by
      intro w
      exact Lib.run_eql_slice_nil w 76 86 (some a) len cap 0 0 Try.underlying76
    have S := h.allocC #[] 86
    have S1 := St.own_mk (sz := 3) (n := 0) (cap := 0) (xs := []) (rest := []) (by exact S) (by simp) (Nat.le_refl _) (Nat.zero_le _) (by simp)
    have A := Lib.hid fun o rest ops Q x => wpList_append_st (P := Try.prog) (o := o) (rest := rest) (ops := ops) (Q := Q) (a := x) S1 (hr.mono ((Below.refl _ _).alloc (Nat.le_refl _) _)) h1 hi1 hz0 hz1 hz2 rfl (by unfold maxLen; omega) (by omega) Try.underlying76
    clear h hr h1 hi1 hz0 hz1 hz2 S S1
    go_enter Try.func36, Try.ntmps36
    go_wp2_with (at_builtin; refine A.out _ _ _ _ _ _ _ rfl rfl rfl rfl ?_; intro v' w7 S1 _; have HS := Lib.hid S1; clear S1)
    go_ret
    have S := HS.out
    rw [List.nil_append, Nat.zero_add] at S
    exact ⟨_, rfl, S⟩


set_option maxRecDepth 100000 in
theorem clone37_c {W0 w : World} {L : List HProp} {v : Value} {n : Nat} {xs : List Value} (h : St W0 w L) (hr : rd w 5 v n xs) (h1 : ∀ u ∈ xs, u.oneCell' = true) (hn : n ≤ 200000) :
    Calls Try.prog 37 #[v] w fun e w' => ∃ v', e = .returned v' ∧ St W0 w' (ownS 68 5 v' n xs :: L) := by
  obtain ⟨ii, hi1, hz0, hz1, hz2⟩ := info_parts info68
  by_cases hnil : ∃ c, v = .slice none 0 c
  · obtain ⟨c, rfl⟩ := hnil
    have hx : xs = [] ∧ n = 0 := by
      obtain ⟨hl, ⟨_, h0⟩ | ⟨_, _, _, e, _⟩⟩ := hr
      · subst h0; simp at hl; exact ⟨hl, rfl⟩
      · cases e
    obtain ⟨rfl, rfl⟩ := hx
    have HS := Lib.hid (h.own_nil (T := 68) (sz := 5))
    clear h hr h1 hi1 hz0 hz1 hz2
    have hb : ∀ w, Sem.run Try.prog (binOp .eql 47 (.slice none 0 c) (.slice none 0 0)) w = .ok (.bool true) w := by
      intro w
      exact Lib.run_eql_slice_nil w 47 68 none 0 c 0 0 Try.underlying47
    go_enter Try.func37, Try.ntmps37
    go_wp2
    go_ret
    exact ⟨_, rfl, HS.out⟩
  · obtain ⟨a, len, cap, rfl⟩ : ∃ a len cap, v = .slice (some a) len cap := by
      obtain ⟨hl, ⟨⟨a, c, e⟩, h0⟩ | ⟨b, off, cap, e, _⟩⟩ := hr
      · cases a with
        | none => exact absurd ⟨c, e⟩ hnil
        | some a => exact ⟨a, _, _, e⟩
      · exact ⟨_, _, _, e⟩
    clear hnil
    have hb : ∀ w, Sem.run Try.prog (binOp .eql 47 (.slice (some a) len cap) (.slice none 0 0)) w = .ok (.bool false) w := by
      intro w
      exact Lib.run_eql_slice_nil w 47 68 (some a) len cap 0 0 Try.underlying47
    have S := h.allocC #[] 68
    have S1 := St.own_mk (sz := 5) (n := 0) (cap := 0) (xs := []) (rest := []) (by exact S) (by simp) (Nat.le_refl _) (Nat.zero_le _) (by simp)
    have A := Lib.hid fun o rest ops Q x => wpList_append_st (P := Try.prog) (o := o) (rest := rest) (ops := ops) (Q := Q) (a := x) S1 (hr.mono ((Below.refl _ _).alloc (Nat.le_refl _) _)) h1 hi1 hz0 hz1 hz2 rfl (by unfold maxLen; omega) (by omega) Try.underlying47
    clear h hr h1 hi1 hz0 hz1 hz2 S S1
    go_enter Try.func37, Try.ntmps37
    go_wp2_with (at_builtin; refine A.out _ _ _ _ _ _ _ rfl rfl rfl rfl ?_; intro v' w7 S1 _; have HS := Lib.hid S1; clear S1)
    go_ret
    have S := HS.out
    rw [List.nil_append, Nat.zero_add] at S
    exact ⟨_, rfl, S⟩

end Go.Proofs.Ytlpgekodoiioaaa

/- Files, Trace, Copy. -/
namespace Go.Proofs.Ytlpgekodoiioaaa
open Go.RowKit

theorem one_flat {α : Type} {f : α → List Value} (hf : ∀ x, ∀ u ∈ f x, u.oneCell' = true) (l : List α) : ∀ u ∈ l.flatMap f, u.oneCell' = true := by
  intro u hu
  obtain ⟨x, _, h⟩ := List.mem_flatMap.1 hu
  exact hf x u h
theorem one_fCells (o : AFile) : ∀ u ∈ fCells o, u.oneCell' = true := by
  intro u hu
  simp only [fCells, List.mem_cons, List.not_mem_nil, or_false] at hu
  rcases hu with rfl | rfl <;> rfl
theorem one_boolsV (l : List Bool) : ∀ u ∈ boolsV l, u.oneCell' = true := by
  intro u hu
  obtain ⟨b, _, rfl⟩ := List.mem_map.1 hu
  rfl

section
variable {W0 w : World} {L : List HProp} {p : Nat} {W : AW}

theorem St.tail_rd {T : TypeId} {v : Value} {bs : List Value} (h : St W0 w (tailS T v bs :: L)) : rd w 1 v bs.length bs := by
  rcases h.tail_cases with ⟨⟨a, c, e⟩, h0⟩ | ⟨b, cap, pre, rest, e, h1, h2, h3, S⟩
  · subst h0; exact ⟨by simp, .inl ⟨⟨a, c, e⟩, rfl⟩⟩
  · refine ⟨by simp, .inr ⟨b, pre.length, cap, e, h1, fun _ => S.lt, fun j u hj => ?_⟩⟩
    rw [S.cell, List.getElem?_toArray, List.append_assoc, List.getElem?_append_right (by omega), Nat.add_sub_cancel_left, List.getElem?_append_left (List.getElem?_eq_some_iff.1 hj).1]
    exact hj

set_option maxRecDepth 100000 in
theorem files_c (h : St W0 w (worldAt p W :: L)) (hn : W.files.length ≤ 100000) : Calls Try.prog 26 #[.pointer (some ⟨p, 0, none⟩)] w fun e w' =>
    ∃ v, e = .returned v ∧ St W0 w' (ownS 62 2 v W.files.length (W.files.flatMap fCells) :: worldAt p W :: L) := by
  obtain ⟨vf, vb, vh, vt, S⟩ := h.world_open
  unfold worldL at S
  simp only [List.cons_append, List.nil_append] at S
  have d0 := S.cell
  have C := Lib.hid (clone34_c S (S.pull 1).own_rd (one_flat one_fCells _) (by omega))
  clear S h
  go_enter Try.func26, Try.ntmps26
  go_wp2_with (go_at_call 34; refine C.out.mono ?_; rintro e w2 ⟨v', rfl, S⟩; have HS := Lib.hid S; clear S)
  go_ret
  refine ⟨_, rfl, ?_⟩
  exact (St.world_close (p := p) (W := W) (L := _ :: L) (by unfold worldL; exact HS.out.push 5)).pull 1
set_option maxRecDepth 100000 in
theorem trace_c (h : St W0 w (worldAt p W :: L)) (hn : W.trace.length ≤ 100000) : Calls Try.prog 21 #[.pointer (some ⟨p, 0, none⟩)] w fun e w' =>
    ∃ v, e = .returned v ∧ St W0 w' (ownS 68 5 v W.trace.length (W.trace.flatMap oCells) :: worldAt p W :: L) := by
  obtain ⟨vf, vb, vh, vt, S⟩ := h.world_open
  unfold worldL at S
  simp only [List.cons_append, List.nil_append] at S
  have d0 := S.cell
  have C := Lib.hid (clone37_c S (S.pull 4).own_rd (one_flat one_oCells _) (by omega))
  clear S h
  go_enter Try.func21, Try.ntmps21
  go_wp2_with (go_at_call 37; refine C.out.mono ?_; rintro e w2 ⟨v', rfl, S⟩; have HS := Lib.hid S; clear S)
  go_ret
  refine ⟨_, rfl, ?_⟩
  exact (St.world_close (p := p) (W := W) (L := _ :: L) (by unfold worldL; exact HS.out.push 5)).pull 1

theorem nil26_c : Calls Try.prog 26 #[.pointer none] w fun e w' => e = .returned (.slice none 0 0) ∧ w' = w := by
  go_enter Try.func26, Try.ntmps26
  go_wp2
  go_ret
  exact ⟨rfl, rfl⟩

theorem nil21_c : Calls Try.prog 21 #[.pointer none] w fun e w' => e = .returned (.slice none 0 0) ∧ w' = w := by
  go_enter Try.func21, Try.ntmps21
  go_wp2
  go_ret
  exact ⟨rfl, rfl⟩

theorem nil28_c : Calls Try.prog 28 #[.pointer none] w fun e w' => e = .returned (.slice none 0 0) ∧ w' = w := by
  go_enter Try.func28, Try.ntmps28
  go_wp2
  go_ret
  exact ⟨rfl, rfl⟩

theorem nil14_c : Calls Try.prog 14 #[.pointer none] w fun e w' => e = .returned (.pointer none) ∧ w' = w := by
  go_enter Try.func14, Try.ntmps14
  go_wp2
  go_ret
  exact ⟨rfl, rfl⟩

theorem nil42_c (x : Int) : Calls Try.prog 42 #[.pointer none, .int .i64 x] w fun e w' => e = .returned (.tuple #[.pointer none, .int .i64 1]) ∧ w' = w := by
  go_enter Try.func42, Try.ntmps42
  go_wp2
  go_ret2
  exact ⟨rfl, rfl⟩
theorem nil22_c (x : Int) : Calls Try.prog 22 #[.pointer none, .int .i64 x] w fun e w' => e = .returned (.int .i64 1) ∧ w' = w := by
  go_enter Try.func22, Try.ntmps22
  go_wp2_with (go_at_call 42; refine (nil42_c x).mono ?_; rintro e w' ⟨rfl, rfl⟩)
  go_ret
  exact ⟨rfl, rfl⟩
theorem nil15_c (s : ByteArray) : Calls Try.prog 15 #[.pointer none, .string s] w fun e w' => e = .returned (.tuple #[.int .i64 0, .bool false]) ∧ St w w' [cellsB w.heap.size #[.string s] 9] := by
  have HS := Lib.hid ((St.refl w).allocC #[Value.string s] 9)
  go_enter_defers Try.func15, Try.ntmps15
  go_wp2
  exact ⟨.tuple #[.int .i64 0, .bool false], by simp [results, Try.results15, go_sem], rfl, HS.out⟩
theorem nil17_c (x : Int) : Calls Try.prog 17 #[.pointer none, .int .i64 x] w fun e w' => e = .returned (.tuple #[.bool false, .int .i64 1]) ∧ w' = w := by
  go_enter_defers Try.func17, Try.ntmps17
  go_wp2_with (go_at_call 42; refine (nil42_c x).mono ?_; rintro e w' ⟨rfl, rfl⟩)
  exact ⟨.tuple #[.bool false, .int .i64 1], by simp [results, Try.results17, go_sem], rfl, rfl⟩
theorem nil16_c (x : Int) (s : ByteArray) : Calls Try.prog 16 #[.pointer none, .int .i64 x, .string s] w fun e w' => e = .returned (.tuple #[.bool false, .int .i64 1]) ∧ w' = w := by
  go_enter_defers Try.func16, Try.ntmps16
  go_wp2_with (go_at_call 42; refine (nil42_c x).mono ?_; rintro e w' ⟨rfl, rfl⟩)
  exact ⟨.tuple #[.bool false, .int .i64 1], by simp [results, Try.results16, go_sem], rfl, rfl⟩
theorem nil23_c (x : Int) : Calls Try.prog 23 #[.pointer none, .int .i64 x] w fun e w' => e = .returned (.tuple #[.int .u8 0, .string ⟨#[]⟩, .int .i64 1]) ∧ w' = w := by
  go_enter_defers Try.func23, Try.ntmps23
  go_wp2_with (go_at_call 42; refine (nil42_c x).mono ?_; rintro e w' ⟨rfl, rfl⟩)
  exact ⟨.tuple #[.int .u8 0, .string ⟨#[]⟩, .int .i64 1], by simp [results, Try.results23, go_sem], rfl, rfl⟩
end
end Go.Proofs.Ytlpgekodoiioaaa

/- Copy. -/
namespace Go.Proofs.Ytlpgekodoiioaaa
open Go.RowKit

section
variable {W0 w : World} {L : List HProp} {p n : Nat} {W : AW}

theorem St.own_tail {T : TypeId} {v : Value} {n : Nat} {xs : List Value} (h : St W0 w (ownS T 1 v n xs :: L)) : St W0 w (tailS T v xs :: L) := by
  obtain ⟨hl, ⟨⟨a, e⟩, h0, hx⟩ | ⟨b, cap, rest, e, h1, h2, h3, S⟩⟩ := h.own_cases
  · subst e hx; exact h.tail.tail_nil a 0
  · have hl : xs.length = n := by omega
    subst e hl
    have := St.tail_mk (T := T) (pre := []) (cap := cap) (bs := xs) (rest := rest) (by exact S) h1 h2 (by omega)
    exact this

set_option maxRecDepth 100000 in
set_option maxHeartbeats 1000000 in
theorem copy_c (h : St W0 w (worldAt p W :: L)) (ok : W.Ok n) (hn : n ≤ 100000) (hb : W.fails.length ≤ 100000) : Calls Try.prog 14 #[.pointer (some ⟨p, 0, none⟩)] w fun e w' =>
    ∃ q, e = .returned (.pointer (some ⟨q, 0, none⟩)) ∧ St W0 w' (worldAt q W :: worldAt p W :: L) := by
  have hhn : W.handles.length ≤ 100000 := Nat.le_trans ok.handles hn
  have htn : W.trace.length ≤ 100000 := Nat.le_trans ok.trace hn
  have hfn : W.files.length ≤ 100000 := Nat.le_trans ok.few (by omega)
  obtain ⟨vf, vb, vh, vt, S⟩ := h.world_open
  unfold worldL at S
  simp only [List.cons_append, List.nil_append] at S
  have HS := Lib.hid S
  clear h ok S
  go_enter Try.func14, Try.ntmps14
  go_upto_region 3 with fail
  refine wp_region_st HS.out [0, 1, 2, 3, 5, 6, 7, 8, 10, 11, 12, 13, 15, 16, 17, 18, 4, 9, 14, 19, 20, 21, 22] (fun w' => (∀ o, w'.cell? ⟨p, o, none⟩ = #[vf, vb, vh, vt][o]?)) [3, 8, 13, 18] [4, 9, 14, 19, 21] [19, 21] (by kernel_rfl) (by kernel_rfl) (fun c d v a w h => by cases d <;> exact h) ?_
  clear HS
  intro w3 S
  have HF := Lib.hid S.cell
  iterate 16
    (first
      | refine walk_load rfl rfl rfl HF.out rfl (by rintro w' g0; go_simp; with_reducible rfl) ?_
      | refine walk_pure rfl rfl rfl rfl (by intro w'; go_simp; with_reducible rfl) ?_)
    simp only [List.getElem_toArray, List.getElem_cons_zero, List.getElem_cons_succ, Act.put, List.setIfInBounds_toArray, List.set_cons_zero, List.set_cons_succ]
  clear HF
  -- [p, files, tail, handles, trace, L]
  refine walk_do rfl rfl rfl (fun K hK => ?_)
  go_simp
  refine (clone34_c S (S.pull 1).own_rd (one_flat one_fCells _) (by omega)).mono ?_
  rintro e w4 ⟨vf2, rfl, S⟩
  refine hK _ _ (fun _ => (S.pull 1).cell) ?_
  clear hK K
  try simp only [List.getElem_toArray, List.getElem_cons_zero, List.getElem_cons_succ, Act.put, List.setIfInBounds_toArray, List.set_cons_zero, List.set_cons_succ]
  refine walk_do rfl rfl rfl (fun K hK => ?_)
  go_simp
  refine (clone35_c S (S.pull 3).tail_rd (one_boolsV _) (by simp [boolsV]; omega)).mono ?_
  rintro e w5 ⟨vb2, rfl, S⟩
  refine hK _ _ (fun _ => (S.pull 2).cell) ?_
  clear hK K
  try simp only [List.getElem_toArray, List.getElem_cons_zero, List.getElem_cons_succ, Act.put, List.setIfInBounds_toArray, List.set_cons_zero, List.set_cons_succ]
  refine walk_do rfl rfl rfl (fun K hK => ?_)
  go_simp
  refine (clone36_c S (S.pull 5).own_rd (one_flat one_hCells _) (by omega)).mono ?_
  rintro e w6 ⟨vh2, rfl, S⟩
  refine hK _ _ (fun _ => (S.pull 3).cell) ?_
  clear hK K
  try simp only [List.getElem_toArray, List.getElem_cons_zero, List.getElem_cons_succ, Act.put, List.setIfInBounds_toArray, List.set_cons_zero, List.set_cons_succ]
  refine walk_do rfl rfl rfl (fun K hK => ?_)
  go_simp
  refine (clone37_c S (S.pull 7).own_rd (one_flat one_oCells _) (by omega)).mono ?_
  rintro e w7 ⟨vt2, rfl, S⟩
  refine hK _ _ (fun h => by cases h) ?_
  clear hK K
  try simp only [List.getElem_toArray, List.getElem_cons_zero, List.getElem_cons_succ, Act.put, List.setIfInBounds_toArray, List.set_cons_zero, List.set_cons_succ]
  -- [t2, h2, b2, f2, p, files, tail, handles, trace, L]
  obtain ⟨x1, y1, rfl, _⟩ := S.own_form
  obtain ⟨x2, y2, rfl, _⟩ := (S.pull 1).own_form
  obtain ⟨x3, y3, rfl, _⟩ := (S.pull 2).own_form
  obtain ⟨x4, y4, rfl, _⟩ := (S.pull 3).own_form
  refine walk_pure rfl rfl rfl rfl (by intro w'; go_simp; with_reducible rfl) ?_
  simp only [List.getElem_toArray, List.getElem_cons_zero, List.getElem_cons_succ, Act.put, List.setIfInBounds_toArray, List.set_cons_zero, List.set_cons_succ]
  have S := S.allocC #[.slice x4 W.files.length y4, .slice x3 (boolsV W.fails).length y3, .slice x2 W.handles.length y2, .slice x1 W.trace.length y1] 78
  refine walk_do rfl rfl rfl (fun K hK => ?_)
  go_simp
  refine hK _ _ (fun h => by cases h) ?_
  clear hK K
  try simp only [List.getElem_toArray, List.getElem_cons_zero, List.getElem_cons_succ, Act.put, List.setIfInBounds_toArray, List.set_cons_zero, List.set_cons_succ]
  refine walk_pure rfl rfl rfl rfl (by intro w'; go_simp; with_reducible rfl) ?_
  refine walk_nil ?_
  have T := (((((S.pull 1).pull 2).pull 4).pull 3).pull 4).own_tail
  have T2 := (T.pull 2).pull 2
  have HS := Lib.hid T2
  clear S T T2
  go_wp2_with fail
  go_ret
  refine ⟨_, rfl, ?_⟩
  have S := HS.out
  have S := (St.world_close (W := W) (L := _ :: _ :: _ :: _ :: _ :: L) (by unfold worldL; exact S))
  have S2 := S.push 5
  simp only [push] at S2
  exact (St.world_close (p := p) (vf := vf) (vb := vb) (vh := vh) (vt := vt) (W := W) (L := worldAt _ W :: L) S2).pull 1
end
end Go.Proofs.Ytlpgekodoiioaaa

/- Handles. -/
namespace Go.Proofs.Ytlpgekodoiioaaa
open Go.RowKit

/-- The numbers of the handles that are open. -/
def opens : List AHandle → Nat → List Nat
  | [], _ => []
  | x :: l, i => if x.shut then opens l (i + 1) else i :: opens l (i + 1)
theorem opens_len : ∀ (l : List AHandle) (i : Nat), (opens l i).length ≤ l.length
  | [], _ => Nat.le_refl _
  | x :: l, i => by
    have := opens_len l (i + 1)
    unfold opens; split <;> simp <;> omega
theorem opens_app : ∀ (l m : List AHandle) (i : Nat), opens (l ++ m) i = opens l i ++ opens m (i + l.length)
  | [], m, i => rfl
  | x :: l, m, i => by
    have := opens_app l m (i + 1)
    simp only [List.cons_append, opens, List.length_cons]
    rw [this, show i + 1 + l.length = i + (l.length + 1) by omega]
    split <;> rfl
theorem opens_take {l : List AHandle} {k : Nat} {x : AHandle} (h : l[k]? = some x) : opens (l.take (k + 1)) 0 = opens (l.take k) 0 ++ (if x.shut then [] else [k]) := by
  have hk := (List.getElem?_eq_some_iff.1 h).1
  rw [List.take_add_one, h, opens_app, List.length_take, Nat.min_eq_left (by omega)]
  simp only [Option.toList_some, opens, Nat.zero_add]

def natsV (l : List Nat) : List Value := l.map fun (n : Nat) => Value.int .i64 (n : Int)
theorem one_natsV (l : List Nat) : ∀ u ∈ natsV l, u.oneCell' = true := by
  intro u hu
  obtain ⟨b, _, rfl⟩ := List.mem_map.1 hu
  rfl
theorem info3 : (Try.prog.info? 3).map (fun i => (i.zero, i.size, i.bytes)) = some (some (.int .i64 0), 1, 8) := by kernel_rfl

section
variable {W0 w : World} {L : List HProp} {p n : Nat} {W : AW}

def HandRel (W0 : World) (L : List HProp) (p : Nat) (vf vb vh vt : Value) (W : AW) (v i : Value) (wr : World) : Prop :=
  ∃ k : Nat, k ≤ W.handles.length ∧ i = .int .i64 k ∧ St W0 wr (ownS 3 1 v (opens (W.handles.take k) 0).length (natsV (opens (W.handles.take k) 0)) :: ownS 86 3 vh W.handles.length (W.handles.flatMap hCells) :: cellsB p #[vf, vb, vh, vt] 78 :: ownS 62 2 vf W.files.length (W.files.flatMap fCells) :: tailS 4 vb (boolsV W.fails) :: ownS 68 5 vt W.trace.length (W.trace.flatMap oCells) :: L)

set_option maxRecDepth 100000 in
set_option maxHeartbeats 1000000 in
theorem handles_c (h : St W0 w (worldAt p W :: L)) (hn : W.handles.length ≤ 100000) : Calls Try.prog 28 #[.pointer (some ⟨p, 0, none⟩)] w fun e w' =>
    ∃ v, e = .returned v ∧ St W0 w' (ownS 3 1 v (opens W.handles 0).length (natsV (opens W.handles 0)) :: worldAt p W :: L) := by
  obtain ⟨vf, vb, vh, vt, S⟩ := h.world_open
  unfold worldL at S
  simp only [List.cons_append, List.nil_append] at S
  obtain ⟨ha, hcap, rfl, _⟩ := (S.pull 3).own_form
  have d0 := S.cell
  have HS := Lib.hid S
  clear h S
  go_enter Try.func28, Try.ntmps28
  go_upto_region 4 with fail
  go_wp2_with fail
  go_loopw [3, 13] (fun v i wr => HandRel W0 L p vf vb (.slice ha W.handles.length hcap) vt W v i wr) (fun _ i _ => W.handles.length - (intOf i).toNat)
  case atStart => exact ⟨0, Nat.zero_le _, rfl, (HS.out.pull 3).own_nil⟩
  case round =>
    obtain ⟨k, hk, rfl, S⟩ := hrel
    clear HS d0
    obtain ⟨vo, ocap, rfl, _⟩ := S.own_form
    by_cases hlt : k < W.handles.length
    · obtain ⟨x, hx⟩ : ∃ x, W.handles[k]? = some x := ⟨_, List.getElem?_eq_getElem hlt⟩
      obtain ⟨hl, hc⟩ := St.own_cases (S.pull 1)
      obtain ⟨bh, cap, rest, e0, m1, m2, m3, T⟩ := hc.resolve_left (fun q => by have := q.2.1; omega)
      injection e0 with e1 _ e3
      subst e1 e3
      obtain ⟨c0, c1, c2⟩ := handle_cells T hx
      have HT := Lib.hid (T.allocC #[.int .i64 x.file, .int .i64 x.pos, .bool x.shut] 86)
      have HX := Lib.hid hx
      have HM := Lib.hid (And.intro hl (And.intro m1 (And.intro m2 m3)))
      have OT := Lib.hid (opens_take hx)
      have ol := opens_len (W.handles.take k) 0
      rw [List.length_take] at ol
      clear S T hc hx hl m1 m2 m3
      go_upto_region 7 with fail
      generalize wr.heap.size = bx at HT ⊢
      refine abs_wp HT.out ?_
      clear HT c0 c1 c2
      intro w2 S
      have d0 := S.cell
      -- [bx, bh, out, p, files, tail, trace, L]
      obtain ⟨file, pos, shut⟩ := x
      cases shut with
      | true =>
        go_wp2_with fail
        refine ⟨⟨k + 1, by omega, by go_num, ?_⟩, by simp [intOf]; omega⟩
        rw [OT.out]
        simp only [if_true, List.append_nil]
        exact (St.own_mk ((S.tail)) HM.out.1 HM.out.2.1 HM.out.2.2.1 HM.out.2.2.2).pull 1
      | false =>
        have S1 := S.tail.allocC #[Value.int .i64 k] 3
        obtain ⟨ii, hi1, hz0, hz1, hz2⟩ := info_parts info3
        -- [b9, bh, out, p, ..]
        have A := Lib.hid fun o rest ops Q x => wpList_append_st (P := Try.prog) (o := o) (rest := rest) (ops := ops) (Q := Q) (a := x) (S1.pull 2) (rd_cells (sz := 1) (n := 1) (cap := 1) S1 (Nat.le_refl _) rfl) (by intro u hu; simp at hu; subst hu; rfl) hi1 hz0 hz1 hz2 rfl (by unfold maxLen; omega) (by omega) Try.underlying58
        clear S S1 hi1 hz0 hz1 hz2
        go_wp2_with (at_builtin; refine A.out _ _ _ _ _ _ _ rfl rfl rfl rfl ?_; intro v' w7 S1 _; have HS := Lib.hid S1; clear S1)
        refine ⟨⟨k + 1, by omega, by go_num, ?_⟩, by simp [intOf]; omega⟩
        rw [OT.out]
        simp only [if_false, Bool.false_eq_true]
        have S := (HS.out.pull 1).tail
        have S := ((St.own_mk (S.pull 1) HM.out.1 HM.out.2.1 HM.out.2.2.1 HM.out.2.2.2).pull 1)
        rw [List.length_append]
        unfold natsV at S ⊢
        rw [List.map_append]
        exact S
    · have hk' : k = W.handles.length := by omega
      subst hk'
      simp only [List.take_length] at S ⊢
      have HS := Lib.hid S
      clear S
      go_wp2_with fail
      go_ret
      refine ⟨.slice vo (opens W.handles 0).length ocap, rfl, ?_⟩
      -- [out, handles, p, files, tail, trace, L]
      have S := HS.out
      have T := ((((S.pull 5).pull 2).pull 5).pull 5).pull 5
      simp only [pull] at T
      exact (St.world_close (p := p) (vf := vf) (vb := vb) (vh := .slice ha W.handles.length hcap) (vt := vt) (W := W) (L := _ :: L) T).pull 1
end
end Go.Proofs.Ytlpgekodoiioaaa

/- New: ContainsFunc, by the name of a file. -/
namespace Go.Proofs.Ytlpgekodoiioaaa
open Go.RowKit Classical

section
variable {W0 w : World} {L : List HProp} {c : Nat} {x : AFile}

set_option maxRecDepth 100000 in
theorem cl33_c (h : St W0 w (cellsB c #[.string x.name, .string x.text] 62 :: L)) (f : AFile) : Calls Try.prog 33 #[.agg #[.string f.name, .string f.text], .pointer (some ⟨c, 0, none⟩)] w fun e w' =>
    e = .returned (.bool (decide (f.name = x.name))) ∧ St W0 w' (cellsB c #[.string x.name, .string x.text] 62 :: L) ∧ Below w.heap.size w w' := by
  have S := h.allocC #[.string f.name, .string f.text] 62
  have hb := (Below.refl _ w).alloc (Nat.le_refl _) (.cells #[.string f.name, .string f.text] 62)
  have c0 := S.cell
  have d0 := (S.pull 1).cell
  have HS := Lib.hid (And.intro S hb)
  clear h S hb
  rw [← str_eq]
  go_enter Try.func33, Try.ntmps33
  go_wp2
  go_ret
  exact ⟨rfl, HS.out.1.tail, HS.out.2⟩

def Idx33Rel (W0 w0 : World) (L : List HProp) (c : Nat) (x : AFile) (v : Value) (fs : List AFile) (i : Value) (wr : World) : Prop :=
  ∃ k : Nat, k ≤ fs.length ∧ i = .int .i64 k ∧ (∀ g ∈ fs.take k, g.name ≠ x.name) ∧ St W0 wr (cellsB c #[.string x.name, .string x.text] 62 :: L) ∧ rd wr 2 v fs.length (fs.flatMap fCells) ∧ Below w0.heap.size w0 wr

theorem rd_file {b off cap : Nat} {fs : List AFile} {k : Nat} {f : AFile} (h : rd w 2 (.slice (some ⟨b, off, none⟩) fs.length cap) fs.length (fs.flatMap fCells)) (hf : fs[k]? = some f) :
    w.cell? ⟨b, off + k * 2, none⟩ = some (.string f.name) ∧ w.cell? ⟨b, off + k * 2 + 1, none⟩ = some (.string f.text) := by
  obtain ⟨_, ⟨_, h0⟩ | ⟨b', off', cap', e, _, _, hc⟩⟩ := h
  · have := (List.getElem?_eq_some_iff.1 hf).1
    omega
  · injection e with e1 _ e3
    injection e1 with e1
    injection e1 with e1 e2 _
    subst e1 e2 e3
    refine ⟨hc _ _ ?_, ?_⟩
    · have := flat_get' fCells_len fs k 0 f hf (by omega)
      rw [Nat.add_zero] at this
      rw [this]; rfl
    · have := hc (k * 2 + 1) (.string f.text) (by rw [flat_get' fCells_len fs k 1 f hf (by omega)]; rfl)
      rwa [← Nat.add_assoc] at this

set_option maxRecDepth 100000 in
theorem idx33_c {v : Value} {fs : List AFile} (h : St W0 w (cellsB c #[.string x.name, .string x.text] 62 :: L)) (hr : rd w 2 v fs.length (fs.flatMap fCells)) (hn : fs.length ≤ 100000) :
    Calls Try.prog 40 #[v, .func (.func 33) #[] #[.pointer (some ⟨c, 0, none⟩)]] w fun e w' =>
      e = .returned (.int .i64 (idxI x.name fs)) ∧ St W0 w' (cellsB c #[.string x.name, .string x.text] 62 :: L) ∧ Below w.heap.size w w' := by
  obtain ⟨a, cap, rfl⟩ : ∃ a cap, v = .slice a fs.length cap := by
    obtain ⟨_, ⟨⟨a, c, e⟩, h0⟩ | ⟨b, off, cap, e, _⟩⟩ := hr
    · exact ⟨a, c, by rw [h0]; exact e⟩
    · exact ⟨_, _, e⟩
  have HS := Lib.hid (And.intro h hr)
  clear h hr
  go_enter Try.func40, Try.ntmps40
  go_wp2
  go_loopw [8] (fun i wr => Idx33Rel W0 w L c x (.slice a fs.length cap) fs i wr) (fun i _ => fs.length - (intOf i).toNat)
  case atStart => exact ⟨0, Nat.zero_le _, rfl, by simp, HS.out.1, HS.out.2, Below.refl _ _⟩
  case round =>
    obtain ⟨k, hk, rfl, hall, S, R, hb⟩ := hrel
    clear HS
    by_cases hlt : k < fs.length
    · obtain ⟨f, hf⟩ : ∃ f, fs[k]? = some f := ⟨_, List.getElem?_eq_getElem hlt⟩
      obtain ⟨b, off, rfl⟩ : ∃ b off, a = some ⟨b, off, none⟩ := by
        obtain ⟨_, ⟨_, h0⟩ | ⟨b, off, cap, e, _⟩⟩ := R
        · omega
        · injection e with e1 _ _; exact ⟨b, off, e1⟩
      obtain ⟨c0, c1⟩ := rd_file R hf
      have CL := Lib.hid (cl33_c S f)
      have HALL := Lib.hid hall
      have HF := Lib.hid hf
      have HB := Lib.hid (And.intro hb R)
      clear S R hf hall hb
      go_wp2_with (go_at_call 33; refine CL.out.mono ?_; rintro e w' ⟨rfl, S, hb⟩; have HS := Lib.hid (And.intro S hb); clear S hb)
      case roundEnd =>
        rename_i hne
        refine ⟨⟨k + 1, by omega, by go_num, ?_, HS.out.1, HB.out.2.mono HS.out.2, HB.out.1.trans (HS.out.2.mono HB.out.1.size)⟩, by simp [intOf]; omega⟩
        intro g hg
        rw [List.take_add_one, HF.out] at hg
        rcases List.mem_append.1 hg with h | h
        · exact HALL.out g h
        · simp at h; subst h; exact hne
      rename_i heq
      go_ret
      refine ⟨?_, HS.out.1, HB.out.1.trans (HS.out.2.mono HB.out.1.size)⟩
      unfold idxI
      rw [nameIdx_take x.name fs k f HF.out heq HALL.out]
      rfl
    · go_wp2_with fail
      have hk' : k = fs.length := by omega
      subst hk'
      go_ret
      rw [List.take_length] at hall
      refine ⟨?_, S, hb⟩
      unfold idxI
      rw [nameIdx_none x.name fs hall]
      rfl

set_option maxRecDepth 100000 in
theorem has32_c {v : Value} {fs : List AFile} (h : St W0 w (cellsB c #[.string x.name, .string x.text] 62 :: L)) (hr : rd w 2 v fs.length (fs.flatMap fCells)) (hn : fs.length ≤ 100000) :
    Calls Try.prog 32 #[v, .func (.func 33) #[] #[.pointer (some ⟨c, 0, none⟩)]] w fun e w' =>
      e = .returned (.bool (decide (0 ≤ idxI x.name fs))) ∧ St W0 w' (cellsB c #[.string x.name, .string x.text] 62 :: L) ∧ Below w.heap.size w w' := by
  have C := Lib.hid (idx33_c h hr hn)
  clear h hr
  go_enter Try.func32, Try.ntmps32
  go_wp2_with (go_at_call 40; refine C.out.mono ?_; rintro e w' ⟨rfl, S, hb⟩; have HS := Lib.hid (And.intro S hb); clear S hb)
  go_ret
  exact ⟨rfl, HS.out⟩
end
end Go.Proofs.Ytlpgekodoiioaaa

/- New. -/
namespace Go.Proofs.Ytlpgekodoiioaaa
open Go.RowKit Classical

/-- May a world begin with these files? -/
def NewOk (files : List AFile) : Prop := files.length ≤ 20 ∧ ∀ k f, files[k]? = some f → f.text.size ≤ 4000 ∧ ∀ g ∈ files.take k, g.name ≠ f.name

theorem idxI_neg (name : ByteArray) (l : List AFile) : idxI name l < 0 ↔ ∀ g ∈ l, g.name ≠ name := by
  constructor
  · intro h g hg q
    induction l with
    | nil => cases hg
    | cons a l ih =>
      unfold idxI nameIdx at h
      by_cases e : a.name = name
      · rw [if_pos e] at h; simp at h
      · rw [if_neg e] at h
        rcases List.mem_cons.1 hg with rfl | hg
        · exact e q
        · refine ih ?_ hg
          unfold idxI
          cases hq : nameIdx name l with
          | none => simp
          | some j => rw [hq] at h; simp at h; omega
  · intro h
    unfold idxI
    rw [nameIdx_none name l h]
    simp

theorem abs_wp_p {P : Program} {c : Code} {Q : Exit → Act → World → Prop} {A : Act} {w : World} {p : World → Prop} (h : p w) (k : ∀ w, p w → c.wp P Q A w) : c.wp P Q A w := k w h

section
variable {W0 w : World} {L : List HProp}

theorem rd_take {v : Value} {a : Option Addr} {cap : Nat} {fs : List AFile} {k : Nat} (h : rd w 2 (.slice a fs.length cap) fs.length (fs.flatMap fCells)) (hk : k < fs.length) :
    rd w 2 (.slice a k cap) (fs.take k).length ((fs.take k).flatMap fCells) ∧ (∃ b off, a = some ⟨b, off, none⟩) ∧ k ≤ cap := by
  have hl : (fs.take k).length = k := by rw [List.length_take]; omega
  obtain ⟨h1, ⟨_, h0⟩ | ⟨b, off, cap', e, h2, h3, h4⟩⟩ := h
  · omega
  · injection e with e1 _ e3
    subst e1 e3
    refine ⟨⟨flat_len' fCells_len _, .inr ⟨b, off, cap, by rw [hl], by omega, fun hp => h3 ?_, fun j u hj => h4 j u ?_⟩⟩, ⟨b, off, rfl⟩, by omega⟩
    · rw [h1]; omega
    · have : fs.flatMap fCells = (fs.take k).flatMap fCells ++ (fs.drop k).flatMap fCells := by rw [← List.flatMap_append, List.take_append_drop]
      rw [this, List.getElem?_append_left (List.getElem?_eq_some_iff.1 hj).1]
      exact hj

def NewP (W0 : World) (L : List HProp) (files : List AFile) (fails : List Bool) (e : Ending) (w' : World) : Prop :=
  (NewOk files ∧ ∃ q, e = .returned (.tuple #[.pointer (some ⟨q, 0, none⟩), .int .i64 0]) ∧ St W0 w' (worldAt q ⟨files, fails, [], []⟩ :: L)) ∨
  (¬ NewOk files ∧ e = .returned (.tuple #[.pointer none, .int .i64 2]) ∧ St W0 w' L)

def NewRel (W0 w0 : World) (L : List HProp) (fs : List AFile) (i : Value) (wr : World) : Prop :=
  ∃ k : Nat, k ≤ fs.length ∧ i = .int .i64 k ∧ (∀ j f, j < k → fs[j]? = some f → f.text.size ≤ 4000 ∧ ∀ g ∈ fs.take j, g.name ≠ f.name) ∧ St W0 wr L ∧ Below w0.heap.size w0 wr

set_option maxRecDepth 100000 in
set_option maxHeartbeats 1000000 in
theorem new_c {vf vb : Value} {files : List AFile} {fails : List Bool} (h : St W0 w L) (hr : rd w 2 vf files.length (files.flatMap fCells)) (hb : rd w 1 vb fails.length (boolsV fails)) (hnb : fails.length ≤ 100000) :
    Calls Try.prog 12 #[vf, vb] w fun e w' => NewP W0 L files fails e w' := by
  unfold NewP
  obtain ⟨a, cap, rfl⟩ : ∃ a cap, vf = .slice a files.length cap := by
    obtain ⟨_, ⟨⟨a, c, e⟩, h0⟩ | ⟨b, off, cap, e, _⟩⟩ := hr
    · exact ⟨a, c, by rw [h0]; exact e⟩
    · exact ⟨_, _, e⟩
  have HS := Lib.hid h
  have HR := Lib.hid hr
  have HB := Lib.hid hb
  have hmf : ∀ (fn : Fn) (first cap : Array Value) (w : World), (Instr.makeFunc fn first cap).run Try.prog w = .ok (.func fn first cap) w := fun _ _ _ _ => rfl
  clear h hr hb
  by_cases h20 : files.length ≤ 20
  · go_enter Try.func12, Try.ntmps12
    go_wp2
    go_loopw [13] (fun i wr => NewRel W0 w L files i wr) (fun i _ => files.length - (intOf i).toNat)
    case atStart => exact ⟨0, Nat.zero_le _, rfl, fun j f hj => absurd hj (Nat.not_lt_zero _), HS.out, Below.refl _ _⟩
    case round =>
      obtain ⟨k, hk, rfl, hall, S, hbl⟩ := hrel
      by_cases hlt : k < files.length
      · obtain ⟨f, hf⟩ : ∃ f, files[k]? = some f := ⟨_, List.getElem?_eq_getElem hlt⟩
        have R := HR.out.mono hbl
        obtain ⟨RT, ⟨b, off, rfl⟩, hkc⟩ := rd_take (v := .bool true) R hlt
        have hk0 : (0 : Int) ≤ (k : Int) := by omega
        have hk1 : (k : Int) ≤ (cap : Int) := by omega
        obtain ⟨c0, c1⟩ := rd_file R hf
        have S2 := S.allocC #[Value.string f.name, .string f.text] 62
        have hb2 := (Below.refl _ wr).alloc (Nat.le_refl _) (.cells #[Value.string f.name, .string f.text] 62)
        have HS2 := Lib.hid (And.intro S2 hb2)
        have HF := Lib.hid hf
        have HALL := Lib.hid (And.intro hall hbl)
        have HRT := Lib.hid RT
        clear S S2 hb2 hf hall hbl R RT HS
        go_upto_region 6 with fail
        generalize hc : wr.heap.size = c at HS2 ⊢
        refine abs_wp_p (p := fun w2 => St W0 w2 (cellsB c #[Value.string f.name, .string f.text] 62 :: L) ∧ Below c wr w2) HS2.out ?_
        clear HS2
        rintro w2 ⟨S, hb2⟩
        have HA := Lib.hid (has32_c S (HRT.out.mono (by rw [hc]; exact hb2)) (by rw [List.length_take]; omega))
        have d0 := S.cell
        have HS := Lib.hid (And.intro S hb2)
        clear S hb2 c0 c1
        by_cases h4 : f.text.size ≤ 4000
        · have h4' : ¬ ((4000 : Int) < (f.text.size : Int)) := by omega
          by_cases hd : 0 ≤ idxI f.name (files.take k)
          · go_wp2_with (go_at_call 32; refine HA.out.mono ?_; rintro e w' ⟨rfl, S, hb⟩; have HS3 := Lib.hid S; clear S hb)
            go_ret2
            exact .inr ⟨fun q => absurd ((idxI_neg _ _).2 (q.2 k f HF.out).2) (by omega), rfl, HS3.out.tail⟩
          · go_wp2_with (go_at_call 32; refine HA.out.mono ?_; rintro e w' ⟨rfl, S, hb⟩; have HS3 := Lib.hid (And.intro S hb); clear S hb)
            refine ⟨⟨k + 1, by omega, by go_num, ?_, HS3.out.1.tail, HALL.out.2.trans ((HS.out.2.trans (HS3.out.2.mono (by have := HS.out.2.size; omega))).mono (by have := HALL.out.2.size; omega))⟩, by simp [intOf]; omega⟩
            intro j f2 hj hf2
            by_cases e : j = k
            · subst e
              rw [HF.out] at hf2
              injection hf2 with hf2
              subst hf2
              exact ⟨h4, (idxI_neg _ _).1 (by omega)⟩
            · exact HALL.out.1 j f2 (by omega) hf2
        · have h4' : ((4000 : Int) < (f.text.size : Int)) := by omega
          go_wp2_with fail
          go_ret2
          exact .inr ⟨fun q => absurd (q.2 k f HF.out).1 h4, rfl, HS.out.1.tail⟩
      · have hk' : k = files.length := by omega
        subst hk'
        have ok : NewOk files := ⟨h20, fun j f hj => hall j f (List.getElem?_eq_some_iff.1 hj).1 hj⟩
        have C1 := Lib.hid (clone34_c (St.refl wr) (HR.out.mono hbl) (one_flat one_fCells _) (by omega))
        have C2 := Lib.hid fun w1 (h1 : Below wr.heap.size wr w1) => clone35_c (St.refl w1) ((HB.out.mono hbl).mono h1) (one_boolsV _) (by omega)
        have HOK := Lib.hid (And.intro ok S)
        clear S hall hbl ok HS
        go_wp2_with (first | (go_at_call 34; refine C1.out.mono ?_; rintro e w1 ⟨v1, rfl, S1⟩; obtain ⟨x1, y1, rfl, _⟩ := S1.own_form; have HS1 := Lib.hid S1; clear S1 C1) | (go_at_call 35; refine (C2.out _ HS1.out.below).mono ?_; rintro e w2 ⟨v2, rfl, S2⟩; obtain ⟨x2, y2, rfl, _⟩ := S2.own_form; have HS2 := Lib.hid S2; clear S2))
        have S := ((HOK.out.2.chain HS1.out).chain HS2.out).allocC #[.slice x1 files.length y1, .slice x2 fails.length y2, .slice none 0 0, .slice none 0 0] 78
        go_ret2
        refine .inl ⟨HOK.out.1, _, rfl, ?_⟩
        -- [q, fails, files, L]
        have T := ((((S.pull 1).own_tail).pull 2).pull 2)
        have T2 := ((((T.own_nil (T := 68) (sz := 5)).own_nil (T := 86) (sz := 3)).pull 4).pull 4).pull 4
        simp only [pull] at T2
        exact St.world_close (W := ⟨files, fails, [], []⟩) T2
  · go_enter Try.func12, Try.ntmps12
    go_wp2
    go_ret2
    exact .inr ⟨fun q => h20 q.1, rfl, HS.out⟩
end
end Go.Proofs.Ytlpgekodoiioaaa
