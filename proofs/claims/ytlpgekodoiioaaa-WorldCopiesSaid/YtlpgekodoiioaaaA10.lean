/- Open. -/
import Derived.Test.YtlpgekodoiioaaaA9
set_option linter.unusedSimpArgs false
set_option linter.unusedVariables false
namespace Go.Proofs.Ytlpgekodoiioaaa
open Go.RowKit

theorem open_no {W : AW} {name : ByteArray} {g : Bool} {fs : List Bool} (hg : goesB W.fails = (g, fs)) (h : g = false ∨ nameIdx name W.files = none) :
    W.open_ name = ((0, false), ({ W with fails := fs } : AW).note ⟨1, -1, name, emptyB, false⟩) := by
  unfold AW.open_
  rw [goes_eq, hg]
  rcases h with rfl | h
  · rfl
  · simp only [h]

theorem open_yes {W : AW} {name : ByteArray} {fs : List Bool} {i : Nat} (hg : goesB W.fails = (true, fs)) (h : nameIdx name W.files = some i) :
    W.open_ name = (((W.handles.length : Int), true), ({ W with fails := fs, handles := W.handles ++ [⟨i, 0, false⟩] } : AW).note ⟨1, W.handles.length, name, emptyB, true⟩) := by
  unfold AW.open_
  rw [goes_eq, hg]
  simp only [h]

theorem info86 : (Try.prog.info? 86).map (fun i => (i.zero, i.size, i.bytes)) = some (some (.agg #[.int .i64 0, .int .i64 0, .bool false]), 3, 24) := by kernel_rfl

section
variable {W0 w : World} {L : List HProp} {p n : Nat} {W : AW}

def OpenP (W0 : World) (L : List HProp) (p : Nat) (r : (Int × Bool) × AW) (e : Ending) (w' : World) : Prop :=
  e = .returned (.tuple #[.int .i64 r.1.1, .bool r.1.2]) ∧ St W0 w' (worldAt p r.2 :: L)

theorem one_hCells (o : AHandle) : ∀ u ∈ hCells o, u.oneCell' = true := by
  intro u hu
  simp only [hCells, List.mem_cons, List.not_mem_nil, or_false] at hu
  rcases hu with rfl | rfl | rfl <;> rfl

set_option maxRecDepth 100000 in
set_option maxHeartbeats 1000000 in
theorem open_c (h : St W0 w (worldAt p W :: L)) (ok : W.Ok n) (hn : n ≤ 100000) (name : ByteArray) :
    Calls Try.prog 15 #[.pointer (some ⟨p, 0, none⟩), .string name] w fun e w' => OpenP W0 L p (W.open_ name) e w' := by
  unfold OpenP
  have hhn : W.handles.length ≤ 100000 := Nat.le_trans ok.handles hn
  have htn : W.trace.length ≤ 100000 := Nat.le_trans ok.trace hn
  have hfn : W.files.length ≤ 100000 := Nat.le_trans ok.few (by omega)
  obtain ⟨g, fs, hgf⟩ : ∃ g fs, goesB W.fails = (g, fs) := ⟨_, _, rfl⟩
  obtain ⟨r, hr⟩ : ∃ r, r = W.open_ name := ⟨_, rfl⟩
  rw [← hr]
  obtain ⟨ix, hix⟩ : ∃ ix, nameIdx name W.files = ix := ⟨_, rfl⟩
  have HR := Lib.hid (And.intro hr (And.intro hgf hix))
  obtain ⟨z, hz⟩ : ∃ z, idxI name W.files = z := ⟨_, rfl⟩
  have HZ := Lib.hid hz
  have hz' : idxI name W.files = z := hz
  obtain ⟨vf, vb, vh, vt, S⟩ := h.world_open
  unfold worldL at S
  simp only [List.cons_append, List.nil_append] at S
  obtain ⟨ha, hcap, rfl, _⟩ := (S.pull 3).own_form
  -- [p, files, tail, handles, trace, L]
  have S := S.allocC #[Value.string name] 9
  have HS := Lib.hid S
  have hmf : ∀ (fn : Fn) (first cap : Array Value) (w : World), (Instr.makeFunc fn first cap).run Try.prog w = .ok (.func fn first cap) w := fun _ _ _ _ => rfl
  clear h ok hr hix hz S
  go_enter_defers Try.func15, Try.ntmps15
  go_upto_region 3 with fail
  generalize w.heap.size = c at HS ⊢
  refine abs_wp HS.out ?_
  clear HS
  intro w2 S
  have d0 := S.cell
  have S := S.allocC #[Value.int .u8 1, .int .i64 (-1), .string name, .string ⟨#[]⟩, .bool false] 68
  have HS := Lib.hid S
  clear S
  go_upto_region 5 with fail
  generalize w2.heap.size = B at HS ⊢
  refine abs_wp HS.out ?_
  clear HS d0
  intro w3 S
  -- [B, c, p, files, tail, handles, trace, L]
  have HG := Lib.hid (goes_o ((S.pull 4).pull 3))
  unfold GoesPost at HG
  rw [hgf] at HG
  clear S hgf
  -- behind goes: [p, tail, B, c, files, handles, trace, L]
  go_upto_region 6 with (go_at_call 39; refine HG.out.mono ?_; rintro e w4 ⟨rfl, vb2, S⟩; have HS3 := Lib.hid S; clear S)
  refine abs_wp HS3.out ?_
  clear HS3 HG
  intro w4 S
  have d0 := S.cell
  have IC := Lib.hid (idx_c ((S.pull 3).pull 4) hfn)
  rw [hz'] at IC
  clear S
  have key : (g = false ∨ ix = none) ∨ ∃ i, g = true ∧ ix = some i := by
    cases g with
    | false => exact .inl (.inl rfl)
    | true => cases ix with
      | none => exact .inl (.inr rfl)
      | some i => exact .inr ⟨i, rfl, rfl⟩
  rcases key with (rfl | rfl) | ⟨i, rfl, rfl⟩
  · go_wp2_with (go_at_call 40; refine IC.out.mono ?_; rintro e w5 ⟨rfl, S⟩; have HS5 := Lib.hid S; clear S)
    have hr := HR.out.1.trans (open_no HR.out.2.1 (.inl rfl))
    subst hr
    have X := HS5.out
    have T := (((((X.pull 4).pull 6).pull 6).pull 6).pull 4).pull 6
    have T2 := ((St.world_close (W := { W with fails := fs }) (L := _ :: _ :: L) (by unfold worldL; exact T)).pull 2).tail
    refine leaves_cons (f := 38) (args := #[.pointer (some ⟨p, 0, none⟩), .pointer (some ⟨B, 0, none⟩)]) (by simp) (by simp [go_sem]) ?_
    refine (note_d (o := ⟨1, -1, name, emptyB, false⟩) (T2.pull 1) htn .returning).mono ?_
    rintro e u' w6 ⟨rfl, rfl, S⟩
    refine ⟨.tuple #[.int .i64 0, .bool false], by simp [results, Try.results15, go_sem, emptyB], rfl, S⟩
  · have hz1 : z = -1 := by rw [← hz']; unfold idxI; rw [HR.out.2.2]
    subst hz1
    have HZ2 := Lib.hid hz'
    cases g with
    | false =>
      go_wp2_with (go_at_call 40; refine IC.out.mono ?_; rintro e w5 ⟨rfl, S⟩; have HS5 := Lib.hid S; clear S)
      have hr := HR.out.1.trans (open_no HR.out.2.1 (.inr HR.out.2.2))
      subst hr
      have X := HS5.out
      have T := (((((X.pull 4).pull 6).pull 6).pull 6).pull 4).pull 6
      have T2 := ((St.world_close (W := { W with fails := fs }) (L := _ :: _ :: L) (by unfold worldL; exact T)).pull 2).tail
      refine leaves_cons (f := 38) (args := #[.pointer (some ⟨p, 0, none⟩), .pointer (some ⟨B, 0, none⟩)]) (by simp) (by simp [go_sem]) ?_
      refine (note_d (o := ⟨1, -1, name, emptyB, false⟩) (T2.pull 1) htn .returning).mono ?_
      rintro e u' w6 ⟨rfl, rfl, S⟩
      refine ⟨.tuple #[.int .i64 0, .bool false], by simp [results, Try.results15, go_sem, emptyB], rfl, S⟩
    | true =>
      go_wp2_with (go_at_call 40; refine IC.out.mono ?_; rintro e w5 ⟨rfl, S⟩; have HS5 := Lib.hid S; clear S)
      have hr := HR.out.1.trans (open_no HR.out.2.1 (.inr HR.out.2.2))
      subst hr
      have X := HS5.out
      have T := (((((X.pull 4).pull 6).pull 6).pull 6).pull 4).pull 6
      have T2 := ((St.world_close (W := { W with fails := fs }) (L := _ :: _ :: L) (by unfold worldL; exact T)).pull 2).tail
      refine leaves_cons (f := 38) (args := #[.pointer (some ⟨p, 0, none⟩), .pointer (some ⟨B, 0, none⟩)]) (by simp) (by simp [go_sem]) ?_
      refine (note_d (o := ⟨1, -1, name, emptyB, false⟩) (T2.pull 1) htn .returning).mono ?_
      rintro e u' w6 ⟨rfl, rfl, S⟩
      refine ⟨.tuple #[.int .i64 0, .bool false], by simp [results, Try.results15, go_sem, emptyB], rfl, S⟩
  · have hz1 : z = i := by rw [← hz']; unfold idxI; rw [HR.out.2.2]
    subst hz1
    have hi0 : (0 : Int) ≤ (i : Int) := by omega
    have hil : ¬ ((i : Int) < 0) := by omega
    go_upto_region 9 with (go_at_call 40; refine IC.out.mono ?_; rintro e w5 ⟨rfl, S⟩; have HS5 := Lib.hid S; clear S)
    have hr := HR.out.1.trans (open_yes HR.out.2.1 HR.out.2.2)
    subst hr
    refine abs_wp HS5.out ?_
    clear HS5 IC d0
    intro w5 S
    -- [files, c, p, tail, B, handles, trace, L]
    have dp := (S.pull 2).cell
    have dB := (S.pull 4).cell
    have fB := (S.pull 4).free
    have S := ((S.pull 4).set 1 (.int .i64 W.handles.length)).set 4 (.bool true)
    simp only [List.setIfInBounds_toArray, List.set_cons_zero, List.set_cons_succ] at S
    have HS := Lib.hid S
    clear S
    go_upto_region 10 with fail
    refine abs_wp HS.out ?_
    clear HS dp dB fB
    intro w6 S
    -- [B, files, c, p, tail, handles, trace, L]
    have dp := (S.pull 3).cell
    have fp := (S.pull 3).free
    have S1 := S.allocC #[Value.int .i64 i, .int .i64 0, .bool false] 86
    obtain ⟨ii, hi1, hz0, hz1, hz2⟩ := info_parts info86
    have A := Lib.hid fun o rest ops Q x => wpList_append_st (P := Try.prog) (o := o) (rest := rest) (ops := ops) (Q := Q) (a := x) (S1.pull 6) (rd_cells (sz := 3) (n := 1) (cap := 1) S1 (Nat.le_refl _) rfl) (one_hCells ⟨i, 0, false⟩) hi1 hz0 hz1 hz2 rfl (by unfold maxLen; omega) (by omega) Try.underlying76
    clear S S1 hi1 hz0 hz1 hz2
    go_wp2_with (at_builtin; refine A.out _ _ _ _ _ _ _ rfl rfl rfl rfl ?_; intro v' w7 S1 _; obtain ⟨a2, cap2, rfl, _⟩ := S1.own_form; clear dp fp; have dp := (S1.pull 5).cell; have fp := (S1.pull 5).free; have dB := (S1.pull 2).cell; have neB := (((S1.pull 5).pull 3).ne).symm; have neB2 := ((S1.pull 5).pull 3).ne; have S1 := Lib.hid S1)
    have X := ((S1.out.pull 5).set 2 (.slice a2 (W.handles.length + 1) cap2))
    simp only [List.setIfInBounds_toArray, List.set_cons_zero, List.set_cons_succ] at X
    have T := (((((((X.pull 5).pull 3).pull 4).pull 7).pull 5).pull 7).pull 7).pull 7
    have T2 := (((St.world_close (p := p) (vf := vf) (vb := vb2) (vh := .slice a2 (W.handles.length + 1) cap2) (vt := vt) (W := { W with fails := fs, handles := W.handles ++ [⟨i, 0, false⟩] }) (L := _ :: _ :: _ :: L) (by unfold worldL; rw [List.length_append, List.flatMap_append]; exact T)).pull 2).tail.pull 2).tail
    refine leaves_cons (f := 38) (args := #[.pointer (some ⟨p, 0, none⟩), .pointer (some ⟨B, 0, none⟩)]) (by simp) (by simp [go_sem]) ?_
    refine (note_d (o := ⟨1, W.handles.length, name, emptyB, true⟩) (T2.pull 1) htn .returning).mono ?_
    rintro e u' w6 ⟨rfl, rfl, S⟩
    refine ⟨.tuple #[.int .i64 W.handles.length, .bool true], by simp [results, Try.results15, go_sem, emptyB], rfl, S⟩
end
end Go.Proofs.Ytlpgekodoiioaaa
