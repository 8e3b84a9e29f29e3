/- Write. -/
import Derived.Test.YtlpgekodoiioaaaA5
set_option linter.unusedSimpArgs false
set_option linter.unusedVariables false
namespace Go.Proofs.Ytlpgekodoiioaaa
open Go.RowKit

theorem file_get {W : AW} {i : Nat} (h : i < W.files.length) : W.files[i]? = some (W.file i) := by simp [AW.file, List.getD, List.getElem?_eq_getElem h]
theorem file_mem {W : AW} {i : Nat} (h : i < W.files.length) : W.file i ∈ W.files := List.mem_of_getElem? (file_get h)
theorem handle_mem {W : AW} {i : Nat} (h : W.handles[i]? = some (W.handle i)) : W.handle i ∈ W.handles := List.mem_of_getElem? h

section
variable {W0 w : World} {L : List HProp} {p n : Nat} {W : AW}

theorem St.world_back2 {bf fcap b cap : Nat} {frest rest : List Value} {vb vt : Value} {files : List AFile} {fails : List Bool} (m : files.length ≤ fcap ∧ fcap ≤ maxLen ∧ fcap * 2 ≤ files.length * 2 + frest.length) (c : W.handles.length ≤ cap ∧ cap ≤ maxLen ∧ cap * 3 ≤ W.handles.length * 3 + rest.length)
    (h : St W0 w (cellsB bf (files.flatMap fCells ++ frest).toArray 62 :: cellsB b (W.handles.flatMap hCells ++ rest).toArray 86 :: cellsB p #[.slice (some ⟨bf, 0, none⟩) files.length fcap, vb, .slice (some ⟨b, 0, none⟩) W.handles.length cap, vt] 78 :: tailS 4 vb (boolsV fails) :: ownS 68 5 vt W.trace.length (W.trace.flatMap oCells) :: L)) :
    St W0 w (worldAt p { W with fails := fails, files := files } :: L) := by
  have h1 := h.own_mk (n := files.length) (cap := fcap) (sz := 2) (flat_len' fCells_len files) m.1 m.2.1 (by rw [flat_len' fCells_len]; exact m.2.2)
  exact St.world_hback (p := p) (W := { W with fails := fails, files := files }) (hs := W.handles) (b := b) (cap := cap) (rest := rest) (vf := .slice (some ⟨bf, 0, none⟩) files.length fcap) (vb := vb) (vt := vt) c.1 c.2.1 c.2.2 (h1.push 2)

set_option maxRecDepth 100000 in
set_option maxHeartbeats 1000000 in
theorem write_c (h : St W0 w (worldAt p W :: L)) (ok : W.Ok n) (hn : n ≤ 100000) (x : Int) (s : ByteArray) (hs0 : s.size ≤ maxLen) :
    Calls Try.prog 16 #[.pointer (some ⟨p, 0, none⟩), .int .i64 x, .string s] w fun e w' => CloseP W0 L p (W.write x s) e w' := by
  unfold CloseP
  have hhn : W.handles.length ≤ 100000 := Nat.le_trans ok.handles hn
  have htn : W.trace.length ≤ 100000 := Nat.le_trans ok.trace hn
  unfold maxLen at hs0
  by_cases hw : W.wrong x = 0
  · obtain ⟨i, rfl, hi, hx, hs⟩ := wrong_zero hw
    obtain ⟨hfi, hpos⟩ := ok.files _ (handle_mem hx)
    have htx := ok.texts _ (file_mem hfi)
    obtain ⟨g, fs, hgf⟩ : ∃ g fs, goesB W.fails = (g, fs) := ⟨_, _, rfl⟩
    obtain ⟨r, hr⟩ : ∃ r : Bool, r = (g && decide (s.size + (W.file (W.handle i).file).text.size ≤ 4000)) := ⟨_, rfl⟩
    have hd : W.write i s = ((r, 0), (if r = true then { W with fails := fs, files := W.files.set (W.handle i).file { W.file (W.handle i).file with text := (W.file (W.handle i).file).text ++ s } } else { W with fails := fs }).note ⟨3, i, emptyB, s, r⟩) := by
      rw [hr]; unfold AW.write; rw [if_neg (by simpa using hw), goes_eq, hgf]; simp
    rw [hd]
    have HR := Lib.hid hr
    clear hr
    obtain ⟨b, cap, vf, vb, vt, rest, k1, k2, k3, S⟩ := h.world_handles (by omega)
    unfold handlesL at S
    simp only [List.cons_append, List.nil_append] at S
    have FG := Lib.hid (find_good S hx hs hhn)
    have HX := Lib.hid hx
    have HC := Lib.hid (And.intro k1 (And.intro k2 k3))
    obtain ⟨hl, hc⟩ := St.own_cases (S.pull 2)
    obtain ⟨bf, fcap, frest, rfl, m1, m2, m3, S⟩ := hc.resolve_left (fun q => by have := q.2.1; omega)
    rw [hl] at m3
    have HM := Lib.hid (And.intro m1 (And.intro m2 m3))
    have HFI := Lib.hid (file_get hfi)
    generalize hF : W.file (W.handle i).file = F at *
    have HFF := Lib.hid hF
    clear hF
    -- [bf, b, p, tail, trace, L]
    have S := S.allocC #[Value.int .u8 3, .int .i64 i, .string ⟨#[]⟩, .string s, .bool false] 68
    have HS := Lib.hid S
    have hflt : ((W.handle i).file : Int) < (W.files.length : Int) := by omega
    clear h hw hd hx hs k1 k2 k3 S hl hc m1 m2 m3 ok
    go_enter_defers Try.func16, Try.ntmps16
    go_upto_region 6 with (go_at_call 42; refine FG.out.mono ?_; rintro e w' ⟨rfl, rfl⟩)
    generalize w'.heap.size = B at HS ⊢
    -- [B, bf, b, p, tail, trace, L]
    have d0 := (HS.out.pull 3).cell
    have c0 := (handle_cells (HS.out.pull 2) HX.out).1
    go_quiet (fail)
    have S := HS.out.drewN nq
    generalize World.drewN _ nq = w2 at S ⊢
    clear HS d0 c0 FG
    have HG := Lib.hid (goes_o ((S.pull 4).pull 4))
    unfold GoesPost at HG
    rw [hgf] at HG
    have HS := Lib.hid S
    clear S HS
    -- behind goes: [p, tail, B, bf, b, trace, L]
    have hwr : IntKind.i64.wrap (4000 - (F.text.size : Int)) = 4000 - F.text.size := IntWalk.i64_in _ (by omega)
    clear hgf
    cases g with
    | true =>
      by_cases hfit : s.size + F.text.size ≤ 4000
      · have hr : r = true := by rw [HR.out]; simpa using hfit
        subst hr
        clear HR
        have hle : (s.size : Int) ≤ 4000 - (F.text.size : Int) := by omega
        go_upto_region 9 with (go_at_call 39; refine HG.out.mono ?_; rintro e w3 ⟨rfl, vb2, S⟩; have dB := (S.pull 2).cell; have fB := (S.pull 2).free; have ct := (file_cells (S.pull 3) HFI.out).2; have HS3 := Lib.hid S; clear S)
        have S := (HS3.out.pull 2).set 4 (.bool true)
        simp only [List.setIfInBounds_toArray, List.set_cons_zero, List.set_cons_succ] at S
        refine abs_wp S ?_
        clear S HS3 dB fB ct
        intro w4 S
        -- [B, p, tail, bf, b, trace, L]
        have dB := S.cell
        have ct := (file_cells (S.pull 3) HFI.out).2
        have ff := (S.pull 3).free
        have ne := ((S.pull 3).pull 1).ne
        have HS4 := Lib.hid S
        clear S
        go_wp2_with fail
        have S := (HS4.out.pull 3).set ((W.handle i).file * 2 + 1) (.string (F.text ++ s))
        simp only [List.setIfInBounds_toArray] at S
        rw [flat_setj fCells_len (y := { F with text := F.text ++ s }) frest HFI.out (by omega) rfl] at S
        -- [bf, B, p, tail, b, trace, L]
        have T2 := St.world_back2 (W := W) (files := W.files.set (W.handle i).file { F with text := F.text ++ s }) (fails := fs) (by simpa using HM.out) HC.out (by rw [List.length_set]; exact (((((S.pull 1).pull 5).pull 4).pull 4).pull 5).pull 5)
        refine leaves_cons (f := 38) (args := #[.pointer (some ⟨p, 0, none⟩), .pointer (some ⟨B, 0, none⟩)]) (by simp) (by simp [go_sem]) ?_
        refine (note_d (o := ⟨3, i, emptyB, s, true⟩) (T2.pull 1) htn .returning).mono ?_
        rintro e u' w4 ⟨rfl, rfl, S⟩
        refine ⟨.tuple #[.bool true, .int .i64 0], by simp [results, Try.results16, go_sem], rfl, S⟩
      · have hr : r = false := by rw [HR.out]; simpa using hfit
        subst hr
        clear HR
        have hle : ¬ (s.size : Int) ≤ 4000 - (F.text.size : Int) := by omega
        go_wp2_with (go_at_call 39; refine HG.out.mono ?_; rintro e w3 ⟨rfl, vb2, S⟩; have dB := (S.pull 2).cell; have fB := (S.pull 2).free; have ct := (file_cells (S.pull 3) HFI.out).2; have HS3 := Lib.hid S; clear S)
        have hdd : decide ((s.size : Int) ≤ 4000 - (F.text.size : Int)) = false := by simpa using hle
        rw [hdd]
        have S := (HS3.out.pull 2).set 4 (.bool false)
        simp only [List.setIfInBounds_toArray, List.set_cons_zero, List.set_cons_succ] at S
        -- [B, p, tail, bf, b, trace, L]
        have T2 := St.world_back2 (W := W) (files := W.files) (fails := fs) HM.out HC.out (by exact (((((S.pull 5).pull 3).pull 3).pull 5).pull 5))
        refine leaves_cons (f := 38) (args := #[.pointer (some ⟨p, 0, none⟩), .pointer (some ⟨B, 0, none⟩)]) (by simp) (by simp [go_sem]) ?_
        refine (note_d (o := ⟨3, i, emptyB, s, false⟩) (T2.pull 1) htn .returning).mono ?_
        rintro e u' w4 ⟨rfl, rfl, S⟩
        refine ⟨.tuple #[.bool false, .int .i64 0], by simp [results, Try.results16, go_sem], rfl, S⟩
    | false =>
      have hr : r = false := by rw [HR.out]; rfl
      subst hr
      clear HR
      go_wp2_with (go_at_call 39; refine HG.out.mono ?_; rintro e w3 ⟨rfl, vb2, S⟩; have dB := (S.pull 2).cell; have fB := (S.pull 2).free; have ct := (file_cells (S.pull 3) HFI.out).2; have HS3 := Lib.hid S; clear S)
      have S := (HS3.out.pull 2).set 4 (.bool false)
      simp only [List.setIfInBounds_toArray, List.set_cons_zero, List.set_cons_succ] at S
      -- [B, p, tail, bf, b, trace, L]
      have T2 := St.world_back2 (W := W) (files := W.files) (fails := fs) HM.out HC.out (by exact (((((S.pull 5).pull 3).pull 3).pull 5).pull 5))
      refine leaves_cons (f := 38) (args := #[.pointer (some ⟨p, 0, none⟩), .pointer (some ⟨B, 0, none⟩)]) (by simp) (by simp [go_sem]) ?_
      refine (note_d (o := ⟨3, i, emptyB, s, false⟩) (T2.pull 1) htn .returning).mono ?_
      rintro e u' w4 ⟨rfl, rfl, S⟩
      refine ⟨.tuple #[.bool false, .int .i64 0], by simp [results, Try.results16, go_sem], rfl, S⟩
  · obtain ⟨k, hk⟩ : ∃ k, W.wrong x = k := ⟨_, rfl⟩
    have k0 : k ≠ 0 := fun q => hw (hk.trans q)
    have hd : W.write x s = ((false, k), W) := by unfold AW.write; rw [if_pos hw, hk]
    rw [hd]
    have FB := Lib.hid (find_bad h hk k0 hhn)
    have kb : (k != 0) = true := by simpa using k0
    have HS := Lib.hid h
    clear h hw hd hk k0 ok
    go_enter_defers Try.func16, Try.ntmps16
    go_wp2_with (go_at_call 42; refine FB.out.mono ?_; rintro e w' ⟨rfl, rfl⟩)
    exact ⟨.tuple #[.bool false, .int .i64 k], by simp [results, Try.results16, go_sem], rfl, HS.out⟩
end
end Go.Proofs.Ytlpgekodoiioaaa
