/- Read. -/
import Derived.Test.YtlpgekodoiioaaaA7
set_option linter.unusedSimpArgs false
set_option linter.unusedVariables false
namespace Go.Proofs.Ytlpgekodoiioaaa
open Go.RowKit

theorem read_stop {W : AW} {i : Nat} {fs : List Bool} (hw : W.wrong i = 0) (hg : goesB W.fails = (false, fs)) :
    W.read i = ((3, emptyB, 0), ({ W with fails := fs } : AW).note ⟨2, i, emptyB, emptyB, false⟩) := by
  unfold AW.read
  rw [if_neg (by simpa using hw), goes_eq, hg, if_pos rfl]

theorem read_end {W : AW} {i : Nat} {fs : List Bool} {l : List UInt8} (hw : W.wrong i = 0) (hg : goesB W.fails = (true, fs)) (hl : List.drop (W.handle i).pos (W.file (W.handle i).file).text.toList = l) (h0 : l = []) :
    W.read i = ((2, emptyB, 0), ({ W with fails := fs } : AW).note ⟨2, i, emptyB, emptyB, true⟩) := by
  unfold AW.read
  rw [if_neg (by simpa using hw), goes_eq, hg, if_neg (by simp)]
  exact if_pos (hl.trans h0)

theorem read_line {W : AW} {i : Nat} {fs : List Bool} {l ln : List UInt8} {en : Bool} (hw : W.wrong i = 0) (hg : goesB W.fails = (true, fs)) (hl : List.drop (W.handle i).pos (W.file (W.handle i).file).text.toList = l) (h0 : l ≠ []) (he : lineOf l = (ln, en)) :
    W.read i = ((1, bytesOf ln, 0), ({ W with fails := fs, handles := W.handles.set i { W.handle i with pos := (W.handle i).pos + ln.length + (if en then 1 else 0) } } : AW).note ⟨2, i, emptyB, bytesOf ln, true⟩) := by
  subst hl
  unfold AW.read
  rw [if_neg (by simpa using hw), goes_eq, hg, if_neg (by simp)]
  refine (if_neg h0).trans ?_
  simp only [Int.toNat_natCast, he]
  rfl

section
variable {W0 w : World} {L : List HProp} {p n : Nat} {W : AW}

theorem St.world_back3 {bf fcap b cap : Nat} {frest rest : List Value} {vb vt : Value} {files : List AFile} {fails : List Bool} {hs : List AHandle} (hl : hs.length = W.handles.length) (m : files.length ≤ fcap ∧ fcap ≤ maxLen ∧ fcap * 2 ≤ files.length * 2 + frest.length) (c : W.handles.length ≤ cap ∧ cap ≤ maxLen ∧ cap * 3 ≤ W.handles.length * 3 + rest.length)
    (h : St W0 w (cellsB bf (files.flatMap fCells ++ frest).toArray 62 :: cellsB b (hs.flatMap hCells ++ rest).toArray 86 :: cellsB p #[.slice (some ⟨bf, 0, none⟩) files.length fcap, vb, .slice (some ⟨b, 0, none⟩) W.handles.length cap, vt] 78 :: tailS 4 vb (boolsV fails) :: ownS 68 5 vt W.trace.length (W.trace.flatMap oCells) :: L)) :
    St W0 w (worldAt p { W with fails := fails, files := files, handles := hs } :: L) := by
  rw [← hl] at h c
  exact St.world_back2 (W := { W with handles := hs }) m c h

def ReadP (W0 : World) (L : List HProp) (p : Nat) (r : (Int × ByteArray × Int) × AW) (e : Ending) (w' : World) : Prop :=
  e = .returned (.tuple #[.int .u8 r.1.1, .string r.1.2.1, .int .i64 r.1.2.2]) ∧ St W0 w' (worldAt p r.2 :: L)

set_option maxRecDepth 100000 in
set_option maxHeartbeats 1000000 in
theorem read_c (h : St W0 w (worldAt p W :: L)) (ok : W.Ok n) (hn : n ≤ 100000) (x : Int) :
    Calls Try.prog 23 #[.pointer (some ⟨p, 0, none⟩), .int .i64 x] w fun e w' => ReadP W0 L p (W.read x) e w' := by
  unfold ReadP
  have hhn : W.handles.length ≤ 100000 := Nat.le_trans ok.handles hn
  have htn : W.trace.length ≤ 100000 := Nat.le_trans ok.trace hn
  by_cases hw : W.wrong x = 0
  · obtain ⟨i, rfl, hi, hx, hs⟩ := wrong_zero hw
    obtain ⟨hfi, hpos⟩ := ok.files _ (handle_mem hx)
    have htx := ok.texts _ (file_mem hfi)
    obtain ⟨g, fs, hgf⟩ : ∃ g fs, goesB W.fails = (g, fs) := ⟨_, _, rfl⟩
    have hd : ¬ (W.wrong i ≠ 0) := by simpa using hw
    obtain ⟨r, hr⟩ : ∃ r, r = W.read i := ⟨_, rfl⟩
    rw [← hr]
    have HR := Lib.hid (And.intro hr (And.intro hw hgf))
    obtain ⟨b, cap, vf, vb, vt, rest, k1, k2, k3, S⟩ := h.world_handles (by omega)
    unfold handlesL at S
    simp only [List.cons_append, List.nil_append] at S
    have FG := Lib.hid (find_good S hx hs hhn)
    have HX := Lib.hid hx
    have HC := Lib.hid (And.intro k1 (And.intro k2 k3))
    obtain ⟨hl, hc⟩ := St.own_cases (S.pull 2)
    obtain ⟨bf, fcap, frest, rfl, m1, m2, m3, S⟩ := hc.resolve_left (fun q => by have := q.2.1; omega)
    rw [hl] at m3
    have HM := Lib.hid (And.intro m1 (And.intro m2 m3))
    obtain ⟨F, hF⟩ : ∃ F, W.file (W.handle i).file = F := ⟨_, rfl⟩
    have hfg := file_get hfi
    rw [hF] at htx hpos hfg
    have HFI := Lib.hid hfg
    clear hfg
    have HFF := Lib.hid hF
    clear hF
    -- [bf, b, p, tail, trace, L]
    have S := S.allocC #[Value.int .u8 2, .int .i64 i, .string ⟨#[]⟩, .string ⟨#[]⟩, .bool false] 68
    have HS := Lib.hid S
    have hflt : ((W.handle i).file : Int) < (W.files.length : Int) := by omega
    clear h hw hd hx hs k1 k2 k3 S hl hc m1 m2 m3 ok hr
    go_enter_defers Try.func23, Try.ntmps23
    go_upto_region 6 with (go_at_call 42; refine FG.out.mono ?_; rintro e w' ⟨rfl, rfl⟩)
    generalize w'.heap.size = B at HS ⊢
    refine abs_wp HS.out ?_
    clear HS FG
    intro w2 S
    -- [B, bf, b, p, tail, trace, L]
    have HG := Lib.hid (goes_o ((S.pull 4).pull 4))
    unfold GoesPost at HG
    rw [hgf] at HG
    clear S hgf
    -- behind goes: [p, tail, B, bf, b, trace, L]
    cases g with
    | false =>
      go_wp2_with (go_at_call 39; refine HG.out.mono ?_; rintro e w3 ⟨rfl, vb2, S⟩; have dB := (S.pull 2).cell; have fB := (S.pull 2).free; have HS3 := Lib.hid S; clear S)
      have hr := HR.out.1.trans (read_stop HR.out.2.1 HR.out.2.2)
      subst hr
      have S := (HS3.out.pull 2).set 4 (.bool false)
      simp only [List.setIfInBounds_toArray, List.set_cons_zero, List.set_cons_succ] at S
      have T2 := St.world_back2 (W := W) (files := W.files) (fails := fs) HM.out HC.out (by exact (((((S.pull 5).pull 3).pull 3).pull 5).pull 5))
      refine leaves_cons (f := 38) (args := #[.pointer (some ⟨p, 0, none⟩), .pointer (some ⟨B, 0, none⟩)]) (by simp) (by simp [go_sem]) ?_
      refine (note_d (o := ⟨2, i, emptyB, emptyB, false⟩) (T2.pull 1) htn .returning).mono ?_
      rintro e u' w4 ⟨rfl, rfl, S⟩
      refine ⟨.tuple #[.int .u8 3, .string emptyB, .int .i64 0], by simp [results, Try.results23, go_sem, emptyB], rfl, S⟩
    | true =>
      go_upto_region 9 with (go_at_call 39; refine HG.out.mono ?_; rintro e w3 ⟨rfl, vb2, S⟩; have dB := (S.pull 2).cell; have fB := (S.pull 2).free; have HS3 := Lib.hid S; clear S)
      have S := (HS3.out.pull 2).set 4 (.bool true)
      simp only [List.setIfInBounds_toArray, List.set_cons_zero, List.set_cons_succ] at S
      refine abs_wp S ?_
      clear S HS3 dB fB
      intro w4 S
      -- [B, p, tail, bf, b, trace, L]
      have d0 := (S.pull 1).cell
      have ct := (file_cells (S.pull 3) HFI.out).2
      have ch := handle_cells (S.pull 4) HX.out
      have ch0 := ch.1
      have ch1 := ch.2.1
      clear ch
      have HS4 := Lib.hid S
      clear S
      have hp0 : (0 : Int) ≤ ((W.handle i).pos : Int) := by omega
      have hp1 : ((W.handle i).pos : Int) ≤ (F.text.size : Int) := by omega
      go_quiet (fail)
      have S := HS4.out.drewN nq
      have hdrop : List.drop (W.handle i).pos F.text.toList = (F.text.extract (W.handle i).pos F.text.size).data.toList := by
        rw [Lib.toList_data, Lib.extract_eq]
        simp only []
        refine (List.take_of_length_le ?_).symm
        rw [List.length_drop, ← Lib.size_eq]
        exact Nat.le_refl _
      have hRs : (F.text.extract (W.handle i).pos F.text.size).size ≤ 4000 := by
        rw [ByteArray.size_extract]; omega
      generalize F.text.extract (W.handle i).pos F.text.size = R at hdrop hRs ⊢
      generalize World.drewN _ nq = w5 at S ⊢
      clear HS4 d0 ct ch0 ch1 HG
      have HD := Lib.hid hdrop
      clear hdrop
      by_cases hR0 : R.data.toList = []
      · have hb : (R.toList == []) = true := by rw [Lib.toList_data, hR0]; rfl
        have hr := HR.out.1.trans (read_end HR.out.2.1 HR.out.2.2 (by rw [HFF.out]; exact HD.out) hR0)
        subst hr
        clear HR HD
        have HS := Lib.hid S
        clear S
        go_wp2_with fail
        have T2 := St.world_back2 (W := W) (files := W.files) (fails := fs) HM.out HC.out (by exact (((((HS.out.pull 5).pull 3).pull 3).pull 5).pull 5))
        refine leaves_cons (f := 38) (args := #[.pointer (some ⟨p, 0, none⟩), .pointer (some ⟨B, 0, none⟩)]) (by simp) (by simp [go_sem]) ?_
        refine (note_d (o := ⟨2, i, emptyB, emptyB, true⟩) (T2.pull 1) htn .returning).mono ?_
        rintro e u' w4 ⟨rfl, rfl, S⟩
        refine ⟨.tuple #[.int .u8 2, .string emptyB, .int .i64 0], by simp [results, Try.results23, go_sem, emptyB], rfl, S⟩
      · have hb : (R.toList == []) = false := by rw [Lib.toList_data]; simpa using hR0
        obtain ⟨ln, en, hl⟩ : ∃ ln en, lineOf R.data.toList = (ln, en) := ⟨_, _, rfl⟩
        have hr := HR.out.1.trans (read_line HR.out.2.1 HR.out.2.2 (by rw [HFF.out]; exact HD.out) hR0 hl)
        subst hr
        have CT := Lib.hid (cut_c (w := w5) R hRs)
        unfold CutP at CT
        unfold nl at CT
        rw [hl] at CT
        have HS := Lib.hid S
        clear S HR HD
        have hln : (bytesOf ln).size ≤ 4000 ∧ (bytesOf ln).size = ln.length := by
          have hz : R.data.toList.length = R.size := by rw [← Lib.size_eq]
          have hb2 : (bytesOf ln).size = ln.length := by simp [bytesOf, ByteArray.size]
          rcases lineOf_index R.data.toList with ⟨_, h2⟩ | ⟨j, _, h2, h3⟩
          · rw [h2] at hl; injection hl with e1 _; subst e1; omega
          · rw [h3] at hl; injection hl with e1 _; subst e1; have h5 : (List.take j R.data.toList).length ≤ R.data.toList.length := List.length_take_le' .. ; rw [hz] at h5; exact ⟨by rw [hb2]; exact Nat.le_trans h5 hRs, hb2⟩
        obtain ⟨hln1, hln2⟩ := hln
        have hwr : IntKind.i64.wrap (((W.handle i).pos : Int) + ((bytesOf ln).size : Int)) = (W.handle i).pos + (bytesOf ln).size := IntWalk.i64_in _ (by omega)
        have hwr2 : IntKind.i64.wrap (((W.handle i).pos : Int) + ((bytesOf ln).size : Int) + 1) = (W.handle i).pos + (bytesOf ln).size + 1 := IntWalk.i64_in _ (by omega)
        generalize hbl : bytesOf ln = bl at *
        go_upto_region 13 with (go_at_call 48; refine CT.out.mono ?_; rintro e w6 ⟨⟨a, rfl⟩, n6, rfl⟩)
        refine abs_wp (HS.out.drewN _) ?_
        clear HS CT
        intro w7 S
        have c1 := (handle_cells (S.pull 4) HX.out).2.1
        have fb := (S.pull 4).free
        have HS := Lib.hid S
        clear S
        go_upto_region 14 with fail
        have S := (HS.out.pull 4).set (i * 3 + 1) (.int .i64 (((W.handle i).pos + ln.length : Nat) : Int))
        simp only [List.setIfInBounds_toArray] at S
        rw [flat_setj hCells_len (y := { W.handle i with pos := (W.handle i).pos + ln.length }) rest HX.out (by omega) rfl] at S
        rw [Int.natCast_add] at S
        refine abs_wp S ?_
        clear S HS c1 fb
        intro w8 S
        -- [b, B, p, tail, bf, trace, L]
        have hlt : i < W.handles.length := hi
        have HX2 := Lib.hid (show (W.handles.set i { W.handle i with pos := (W.handle i).pos + ln.length })[i]? = some { W.handle i with pos := (W.handle i).pos + ln.length } by rw [List.getElem?_set_self hlt])
        have c1 := (handle_cells S HX2.out).2.1
        have fb := S.free
        have dB := (S.pull 1).cell
        have fB := (S.pull 1).free
        have ne := (S.pull 1).ne
        have HS := Lib.hid S
        clear S
        cases en with
        | true =>
          go_wp2_with fail
          have S := HS.out.set (i * 3 + 1) (.int .i64 (((W.handle i).pos + ln.length + 1 : Nat) : Int))
          simp only [List.setIfInBounds_toArray] at S
          rw [flat_setj hCells_len (y := { W.handle i with pos := (W.handle i).pos + ln.length + 1 }) rest HX2.out (by omega) rfl, List.set_set] at S
          rw [Int.natCast_add, Int.natCast_add] at S
          have S := (S.pull 1).set 3 (.string bl)
          simp only [List.setIfInBounds_toArray, List.set_cons_zero, List.set_cons_succ] at S
          -- [B, b, p, tail, bf, trace, L]
          have T2 := St.world_back3 (W := W) (files := W.files) (fails := fs) (hs := W.handles.set i { W.handle i with pos := (W.handle i).pos + ln.length + 1 }) (by rw [List.length_set]) HM.out HC.out (by exact ((((S.pull 5).pull 4).pull 4).pull 4).pull 5)
          refine leaves_cons (f := 38) (args := #[.pointer (some ⟨p, 0, none⟩), .pointer (some ⟨B, 0, none⟩)]) (by simp) (by simp [go_sem]) ?_
          refine (note_d (o := ⟨2, i, emptyB, bl, true⟩) (T2.pull 1) htn .returning).mono ?_
          rintro e u' w4 ⟨rfl, rfl, S⟩
          refine ⟨.tuple #[.int .u8 1, .string bl, .int .i64 0], by simp [results, Try.results23, go_sem], rfl, S⟩
        | false =>
          go_wp2_with fail
          have S := (HS.out.pull 1).set 3 (.string bl)
          simp only [List.setIfInBounds_toArray, List.set_cons_zero, List.set_cons_succ] at S
          -- [B, b, p, tail, bf, trace, L]
          have T2 := St.world_back3 (W := W) (files := W.files) (fails := fs) (hs := W.handles.set i { W.handle i with pos := (W.handle i).pos + ln.length }) (by rw [List.length_set]) HM.out HC.out (by exact ((((S.pull 5).pull 4).pull 4).pull 4).pull 5)
          refine leaves_cons (f := 38) (args := #[.pointer (some ⟨p, 0, none⟩), .pointer (some ⟨B, 0, none⟩)]) (by simp) (by simp [go_sem]) ?_
          refine (note_d (o := ⟨2, i, emptyB, bl, true⟩) (T2.pull 1) htn .returning).mono ?_
          rintro e u' w4 ⟨rfl, rfl, S⟩
          refine ⟨.tuple #[.int .u8 1, .string bl, .int .i64 0], by simp [results, Try.results23, go_sem], rfl, S⟩
  · obtain ⟨k, hk⟩ : ∃ k, W.wrong x = k := ⟨_, rfl⟩
    have k0 : k ≠ 0 := fun q => hw (hk.trans q)
    have hd : W.read x = ((0, emptyB, k), W) := by unfold AW.read; rw [if_pos hw, hk]
    rw [hd]
    have FB := Lib.hid (find_bad h hk k0 hhn)
    have kb : (k != 0) = true := by simpa using k0
    have HS := Lib.hid h
    clear h hw hd hk k0 ok
    go_enter_defers Try.func23, Try.ntmps23
    go_wp2_with (go_at_call 42; refine FB.out.mono ?_; rintro e w' ⟨rfl, rfl⟩)
    exact ⟨.tuple #[.int .u8 0, .string emptyB, .int .i64 k], by simp [results, Try.results23, go_sem, emptyB], rfl, HS.out⟩
end
end Go.Proofs.Ytlpgekodoiioaaa
