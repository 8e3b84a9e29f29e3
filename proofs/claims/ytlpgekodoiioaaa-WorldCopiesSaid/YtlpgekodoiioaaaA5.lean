/- Close. -/
import Derived.Test.YtlpgekodoiioaaaA4
import Derived.Test.YtlpgekodoiioaaaFind
set_option linter.unusedSimpArgs false
set_option linter.unusedVariables false
namespace Go.Proofs.Ytlpgekodoiioaaa
open Go.RowKit

section
variable {W0 w : World} {L : List HProp} {p : Nat} {W : AW}

def CloseP (W0 : World) (L : List HProp) (p : Nat) (r : (Bool × Int) × AW) (e : Ending) (w' : World) : Prop :=
  e = .returned (.tuple #[.bool r.1.1, .int .i64 r.1.2]) ∧ St W0 w' (worldAt p r.2 :: L)

set_option maxRecDepth 100000 in
theorem close_c (h : St W0 w (worldAt p W :: L)) (x : Int) (hn : W.handles.length ≤ 100000) (ht : W.trace.length ≤ 100000) :
    Calls Try.prog 17 #[.pointer (some ⟨p, 0, none⟩), .int .i64 x] w fun e w' => CloseP W0 L p (W.close x) e w' := by
  unfold CloseP
  by_cases hw : W.wrong x = 0
  · obtain ⟨i, rfl, hi, hx, hs⟩ := wrong_zero hw
    have hd : W.close i = ((W.goes.1, 0), (W.goes.2.setHandle i { W.handle i with shut := true }).note ⟨4, i, emptyB, emptyB, W.goes.1⟩) := by unfold AW.close; rw [if_neg (by simpa using hw)]; simp
    rw [hd, goes_eq]
    obtain ⟨b, cap, vf, vb, vt, rest, k1, k2, k3, S⟩ := h.world_handles (by omega)
    unfold handlesL at S
    simp only [List.cons_append, List.nil_append] at S
    have FG := Lib.hid (find_good S hx hs hn)
    have HX := Lib.hid hx
    have HC := Lib.hid (And.intro k1 (And.intro k2 k3))
    -- [b, p, files, tail, trace, L]
    have S := S.allocC #[Value.int .u8 4, .int .i64 i, .string ⟨#[]⟩, .string ⟨#[]⟩, .bool false] 68
    have HS := Lib.hid S
    clear h hw hd hx hs k1 k2 k3 S
    go_enter_defers Try.func17, Try.ntmps17
    go_upto_region 6 with (go_at_call 42; refine FG.out.mono ?_; rintro e w' ⟨rfl, rfl⟩)
    generalize w'.heap.size = B at HS ⊢
    refine abs_wp HS.out ?_
    clear HS
    intro w2 S
    -- [B, b, p, files, tail, trace, L]
    have HG := Lib.hid (goes_o (((S.pull 4).pull 3)))
    -- [p, tail, B, b, files, trace, L]
    have HS := Lib.hid S
    clear S FG
    go_wp2_with (go_at_call 39; refine HG.out.mono ?_; rintro e w3 ⟨rfl, vb2, S⟩; have dB := (S.pull 2).cell; have fB := (S.pull 2).free; have cb := (handle_cells (S.pull 3) HX.out).2.2; have fb := (S.pull 3).free; have ne := ((S.pull 3).pull 3).ne; have HS3 := Lib.hid S; clear S)
    have S := ((((HS3.out.pull 2).set 4 (.bool (goesB W.fails).1)).pull 3).set (i * 3 + 2) (.bool true))
    simp only [List.setIfInBounds_toArray, List.set_cons_zero, List.set_cons_succ] at S
    rw [flat_setj hCells_len (y := { W.handle i with shut := true }) rest HX.out (by omega) rfl] at S
    -- [b', B, p, tail', files, trace, L]
    have T := (((((S.pull 1).pull 5).pull 4).pull 5).pull 5).pull 5
    -- [b', p, files, tail', trace, B, L]
    have T2 := St.world_hback (p := p) (W := { W with fails := (goesB W.fails).2 }) (hs := W.handles.set i { W.handle i with shut := true }) (vf := vf) (vb := vb2) (vt := vt) (rest := rest) (by simpa using HC.out.1) HC.out.2.1 (by simpa using HC.out.2.2) (by unfold handlesL; rw [List.length_set]; exact T)
    refine leaves_cons (f := 38) (args := #[.pointer (some ⟨p, 0, none⟩), .pointer (some ⟨B, 0, none⟩)]) (by simp) (by simp [go_sem]) ?_
    refine (note_d (o := ⟨4, i, emptyB, emptyB, (goesB W.fails).1⟩) (T2.pull 1) ht .returning).mono ?_
    rintro e u' w4 ⟨rfl, rfl, S⟩
    refine ⟨.tuple #[.bool (goesB W.fails).1, .int .i64 0], by simp [results, Try.results17, go_sem], rfl, S⟩
  · obtain ⟨k, hk⟩ : ∃ k, W.wrong x = k := ⟨_, rfl⟩
    have k0 : k ≠ 0 := fun q => hw (hk.trans q)
    have hd : W.close x = ((false, k), W) := by unfold AW.close; rw [if_pos hw, hk]
    rw [hd]
    have FB := Lib.hid (find_bad h hk k0 hn)
    have kb : (k != 0) = true := by simpa using k0
    have HS := Lib.hid h
    clear h hw hd hk k0
    go_enter_defers Try.func17, Try.ntmps17
    go_wp2_with (go_at_call 42; refine FB.out.mono ?_; rintro e w' ⟨rfl, rfl⟩)
    exact ⟨.tuple #[.bool false, .int .i64 k], by simp [results, Try.results17, go_sem], rfl, HS.out⟩
end
end Go.Proofs.Ytlpgekodoiioaaa
