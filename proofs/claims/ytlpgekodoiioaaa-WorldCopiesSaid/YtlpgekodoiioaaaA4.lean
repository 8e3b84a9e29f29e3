/- Drop. -/
import Derived.Test.YtlpgekodoiioaaaA3
set_option linter.unusedSimpArgs false
set_option linter.unusedVariables false
namespace Go.Proofs.Ytlpgekodoiioaaa
open Go.RowKit

theorem flat_setj {α : Type} {f : α → List Value} {k : Nat} (hf : ∀ x, (f x).length = k) {y : α} {v : Value} (r : List Value) : ∀ {l : List α} {i j : Nat} {x : α}, l[i]? = some x → j < k → f y = (f x).set j v → (l.flatMap f ++ r).set (i * k + j) v = (l.set i y).flatMap f ++ r
  | [], i, j, x, h, _, _ => by simp at h
  | a :: l, 0, j, x, h, hj, e => by
    simp at h; subst h
    simp only [List.flatMap_cons, Nat.zero_mul, Nat.zero_add, List.set_cons_zero, List.append_assoc]
    rw [List.set_append_left _ _ (by rw [hf]; exact hj), e]
  | a :: l, i + 1, j, x, h, hj, e => by
    have ih := flat_setj hf r (l := l) (i := i) (x := x) (by simpa using h) hj e
    simp only [List.flatMap_cons, List.set_cons_succ, List.append_assoc]
    rw [List.set_append_right _ _ (by rw [hf, Nat.add_mul]; omega), hf]
    rw [show (i + 1) * k + j - k = i * k + j by rw [Nat.add_mul]; omega, ih]

section
variable {W0 w : World} {L : List HProp} {p : Nat} {W : AW}

/-- The handles' array, beside the rest. -/
def handlesL (p b cap : Nat) (vf vb vt : Value) (W : AW) (hs : List AHandle) (rest : List Value) : List HProp :=
  [cellsB b (hs.flatMap hCells ++ rest).toArray 86, cellsB p #[vf, vb, .slice (some ⟨b, 0, none⟩) hs.length cap, vt] 78, ownS 62 2 vf W.files.length (W.files.flatMap fCells), tailS 4 vb (boolsV W.fails), ownS 68 5 vt W.trace.length (W.trace.flatMap oCells)]

theorem St.world_handles (h : St W0 w (worldAt p W :: L)) (hpos : 0 < W.handles.length) : ∃ b cap vf vb vt rest, W.handles.length ≤ cap ∧ cap ≤ maxLen ∧ cap * 3 ≤ W.handles.length * 3 + rest.length ∧ St W0 w (handlesL p b cap vf vb vt W W.handles rest ++ L) := by
  obtain ⟨vf, vb, vh, vt, hO⟩ := h.world_open
  unfold worldL at hO
  simp only [List.cons_append, List.nil_append] at hO
  obtain ⟨hl, hc⟩ := St.own_cases (hO.pull 3)
  obtain ⟨b, cap, rest, rfl, k1, k2, k3, s⟩ := hc.resolve_left (fun q => by have := q.2.1; omega)
  rw [hl] at k3
  exact ⟨b, cap, vf, vb, vt, rest, k1, k2, k3, s⟩

theorem St.world_hback {b cap : Nat} {vf vb vt : Value} {rest : List Value} {hs : List AHandle} (c1 : hs.length ≤ cap) (c2 : cap ≤ maxLen) (c3 : cap * 3 ≤ hs.length * 3 + rest.length)
    (h : St W0 w (handlesL p b cap vf vb vt W hs rest ++ L)) : St W0 w (worldAt p { W with handles := hs } :: L) := by
  unfold handlesL at h
  simp only [List.cons_append, List.nil_append] at h
  have h1 := h.own_mk (n := hs.length) (cap := cap) (sz := 3) (flat_len' hCells_len hs) c1 c2 (by rw [flat_len' hCells_len]; exact c3)
  refine St.world_close (vf := vf) (vb := vb) (vh := .slice (some ⟨b, 0, none⟩) hs.length cap) (vt := vt) ?_
  unfold worldL
  exact h1.push 3

set_option maxRecDepth 100000 in
theorem drop_c (h : St W0 w (worldAt p W :: L)) (x : Int) (hn : W.handles.length ≤ 100000) :
    Calls Try.prog 22 #[.pointer (some ⟨p, 0, none⟩), .int .i64 x] w fun e w' => e = .returned (.int .i64 (W.drop x).1) ∧ St W0 w' (worldAt p (W.drop x).2 :: L) := by
  by_cases hw : W.wrong x = 0
  · obtain ⟨i, rfl, hi, hx, hs⟩ := wrong_zero hw
    have hd : W.drop i = (0, W.setHandle i { W.handle i with shut := true }) := by unfold AW.drop; rw [if_neg (by simpa using hw)]; simp
    rw [hd]
    obtain ⟨b, cap, vf, vb, vt, rest, k1, k2, k3, S⟩ := h.world_handles (by omega)
    unfold handlesL at S
    simp only [List.cons_append, List.nil_append] at S
    have FG := Lib.hid (find_good S hx hs hn)
    have c2 := (handle_cells S hx).2.2
    have fb := S.free
    have HS := Lib.hid S
    have HX := Lib.hid hx
    have HC := Lib.hid (And.intro k1 (And.intro k2 k3))
    clear h hw hd S hx hs k1 k2 k3
    go_enter Try.func22, Try.ntmps22
    go_wp2_with (go_at_call 42; refine FG.out.mono ?_; rintro e w' ⟨rfl, rfl⟩)
    go_ret
    refine ⟨rfl, ?_⟩
    have S := HS.out.set (i * 3 + 2) (.bool true)
    simp only [List.setIfInBounds_toArray] at S
    rw [flat_setj hCells_len (y := { W.handle i with shut := true }) rest HX.out (by omega) rfl] at S
    exact St.world_hback (hs := W.handles.set i { W.handle i with shut := true }) (by simpa using HC.out.1) HC.out.2.1 (by simpa using HC.out.2.2) (by unfold handlesL; rw [List.length_set]; exact S)
  · obtain ⟨k, hk⟩ : ∃ k, W.wrong x = k := ⟨_, rfl⟩
    have k0 : k ≠ 0 := fun q => hw (hk.trans q)
    have hd : W.drop x = (k, W) := by unfold AW.drop; rw [if_pos hw, hk]
    rw [hd]
    have FB := Lib.hid (find_bad h hk k0 hn)
    have kb : (k == 0) = false := by simpa using k0
    have HS := Lib.hid h
    clear h hw hd hk k0
    go_enter Try.func22, Try.ntmps22
    go_wp2_with (go_at_call 42; refine FB.out.mono ?_; rintro e w' ⟨rfl, rfl⟩)
    go_ret
    exact ⟨rfl, HS.out⟩
end
end Go.Proofs.Ytlpgekodoiioaaa
