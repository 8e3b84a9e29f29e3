/- Walks: May and what it calls. -/
import Derived.Test.YtciciaikajdenaaW1
namespace Go.Proofs.Ytciciaikajdenaa
open Go.RowKit

theorem may1_c (x : AWord) (w : World) :
    Calls Try.prog 71 #[wv x] w fun e w' => e = .returned (.bool (!x.ok)) ∧ Below w.heap.size w w' := by
  have H := Lib.hid (fun w => word_c x w)
  unfold wv at *
  go_enter Try.func71, Try.ntmps71
  go_wp2_with (go_at_call 72; refine (H.out _).mono ?_; rintro e w' ⟨rfl, hb⟩)
  go_ret
  refine ⟨rfl, ?_⟩
  exact ((Below.refl _ _).alloc (Nat.le_refl _) _).trans (hb.mono (by simp))

/-- The words of a list, one behind the other. -/
def flatW (ws : List AWord) : List Value := ws.flatMap wcells

theorem flat_get {α : Type} {f : α → List Value} {k : Nat} (hf : ∀ x, (f x).length = k) : ∀ (l : List α) (i j : Nat) (x : α), l[i]? = some x → j < k → (l.flatMap f)[i * k + j]? = (f x)[j]?
  | [], i, j, x, h, _ => by simp at h
  | a :: l, 0, j, x, h, hj => by
    simp at h; subst h
    simp only [List.flatMap_cons, Nat.zero_mul, Nat.zero_add]
    rw [List.getElem?_append_left (by rw [hf]; exact hj)]
  | a :: l, i + 1, j, x, h, hj => by
    simp only [List.flatMap_cons]
    rw [List.getElem?_append_right (by rw [hf, Nat.add_mul]; omega), hf]
    rw [show (i + 1) * k + j - k = i * k + j from by rw [Nat.add_mul]; omega]
    exact flat_get hf l i j x (by simpa using h) hj

theorem flat_len {α : Type} {f : α → List Value} {k : Nat} (hf : ∀ x, (f x).length = k) : ∀ (l : List α), (l.flatMap f).length = l.length * k
  | [] => by simp
  | a :: l => by simp only [List.flatMap_cons, List.length_append, List.length_cons, hf, flat_len hf l, Nat.add_mul]; omega

theorem wcells_len (x : AWord) : (wcells x).length = 4 := rfl
theorem flatW_len (ws : List AWord) : (flatW ws).length = ws.length * 4 := flat_len wcells_len ws

/-- The four cells of the i-th word of a slice that can be read. -/
theorem rd_word {w : World} {b off n cap : Nat} {ws : List AWord} (h : rd w 4 (.slice (some ⟨b, off, none⟩) n cap) ws.length (flatW ws)) {i : Nat} {x : AWord} (hx : ws[i]? = some x) :
    w.cell? ⟨b, off + i * 4, none⟩ = some (.int .u8 x.k) ∧ w.cell? ⟨b, off + i * 4 + 1, none⟩ = some (.int .i64 x.n) ∧ w.cell? ⟨b, off + i * 4 + 2, none⟩ = some (.string x.s) ∧ w.cell? ⟨b, off + i * 4 + 3, none⟩ = some (.int .i64 x.g) := by
  obtain ⟨_, h⟩ := h
  rcases h with ⟨_, h⟩ | ⟨b', off', cap', e, _, _, hr⟩
  · have := (List.getElem?_eq_some_iff.1 hx).1; omega
  · cases e
    have f0 := hr (i * 4 + 0) (.int .u8 x.k) (by unfold flatW; rw [flat_get wcells_len ws i 0 x hx (by omega)]; rfl)
    have f1 := hr (i * 4 + 1) (.int .i64 x.n) (by unfold flatW; rw [flat_get wcells_len ws i 1 x hx (by omega)]; rfl)
    have f2 := hr (i * 4 + 2) (.string x.s) (by unfold flatW; rw [flat_get wcells_len ws i 2 x hx (by omega)]; rfl)
    have f3 := hr (i * 4 + 3) (.int .i64 x.g) (by unfold flatW; rw [flat_get wcells_len ws i 3 x hx (by omega)]; rfl)
    simp only [← Nat.add_assoc] at f0 f1 f2 f3
    exact ⟨f0, f1, f2, f3⟩

set_option maxHeartbeats 400000 in
theorem index_c (v : Value) (ws : List AWord) (w : World) (h : rd w 4 v ws.length (flatW ws)) (hm : ws.length ≤ maxLen) :
    Calls Try.prog 114 #[v, .func (.func 71) #[] #[]] w fun e w' => (∃ r : Int, e = .returned (.int .i64 r) ∧ (decide (0 ≤ r)) = !(ws.all AWord.ok)) ∧ Below w.heap.size w w' := by
  obtain ⟨a, cap, rfl⟩ : ∃ a cap, v = .slice a ws.length cap := by
    rcases h.2 with ⟨⟨_, _, rfl⟩, e⟩ | ⟨b, off, cap, rfl, _⟩
    · exact ⟨_, _, by rw [e]⟩
    · exact ⟨_, _, rfl⟩
  have H := Lib.hid h; clear h
  go_enter Try.func114, Try.ntmps114
  go_wp2
  go_loopw [5, 8] (fun _ i wr => ∃ k : Nat, k ≤ ws.length ∧ i = .int .i64 k ∧ (ws.take k).all AWord.ok = true ∧ Below w.heap.size w wr) (fun _ i _ => ws.length - (intOf i).toNat)
  case atStart => exact ⟨0, Nat.zero_le _, rfl, rfl, Below.refl _ _⟩
  case round =>
    obtain ⟨k, hk, rfl, hall, hb⟩ := hrel
    by_cases hlt : k < ws.length
    · obtain ⟨x, hx⟩ : ∃ x, ws[k]? = some x := ⟨_, List.getElem?_eq_getElem hlt⟩
      obtain ⟨b, off, rfl⟩ : ∃ b off, a = some ⟨b, off, none⟩ := by
        rcases H.out.2 with ⟨_, e⟩ | ⟨b, off, cap', e, _⟩
        · omega
        · injection e with e1 _ _; exact ⟨_, _, e1⟩
      obtain ⟨f0, f1, f2, f3⟩ := rd_word (H.out.mono hb) hx
      have H1 := Lib.hid (may1_c x)
      unfold wv at H1
      unfold maxLen at hm
      clear H
      cases hok : x.ok
      · have hok' : Hid (x.ok = false) := hok
        go_wp2_with (go_at_call 71; refine (H1.out _).mono ?_; rintro e w' ⟨rfl, hb2⟩)
        go_ret
        refine ⟨⟨k, rfl, ?_⟩, hb.trans (hb2.mono hb.size)⟩
        have : ws.all AWord.ok = false := by
          rw [List.all_eq_false]
          exact ⟨x, List.mem_of_getElem? hx, by simp [hok'.out]⟩
        rw [this]; simp
      · have hok' : Hid (x.ok = true) := hok
        go_wp2_with (go_at_call 71; refine (H1.out _).mono ?_; rintro e w' ⟨rfl, hb2⟩)
        refine ⟨⟨k + 1, by omega, by go_num, ?_, hb.trans (hb2.mono hb.size)⟩, by simp [intOf]; omega⟩
        rw [List.take_add_one, hx]
        simp [hall, hok'.out]
    · go_wp2
      go_ret
      obtain rfl : k = ws.length := by omega
      rw [List.take_of_length_le (Nat.le_refl _)] at hall
      exact ⟨⟨-1, rfl, by rw [hall]; rfl⟩, hb⟩

theorem contains_c (v : Value) (ws : List AWord) (w : World) (h : rd w 4 v ws.length (flatW ws)) (hm : ws.length ≤ maxLen) :
    Calls Try.prog 70 #[v, .func (.func 71) #[] #[]] w fun e w' => e = .returned (.bool (!(ws.all AWord.ok))) ∧ Below w.heap.size w w' := by
  have H := Lib.hid (index_c v ws w h hm); clear h
  go_enter Try.func70, Try.ntmps70
  go_wp2_with (go_at_call 114; refine H.out.mono ?_; rintro e w' ⟨⟨r, rfl, hr⟩, hb⟩; have HR := Lib.hid hr; clear hr)
  all_goals
    go_ret
    refine ⟨?_, ‹_›⟩
    rw [← HR.out]; simp [*]

/-- A cell's value, its words' slice v. -/
def cv (c : ACell) (v : Value) : Value := .agg #[.int .u8 c.k, .int .i64 c.n, v]

set_option maxHeartbeats 400000 in
theorem may_c (c : ACell) (v : Value) (w : World) (h : rd w 4 v c.ws.length (flatW c.ws)) (hm : c.ws.length ≤ maxLen) :
    Calls Try.prog 18 #[cv c v] w fun e w' => e = .returned (.bool c.ok) ∧ Below w.heap.size w w' := by
  obtain ⟨a, cap, rfl⟩ : ∃ a cap, v = .slice a c.ws.length cap := by
    rcases h.2 with ⟨⟨_, _, rfl⟩, e⟩ | ⟨b, off, cap, rfl, _⟩
    · exact ⟨_, _, by rw [e]⟩
    · exact ⟨_, _, rfl⟩
  have H := Lib.hid (fun w' (hb : Below w.heap.size w w') => contains_c (.slice a c.ws.length cap) c.ws w' (h.mono hb) hm); clear h
  unfold maxLen at hm
  unfold cv
  obtain ⟨k, n, ws⟩ := c
  simp only at *
  rcases (show k = 1 ∨ k = 2 ∨ k = 3 ∨ (k ≠ 1 ∧ k ≠ 2 ∧ k ≠ 3) by omega) with rfl | rfl | rfl | ⟨k1, k2, k3⟩
  case inr.inr.inr =>
    have h1 := beq_eq_false_iff_ne.2 k1
    have h2 := beq_eq_false_iff_ne.2 k2
    have h3 := beq_eq_false_iff_ne.2 k3
    go_enter Try.func18, Try.ntmps18
    go_wp2
    go_ret
    exact ⟨by simp [ACell.ok, ACell.headOk, k1, k2, k3], (Below.refl _ _).alloc (Nat.le_refl _) _⟩
  all_goals
    go_enter Try.func18, Try.ntmps18
    go_wp2_with (go_at_call 70; refine (H.out _ ((Below.refl _ _).alloc (Nat.le_refl _) _)).mono ?_; rintro e w' ⟨rfl, hb⟩)
    all_goals
      go_ret
      refine ⟨?_, ?_⟩
      · go_tidy
        try simp only [bne_iff_ne, bne_eq_false_iff_eq, ne_eq] at *
        simp [ACell.ok, ACell.headOk, *]
        try omega
      · first
        | exact (Below.refl _ _).alloc (Nat.le_refl _) _
        | exact ((Below.refl _ _).alloc (Nat.le_refl _) _).trans (hb.mono (by simp))

end Go.Proofs.Ytciciaikajdenaa
