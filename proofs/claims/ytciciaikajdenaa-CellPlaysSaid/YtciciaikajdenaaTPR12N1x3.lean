/- N1: values and words as plain data; how they read as frozen data; what the document asks of a value; a walk, a building, a dropping in the heap of layer 23. No program in sight. -/
import Derived.Test.YtciciaikajdenaaRows
import Derived.WalkSpells
import Derived.WalkLawsBesides
import Derived.BigQuiet
import Derived.Deep.QuietTactic
import Derived.Lib.Hide
import Derived.Test.YtciciaikajdenaaTPR12HModel
import Derived.Test.YtciciaikajdenaaTPR12Am12
import Derived.Test.YtciciaikajdenaaTPR12Lb
set_option linter.unusedSimpArgs false
set_option linter.unusedVariables false
namespace Go.Proofs.Ytciciaikajdenaa
open Go.RowKit

inductive Val where
  | mk (kind n : Int) (s : ByteArray) (l : List Val)
def Val.kind : Val → Int | .mk k _ _ _ => k
def Val.n : Val → Int | .mk _ n _ _ => n
def Val.s : Val → ByteArray | .mk _ _ s _ => s
def Val.l : Val → List Val | .mk _ _ _ l => l
mutual
def valD : Val → List DV
  | .mk k n s l => [.v (.int .u8 k), .v (.int .i64 n), .v (.string s), .lst 4 (valR l)]
def valR : List Val → List (List DV)
  | [] => []
  | p :: l => valD p :: valR l
end
theorem valD_len : ∀ p : Val, (valD p).length = 4
  | .mk .. => rfl
theorem valR_get : ∀ {l : List Val} {j : Nat} {p : Val}, l[j]? = some p → (valR l)[j]? = some (valD p)
  | [], _, _, h => by simp at h
  | a :: l, 0, p, h => by simp at h; subst h; rfl
  | a :: l, j + 1, p, h => by
    have := valR_get (l := l) (j := j) (p := p) (by simpa using h)
    simpa [valR] using this
theorem valR_len : ∀ l : List Val, (valR l).length = l.length
  | [] => rfl
  | a :: l => by simp [valR, valR_len l]
theorem valR_append : ∀ (l m : List Val), valR (l ++ m) = valR l ++ valR m
  | [], m => rfl
  | a :: l, m => by simp [valR, valR_append l m]
theorem getS {α : Type} {l : List α} {i : Nat} (h : i < l.length) : ∃ x, l[i]? = some x := ⟨l[i], List.getElem?_eq_getElem h⟩
theorem rec_val {motive : Val → Prop} (step : ∀ k n s l, (∀ p ∈ l, motive p) → motive (.mk k n s l)) : ∀ p, motive p := by
  intro p
  refine Val.rec (motive_1 := motive) (motive_2 := fun l => ∀ p ∈ l, motive p) ?_ ?_ ?_ p
  · exact fun k n s l ih => step k n s l ih
  · intro p hp; cases hp
  · intro a l ha hl p hp
    rcases List.mem_cons.1 hp with rfl | h
    · exact ha
    · exact hl p h
mutual
/-- What comes in: no great text, no long list, a kind of eight bits. -/
def Val.low : Val → Prop
  | .mk k _ s l => (0 ≤ k ∧ k ≤ 255) ∧ s.size ≤ 140737488355328 ∧ l.length ≤ 140737488355328 ∧ Val.lowL l
def Val.lowL : List Val → Prop
  | [] => True
  | p :: l => p.low ∧ Val.lowL l
end
theorem Val.lowL_mem : ∀ {l : List Val}, Val.lowL l → ∀ p ∈ l, p.low
  | [], _, p, h => by cases h
  | a :: l, ⟨h1, h2⟩, p, h => by
    rcases List.mem_cons.1 h with rfl | h
    · exact h1
    · exact Val.lowL_mem h2 p h
theorem Val.lowL_of : ∀ {l : List Val}, (∀ p ∈ l, p.low) → Val.lowL l
  | [], _ => trivial
  | a :: l, h => ⟨h a (by simp), Val.lowL_of fun p hp => h p (by simp [hp])⟩
mutual
/-- Nodes. -/
def massV : Val → Nat
  | .mk _ _ _ l => 1 + massVL l
def massVL : List Val → Nat
  | [] => 0
  | p :: l => massV p + massVL l
end
theorem massV_pos : ∀ p : Val, 1 ≤ massV p
  | .mk .. => by simp only [massV]; omega
theorem massVL_append : ∀ l m : List Val, massVL (l ++ m) = massVL l + massVL m
  | [], m => by simp [massVL]
  | p :: l, m => by simp [massVL, massVL_append l m]; omega
theorem massVL_take {l : List Val} {k : Nat} {p : Val} (h : l[k]? = some p) : massVL (l.take (k + 1)) = massVL (l.take k) + massV p := by
  rw [List.take_add_one, h, massVL_append]
  simp [massVL]
theorem massVL_mem : ∀ {l : List Val} {p : Val}, p ∈ l → massV p ≤ massVL l
  | [], _, h => by cases h
  | a :: l, p, h => by
    simp only [massVL]
    rcases List.mem_cons.1 h with rfl | h
    · omega
    · have := massVL_mem h; omega
theorem massVL_len : ∀ l : List Val, l.length ≤ massVL l
  | [] => by simp
  | a :: l => by have := massVL_len l; have := massV_pos a; simp only [massVL, List.length_cons]; omega

mutual
/-- How many cells a value has. -/
def cellsV : Val → Nat
  | .mk k _ _ l => (if 10 < k then 1 else 0) + cellsL l
def cellsL : List Val → Nat
  | [] => 0
  | p :: l => cellsV p + cellsL l
end
theorem cellsL_append : ∀ l m : List Val, cellsL (l ++ m) = cellsL l + cellsL m
  | [], m => by simp [cellsL]
  | p :: l, m => by simp [cellsL, cellsL_append l m]; omega
theorem cellsL_take {l : List Val} {k : Nat} {p : Val} (h : l[k]? = some p) : cellsL (l.take (k + 1)) = cellsL (l.take k) + cellsV p := by
  rw [List.take_add_one, h, cellsL_append]
  simp [cellsL]
theorem cells_mass : ∀ p : Val, cellsV p ≤ massV p := by
  refine rec_val fun k n s l ih => ?_
  have : cellsL l ≤ massVL l := by
    induction l with
    | nil => simp [cellsL, massVL]
    | cons a l ih2 =>
      have h1 := ih a List.mem_cons_self
      have h2 := ih2 fun p hp => ih p (List.mem_cons_of_mem _ hp)
      simp only [cellsL, massVL]; omega
  simp only [cellsV, massV]
  split <;> omega
def emptyB (s : ByteArray) : Bool := s.data.size == 0
/-- May a value be, but for what it has below? -/
def headV (k n : Int) (s : ByteArray) (len : Nat) : Bool :=
  if k = 1 then emptyB s && len == 0
  else if k = 2 then n == 0 && len == 0
  else if k = 3 ∨ k = 4 ∨ k = 6 then decide (0 ≤ n) && emptyB s && len == 0
  else if k = 7 then n == 0 && emptyB s && len == 0
  else (k == 11 || k == 12 || (k == 13 && n == 0)) && decide (0 ≤ n) && emptyB s && decide (len ≤ 64)
mutual
/-- May a value be? -/
def mayV : Val → Bool
  | .mk k n s l => headV k n s l.length && mayL l
def mayL : List Val → Bool
  | [] => true
  | p :: l => mayV p && mayL l
end
theorem mayL_all : ∀ l : List Val, mayL l = l.all mayV
  | [] => rfl
  | p :: l => by simp [mayL, mayL_all l]

/-! Words and cells as frozen data. -/
def wordD (w : AWord) : List DV := [.v (.int .u8 w.k), .v (.int .i64 w.n), .v (.string w.s), .v (.int .i64 w.g)]
def wordsR (l : List AWord) : List (List DV) := l.map wordD
def cellD (c : ACell) : List DV := [.v (.int .u8 c.k), .v (.int .i64 c.n), .lst 4 (wordsR c.ws)]
theorem wordD_len (w : AWord) : (wordD w).length = 4 := rfl
theorem wordsR_len (l : List AWord) : (wordsR l).length = l.length := by simp [wordsR]
theorem wordsR_get {l : List AWord} {j : Nat} {p : AWord} (h : l[j]? = some p) : (wordsR l)[j]? = some (wordD p) := row_map h
theorem wordsR_append (l m : List AWord) : wordsR (l ++ m) = wordsR l ++ wordsR m := by simp [wordsR]

/-! A walk: what a word has, the cells that were come to, whether a handle or the Io was. -/
inductive Res (α : Type) where
  | bad (e : Int)
  | ok (v : α) (come : List Int) (files : Bool)
def walksF (f : AWord → List Int → Bool → Res Val) : List AWord → List Int → Bool → Res (List Val)
  | [], come, fl => .ok [] come fl
  | w :: ws, come, fl => match f w come fl with
    | .bad e => .bad e
    | .ok v come fl => match walksF f ws come fl with
      | .bad e => .bad e
      | .ok vs come fl => .ok (v :: vs) come fl
def walkF (H : AHeap) : Nat → AWord → List Int → Bool → Res Val
  | 0, _, _, _ => .bad 999
  | f + 1, w, come, fl =>
    if w.ok = false then .bad 2
    else if w.k ≠ 5 then .ok (.mk w.k w.n w.s []) come (fl || (decide (w.k = 6) || decide (w.k = 7)))
    else if (H.find w).1 ≠ 0 then .bad (H.find w).1
    else if w.n ∈ come then .bad 6
    else match walksF (walkF H f) (H.get w).1.ws (come ++ [w.n]) fl with
      | .bad e => .bad e
      | .ok vs come fl => .ok (.mk ((H.get w).1.k + 10) (H.get w).1.n ⟨#[]⟩ vs) come fl

/-! A building. -/
mutual
def buildF (H : AHeap) : Val → AWord × AHeap
  | .mk k n s l => if k < 11 then (⟨k, n, s, 0⟩, H)
    else let r := buildsF H l
      (((r.2.alloc ⟨k - 10, n, r.1⟩).1.1), (r.2.alloc ⟨k - 10, n, r.1⟩).2)
def buildsF (H : AHeap) : List Val → List AWord × AHeap
  | [] => ([], H)
  | p :: l => let r := buildF H p
    let s := buildsF r.2 l
    (r.1 :: s.1, s.2)
end
theorem buildsF_append : ∀ (l m : List Val) (H : AHeap), buildsF H (l ++ m) = ((buildsF H l).1 ++ (buildsF (buildsF H l).2 m).1, (buildsF (buildsF H l).2 m).2)
  | [], m, H => by simp [buildsF]
  | p :: l, m, H => by simp [buildsF, buildsF_append l m]
theorem buildsF_take {l : List Val} {k : Nat} {p : Val} (h : l[k]? = some p) (H : AHeap) : buildsF H (l.take (k + 1)) = ((buildsF H (l.take k)).1 ++ [(buildF (buildsF H (l.take k)).2 p).1], (buildF (buildsF H (l.take k)).2 p).2) := by
  rw [List.take_add_one, h]
  simp [buildsF_append, buildsF]
theorem buildsF_len : ∀ (l : List Val) (H : AHeap), (buildsF H l).1.length = l.length
  | [], H => by simp [buildsF]
  | p :: l, H => by simp [buildsF, buildsF_len l]

/-! A dropping. -/
def dropsF (f : AHeap → AWord → AHeap) : AHeap → List AWord → AHeap
  | H, [] => H
  | H, w :: ws => dropsF f (f H w) ws
def dropF : Nat → AHeap → AWord → AHeap
  | 0, H, _ => H
  | f + 1, H, w => if w.k = 5 then dropsF (dropF f) (H.drop w).2 (H.drop w).1.1.ws else H
end Go.Proofs.Ytciciaikajdenaa
/- Walks: the small functions of package heap that make no lasting memory. -/
namespace Go.Proofs.Ytciciaikajdenaa
open Go.RowKit

def wcells (x : AWord) : List Value := [.int .u8 x.k, .int .i64 x.n, .string x.s, .int .i64 x.g]
def wv (x : AWord) : Value := .agg #[.int .u8 x.k, .int .i64 x.n, .string x.s, .int .i64 x.g]

theorem kinds (k : Int) : k = 1 ∨ k = 2 ∨ k = 3 ∨ k = 4 ∨ k = 5 ∨ k = 6 ∨ k = 7 ∨ (k ≠ 1 ∧ k ≠ 2 ∧ k ≠ 3 ∧ k ≠ 4 ∧ k ≠ 5 ∧ k ≠ 6 ∧ k ≠ 7) := by omega

set_option maxHeartbeats 800000 in
theorem word_c (x : AWord) (w : World) :
    Calls Try.prog 72 #[wv x] w fun e w' => e = .returned (.bool x.ok) ∧ Below w.heap.size w w' := by
  obtain ⟨k, n, s, g⟩ := x
  unfold wv
  rcases kinds k with rfl | rfl | rfl | rfl | rfl | rfl | rfl | ⟨k1, k2, k3, k4, k5, k6, k7⟩
  case inr.inr.inr.inr.inr.inr.inr =>
    have h1 := beq_eq_false_iff_ne.2 k1
    have h2 := beq_eq_false_iff_ne.2 k2
    have h3 := beq_eq_false_iff_ne.2 k3
    have h4 := beq_eq_false_iff_ne.2 k4
    have h5 := beq_eq_false_iff_ne.2 k5
    have h6 := beq_eq_false_iff_ne.2 k6
    have h7 := beq_eq_false_iff_ne.2 k7
    go_enter Try.func72, Try.ntmps72
    go_wp2
    go_ret
    refine ⟨by simp [AWord.ok, k1, k2, k3, k4, k5, k6, k7], ?_⟩
    exact ((Below.refl _ _).alloc (Nat.le_refl _) _).alloc (by simp) _
  all_goals
    go_enter Try.func72, Try.ntmps72
    go_wp2
    all_goals
      go_ret
      refine ⟨?_, ((Below.refl _ _).alloc (Nat.le_refl _) _).alloc (by simp) _⟩
      simp [AWord.ok, *]
      try first | omega | (intro _; exfalso; omega)

end Go.Proofs.Ytciciaikajdenaa
/- Walks: May and what it calls. -/
namespace Go.Proofs.Ytciciaikajdenaa
open Go.RowKit

theorem may1_c (x : AWord) (w : World) :
    Calls Try.prog 71 #[wv x] w fun e w' => e = .returned (.bool (!x.ok)) ∧ Below w.heap.size w w' := by
  have H := Lib.hid (fun w => word_c x w)
  unfold wv at *
  go_enter Try.func71, Try.ntmps71
  go_wp2_with (go_at_call 72; refine (H.out _).mono ?_; rintro e w' ⟨rfl, hb⟩)
  go_ret
  refine ⟨rfl, ?_⟩
  exact ((Below.refl _ _).alloc (Nat.le_refl _) _).trans (hb.mono (by simp))

/-- The words of a list, one behind the other. -/
def flatW (ws : List AWord) : List Value := ws.flatMap wcells

theorem flat_get {α : Type} {f : α → List Value} {k : Nat} (hf : ∀ x, (f x).length = k) : ∀ (l : List α) (i j : Nat) (x : α), l[i]? = some x → j < k → (l.flatMap f)[i * k + j]? = (f x)[j]?
  | [], i, j, x, h, _ => by simp at h
  | a :: l, 0, j, x, h, hj => by
    simp at h; subst h
    simp only [List.flatMap_cons, Nat.zero_mul, Nat.zero_add]
    rw [List.getElem?_append_left (by rw [hf]; exact hj)]
  | a :: l, i + 1, j, x, h, hj => by
    simp only [List.flatMap_cons]
    rw [List.getElem?_append_right (by rw [hf, Nat.add_mul]; omega), hf]
    rw [show (i + 1) * k + j - k = i * k + j from by rw [Nat.add_mul]; omega]
    exact flat_get hf l i j x (by simpa using h) hj

theorem flat_len {α : Type} {f : α → List Value} {k : Nat} (hf : ∀ x, (f x).length = k) : ∀ (l : List α), (l.flatMap f).length = l.length * k
  | [] => by simp
  | a :: l => by simp only [List.flatMap_cons, List.length_append, List.length_cons, hf, flat_len hf l, Nat.add_mul]; omega

theorem wcells_len (x : AWord) : (wcells x).length = 4 := rfl
/-- The four cells of the i-th word of a slice that can be read. -/
theorem rd_word {w : World} {b off n cap : Nat} {ws : List AWord} (h : rd w 4 (.slice (some ⟨b, off, none⟩) n cap) ws.length (flatW ws)) {i : Nat} {x : AWord} (hx : ws[i]? = some x) :
    w.cell? ⟨b, off + i * 4, none⟩ = some (.int .u8 x.k) ∧ w.cell? ⟨b, off + i * 4 + 1, none⟩ = some (.int .i64 x.n) ∧ w.cell? ⟨b, off + i * 4 + 2, none⟩ = some (.string x.s) ∧ w.cell? ⟨b, off + i * 4 + 3, none⟩ = some (.int .i64 x.g) := by
  obtain ⟨_, h⟩ := h
  rcases h with ⟨_, h⟩ | ⟨b', off', cap', e, _, _, hr⟩
  · have := (List.getElem?_eq_some_iff.1 hx).1; omega
  · cases e
    have f0 := hr (i * 4 + 0) (.int .u8 x.k) (by unfold flatW; rw [flat_get wcells_len ws i 0 x hx (by omega)]; rfl)
    have f1 := hr (i * 4 + 1) (.int .i64 x.n) (by unfold flatW; rw [flat_get wcells_len ws i 1 x hx (by omega)]; rfl)
    have f2 := hr (i * 4 + 2) (.string x.s) (by unfold flatW; rw [flat_get wcells_len ws i 2 x hx (by omega)]; rfl)
    have f3 := hr (i * 4 + 3) (.int .i64 x.g) (by unfold flatW; rw [flat_get wcells_len ws i 3 x hx (by omega)]; rfl)
    simp only [← Nat.add_assoc] at f0 f1 f2 f3
    exact ⟨f0, f1, f2, f3⟩

set_option maxHeartbeats 400000 in
theorem index_c (v : Value) (ws : List AWord) (w : World) (h : rd w 4 v ws.length (flatW ws)) (hm : ws.length ≤ maxLen) :
    Calls Try.prog 114 #[v, .func (.func 71) #[] #[]] w fun e w' => (∃ r : Int, e = .returned (.int .i64 r) ∧ (decide (0 ≤ r)) = !(ws.all AWord.ok)) ∧ Below w.heap.size w w' := by
  obtain ⟨a, cap, rfl⟩ : ∃ a cap, v = .slice a ws.length cap := by
    rcases h.2 with ⟨⟨_, _, rfl⟩, e⟩ | ⟨b, off, cap, rfl, _⟩
    · exact ⟨_, _, by rw [e]⟩
    · exact ⟨_, _, rfl⟩
  have H := Lib.hid h; clear h
  go_enter Try.func114, Try.ntmps114
  go_wp2
  go_loopw [5, 8] (fun _ i wr => ∃ k : Nat, k ≤ ws.length ∧ i = .int .i64 k ∧ (ws.take k).all AWord.ok = true ∧ Below w.heap.size w wr) (fun _ i _ => ws.length - (intOf i).toNat)
  case atStart => exact ⟨0, Nat.zero_le _, rfl, rfl, Below.refl _ _⟩
  case round =>
    obtain ⟨k, hk, rfl, hall, hb⟩ := hrel
    by_cases hlt : k < ws.length
    · obtain ⟨x, hx⟩ : ∃ x, ws[k]? = some x := ⟨_, List.getElem?_eq_getElem hlt⟩
      obtain ⟨b, off, rfl⟩ : ∃ b off, a = some ⟨b, off, none⟩ := by
        rcases H.out.2 with ⟨_, e⟩ | ⟨b, off, cap', e, _⟩
        · omega
        · injection e with e1 _ _; exact ⟨_, _, e1⟩
      obtain ⟨f0, f1, f2, f3⟩ := rd_word (H.out.mono hb) hx
      have H1 := Lib.hid (may1_c x)
      unfold wv at H1
      unfold maxLen at hm
      clear H
      cases hok : x.ok
      · have hok' : Hid (x.ok = false) := hok
        go_wp2_with (go_at_call 71; refine (H1.out _).mono ?_; rintro e w' ⟨rfl, hb2⟩)
        go_ret
        refine ⟨⟨k, rfl, ?_⟩, hb.trans (hb2.mono hb.size)⟩
        have : ws.all AWord.ok = false := by
          rw [List.all_eq_false]
          exact ⟨x, List.mem_of_getElem? hx, by simp [hok'.out]⟩
        rw [this]; simp
      · have hok' : Hid (x.ok = true) := hok
        go_wp2_with (go_at_call 71; refine (H1.out _).mono ?_; rintro e w' ⟨rfl, hb2⟩)
        refine ⟨⟨k + 1, by omega, by go_num, ?_, hb.trans (hb2.mono hb.size)⟩, by simp [intOf]; omega⟩
        rw [List.take_add_one, hx]
        simp [hall, hok'.out]
    · go_wp2
      go_ret
      obtain rfl : k = ws.length := by omega
      rw [List.take_of_length_le (Nat.le_refl _)] at hall
      exact ⟨⟨-1, rfl, by rw [hall]; rfl⟩, hb⟩

theorem contains_c (v : Value) (ws : List AWord) (w : World) (h : rd w 4 v ws.length (flatW ws)) (hm : ws.length ≤ maxLen) :
    Calls Try.prog 70 #[v, .func (.func 71) #[] #[]] w fun e w' => e = .returned (.bool (!(ws.all AWord.ok))) ∧ Below w.heap.size w w' := by
  have H := Lib.hid (index_c v ws w h hm); clear h
  go_enter Try.func70, Try.ntmps70
  go_wp2_with (go_at_call 114; refine H.out.mono ?_; rintro e w' ⟨⟨r, rfl, hr⟩, hb⟩; have HR := Lib.hid hr; clear hr)
  all_goals
    go_ret
    refine ⟨?_, ‹_›⟩
    rw [← HR.out]; simp [*]

/-- A cell's value, its words' slice v. -/
def cv (c : ACell) (v : Value) : Value := .agg #[.int .u8 c.k, .int .i64 c.n, v]

set_option maxHeartbeats 400000 in
theorem may_c (c : ACell) (v : Value) (w : World) (h : rd w 4 v c.ws.length (flatW c.ws)) (hm : c.ws.length ≤ maxLen) :
    Calls Try.prog 18 #[cv c v] w fun e w' => e = .returned (.bool c.ok) ∧ Below w.heap.size w w' := by
  obtain ⟨a, cap, rfl⟩ : ∃ a cap, v = .slice a c.ws.length cap := by
    rcases h.2 with ⟨⟨_, _, rfl⟩, e⟩ | ⟨b, off, cap, rfl, _⟩
    · exact ⟨_, _, by rw [e]⟩
    · exact ⟨_, _, rfl⟩
  have H := Lib.hid (fun w' (hb : Below w.heap.size w w') => contains_c (.slice a c.ws.length cap) c.ws w' (h.mono hb) hm); clear h
  unfold maxLen at hm
  unfold cv
  obtain ⟨k, n, ws⟩ := c
  simp only at *
  rcases (show k = 1 ∨ k = 2 ∨ k = 3 ∨ (k ≠ 1 ∧ k ≠ 2 ∧ k ≠ 3) by omega) with rfl | rfl | rfl | ⟨k1, k2, k3⟩
  case inr.inr.inr =>
    have h1 := beq_eq_false_iff_ne.2 k1
    have h2 := beq_eq_false_iff_ne.2 k2
    have h3 := beq_eq_false_iff_ne.2 k3
    go_enter Try.func18, Try.ntmps18
    go_wp2
    go_ret
    exact ⟨by simp [ACell.ok, ACell.headOk, k1, k2, k3], (Below.refl _ _).alloc (Nat.le_refl _) _⟩
  all_goals
    go_enter Try.func18, Try.ntmps18
    go_wp2_with (go_at_call 70; refine (H.out _ ((Below.refl _ _).alloc (Nat.le_refl _) _)).mono ?_; rintro e w' ⟨rfl, hb⟩)
    all_goals
      go_ret
      refine ⟨?_, ?_⟩
      · go_tidy
        try simp only [bne_iff_ne, bne_eq_false_iff_eq, ne_eq] at *
        simp [ACell.ok, ACell.headOk, *]
        try omega
      · first
        | exact (Below.refl _ _).alloc (Nat.le_refl _) _
        | exact ((Below.refl _ _).alloc (Nat.le_refl _) _).trans (hb.mono (by simp))

end Go.Proofs.Ytciciaikajdenaa
