/- N1: values and words as plain data; how they read as frozen data; what the document asks of a value; a walk, a building, a dropping in the heap of layer 23. No program in sight. -/
import Derived.Test.YtciciaikajdenaaQHModel
import Derived.Test.YtciciaikajdenaaAm12
set_option linter.unusedSimpArgs false
set_option linter.unusedVariables false
namespace Go.Proofs.Ytciciaikajdenaa
open Go.RowKit

inductive Val where
  | mk (kind n : Int) (s : ByteArray) (l : List Val)
def Val.kind : Val → Int | .mk k _ _ _ => k
def Val.n : Val → Int | .mk _ n _ _ => n
def Val.s : Val → ByteArray | .mk _ _ s _ => s
def Val.l : Val → List Val | .mk _ _ _ l => l
mutual
def valD : Val → List DV
  | .mk k n s l => [.v (.int .u8 k), .v (.int .i64 n), .v (.string s), .lst 4 (valR l)]
def valR : List Val → List (List DV)
  | [] => []
  | p :: l => valD p :: valR l
end
theorem valD_len : ∀ p : Val, (valD p).length = 4
  | .mk .. => rfl
theorem valR_get : ∀ {l : List Val} {j : Nat} {p : Val}, l[j]? = some p → (valR l)[j]? = some (valD p)
  | [], _, _, h => by simp at h
  | a :: l, 0, p, h => by simp at h; subst h; rfl
  | a :: l, j + 1, p, h => by
    have := valR_get (l := l) (j := j) (p := p) (by simpa using h)
    simpa [valR] using this
theorem valR_len : ∀ l : List Val, (valR l).length = l.length
  | [] => rfl
  | a :: l => by simp [valR, valR_len l]
theorem valR_append : ∀ (l m : List Val), valR (l ++ m) = valR l ++ valR m
  | [], m => rfl
  | a :: l, m => by simp [valR, valR_append l m]
theorem valR_take : ∀ (l : List Val) (n : Nat), valR (l.take n) = (valR l).take n
  | _, 0 => by simp [valR]
  | [], n + 1 => by simp [valR]
  | a :: l, n + 1 => by simp [valR, valR_take l n]
theorem getS {α : Type} {l : List α} {i : Nat} (h : i < l.length) : ∃ x, l[i]? = some x := ⟨l[i], List.getElem?_eq_getElem h⟩
theorem rec_val {motive : Val → Prop} (step : ∀ k n s l, (∀ p ∈ l, motive p) → motive (.mk k n s l)) : ∀ p, motive p := by
  intro p
  refine Val.rec (motive_1 := motive) (motive_2 := fun l => ∀ p ∈ l, motive p) ?_ ?_ ?_ p
  · exact fun k n s l ih => step k n s l ih
  · intro p hp; cases hp
  · intro a l ha hl p hp
    rcases List.mem_cons.1 hp with rfl | h
    · exact ha
    · exact hl p h
mutual
/-- What comes in: no great text, no long list, a kind of eight bits. -/
def Val.low : Val → Prop
  | .mk k _ s l => (0 ≤ k ∧ k ≤ 255) ∧ s.size ≤ 140737488355328 ∧ l.length ≤ 140737488355328 ∧ Val.lowL l
def Val.lowL : List Val → Prop
  | [] => True
  | p :: l => p.low ∧ Val.lowL l
end
theorem Val.lowL_mem : ∀ {l : List Val}, Val.lowL l → ∀ p ∈ l, p.low
  | [], _, p, h => by cases h
  | a :: l, ⟨h1, h2⟩, p, h => by
    rcases List.mem_cons.1 h with rfl | h
    · exact h1
    · exact Val.lowL_mem h2 p h
theorem Val.lowL_of : ∀ {l : List Val}, (∀ p ∈ l, p.low) → Val.lowL l
  | [], _ => trivial
  | a :: l, h => ⟨h a (by simp), Val.lowL_of fun p hp => h p (by simp [hp])⟩
mutual
/-- Nodes. -/
def massV : Val → Nat
  | .mk _ _ _ l => 1 + massVL l
def massVL : List Val → Nat
  | [] => 0
  | p :: l => massV p + massVL l
end
theorem massV_pos : ∀ p : Val, 1 ≤ massV p
  | .mk .. => by simp only [massV]; omega
theorem massVL_append : ∀ l m : List Val, massVL (l ++ m) = massVL l + massVL m
  | [], m => by simp [massVL]
  | p :: l, m => by simp [massVL, massVL_append l m]; omega
theorem massVL_take {l : List Val} {k : Nat} {p : Val} (h : l[k]? = some p) : massVL (l.take (k + 1)) = massVL (l.take k) + massV p := by
  rw [List.take_add_one, h, massVL_append]
  simp [massVL]
theorem massVL_mem : ∀ {l : List Val} {p : Val}, p ∈ l → massV p ≤ massVL l
  | [], _, h => by cases h
  | a :: l, p, h => by
    simp only [massVL]
    rcases List.mem_cons.1 h with rfl | h
    · omega
    · have := massVL_mem h; omega
theorem massVL_len : ∀ l : List Val, l.length ≤ massVL l
  | [] => by simp
  | a :: l => by have := massVL_len l; have := massV_pos a; simp only [massVL, List.length_cons]; omega

mutual
/-- How many cells a value has. -/
def cellsV : Val → Nat
  | .mk k _ _ l => (if 10 < k then 1 else 0) + cellsL l
def cellsL : List Val → Nat
  | [] => 0
  | p :: l => cellsV p + cellsL l
end
theorem cellsL_append : ∀ l m : List Val, cellsL (l ++ m) = cellsL l + cellsL m
  | [], m => by simp [cellsL]
  | p :: l, m => by simp [cellsL, cellsL_append l m]; omega
theorem cellsL_take {l : List Val} {k : Nat} {p : Val} (h : l[k]? = some p) : cellsL (l.take (k + 1)) = cellsL (l.take k) + cellsV p := by
  rw [List.take_add_one, h, cellsL_append]
  simp [cellsL]
theorem cells_mass : ∀ p : Val, cellsV p ≤ massV p := by
  refine rec_val fun k n s l ih => ?_
  have : cellsL l ≤ massVL l := by
    induction l with
    | nil => simp [cellsL, massVL]
    | cons a l ih2 =>
      have h1 := ih a List.mem_cons_self
      have h2 := ih2 fun p hp => ih p (List.mem_cons_of_mem _ hp)
      simp only [cellsL, massVL]; omega
  simp only [cellsV, massV]
  split <;> omega
def emptyB (s : ByteArray) : Bool := s.data.size == 0
/-- May a value be, but for what it has below? -/
def headV (k n : Int) (s : ByteArray) (len : Nat) : Bool :=
  if k = 1 then emptyB s && len == 0
  else if k = 2 then n == 0 && len == 0
  else if k = 3 ∨ k = 4 ∨ k = 6 then decide (0 ≤ n) && emptyB s && len == 0
  else if k = 7 then n == 0 && emptyB s && len == 0
  else (k == 11 || k == 12 || (k == 13 && n == 0)) && decide (0 ≤ n) && emptyB s && decide (len ≤ 64)
mutual
/-- May a value be? -/
def mayV : Val → Bool
  | .mk k n s l => headV k n s l.length && mayL l
def mayL : List Val → Bool
  | [] => true
  | p :: l => mayV p && mayL l
end
theorem mayL_all : ∀ l : List Val, mayL l = l.all mayV
  | [] => rfl
  | p :: l => by simp [mayL, mayL_all l]

/-! Words and cells as frozen data. -/
def wordD (w : AWord) : List DV := [.v (.int .u8 w.k), .v (.int .i64 w.n), .v (.string w.s), .v (.int .i64 w.g)]
def wordsR (l : List AWord) : List (List DV) := l.map wordD
def cellD (c : ACell) : List DV := [.v (.int .u8 c.k), .v (.int .i64 c.n), .lst 4 (wordsR c.ws)]
theorem wordD_len (w : AWord) : (wordD w).length = 4 := rfl
theorem wordsR_len (l : List AWord) : (wordsR l).length = l.length := by simp [wordsR]
theorem wordsR_get {l : List AWord} {j : Nat} {p : AWord} (h : l[j]? = some p) : (wordsR l)[j]? = some (wordD p) := row_map h
theorem wordsR_append (l m : List AWord) : wordsR (l ++ m) = wordsR l ++ wordsR m := by simp [wordsR]

/-! A walk: what a word has, the cells that were come to, whether a handle or the Io was. -/
inductive Res (α : Type) where
  | bad (e : Int)
  | ok (v : α) (come : List Int) (files : Bool)
def walksF (f : AWord → List Int → Bool → Res Val) : List AWord → List Int → Bool → Res (List Val)
  | [], come, fl => .ok [] come fl
  | w :: ws, come, fl => match f w come fl with
    | .bad e => .bad e
    | .ok v come fl => match walksF f ws come fl with
      | .bad e => .bad e
      | .ok vs come fl => .ok (v :: vs) come fl
def walkF (H : AHeap) : Nat → AWord → List Int → Bool → Res Val
  | 0, _, _, _ => .bad 999
  | f + 1, w, come, fl =>
    if w.ok = false then .bad 2
    else if w.k ≠ 5 then .ok (.mk w.k w.n w.s []) come (fl || (decide (w.k = 6) || decide (w.k = 7)))
    else if (H.find w).1 ≠ 0 then .bad (H.find w).1
    else if w.n ∈ come then .bad 6
    else match walksF (walkF H f) (H.get w).1.ws (come ++ [w.n]) fl with
      | .bad e => .bad e
      | .ok vs come fl => .ok (.mk ((H.get w).1.k + 10) (H.get w).1.n ⟨#[]⟩ vs) come fl

/-! A building. -/
mutual
def buildF (H : AHeap) : Val → AWord × AHeap
  | .mk k n s l => if k < 11 then (⟨k, n, s, 0⟩, H)
    else let r := buildsF H l
      (((r.2.alloc ⟨k - 10, n, r.1⟩).1.1), (r.2.alloc ⟨k - 10, n, r.1⟩).2)
def buildsF (H : AHeap) : List Val → List AWord × AHeap
  | [] => ([], H)
  | p :: l => let r := buildF H p
    let s := buildsF r.2 l
    (r.1 :: s.1, s.2)
end
theorem buildsF_append : ∀ (l m : List Val) (H : AHeap), buildsF H (l ++ m) = ((buildsF H l).1 ++ (buildsF (buildsF H l).2 m).1, (buildsF (buildsF H l).2 m).2)
  | [], m, H => by simp [buildsF]
  | p :: l, m, H => by simp [buildsF, buildsF_append l m]
theorem buildsF_take {l : List Val} {k : Nat} {p : Val} (h : l[k]? = some p) (H : AHeap) : buildsF H (l.take (k + 1)) = ((buildsF H (l.take k)).1 ++ [(buildF (buildsF H (l.take k)).2 p).1], (buildF (buildsF H (l.take k)).2 p).2) := by
  rw [List.take_add_one, h]
  simp [buildsF_append, buildsF]
theorem buildsF_len : ∀ (l : List Val) (H : AHeap), (buildsF H l).1.length = l.length
  | [], H => by simp [buildsF]
  | p :: l, H => by simp [buildsF, buildsF_len l]

/-! A dropping. -/
def dropsF (f : AHeap → AWord → AHeap) : AHeap → List AWord → AHeap
  | H, [] => H
  | H, w :: ws => dropsF f (f H w) ws
def dropF : Nat → AHeap → AWord → AHeap
  | 0, H, _ => H
  | f + 1, H, w => if w.k = 5 then dropsF (dropF f) (H.drop w).2 (H.drop w).1.1.ws else H
end Go.Proofs.Ytciciaikajdenaa
