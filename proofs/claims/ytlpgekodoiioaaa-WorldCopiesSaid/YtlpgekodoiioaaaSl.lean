/- A small separation logic over the model's memory: fragments of the heap, lists of assertions that hold apart from each other, and what the memory's own steps do to them. No program in sight. -/
import Derived.WalkKit
import Derived.Deep.Draws
namespace Go.Proofs.Ytlpgekodoiioaaa
open Go.RowKit

/-- A part of memory. -/
abbrev Frag := Nat → Option Obj
def Disj (f g : Frag) : Prop := ∀ b, f b = none ∨ g b = none
def Le (f g : Frag) : Prop := ∀ b o, f b = some o → g b = some o
def Un (f g : Frag) : Frag := fun b => match f b with | some o => some o | none => g b

theorem Le.refl (f : Frag) : Le f f := fun _ _ h => h
theorem Le.trans {f g h : Frag} (a : Le f g) (b : Le g h) : Le f h := fun _ _ x => b _ _ (a _ _ x)
theorem Disj.symm {f g : Frag} (h : Disj f g) : Disj g f := fun b => (h b).symm
theorem Disj.le {f g f' g' : Frag} (h : Disj f g) (a : Le f' f) (b : Le g' g) : Disj f' g' := by
  intro k
  rcases h k with h | h
  · left; cases e : f' k with
    | none => rfl
    | some o => rw [a _ _ e] at h; cases h
  · right; cases e : g' k with
    | none => rfl
    | some o => rw [b _ _ e] at h; cases h
theorem Le.un_left (f g : Frag) : Le f (Un f g) := by intro b o h; simp [Un, h]
theorem Le.un_right {f g : Frag} (d : Disj f g) : Le g (Un f g) := by
  intro b o h
  rcases d b with e | e
  · simp [Un, e, h]
  · rw [e] at h; cases h
theorem Le.un {f g h : Frag} (a : Le f h) (b : Le g h) : Le (Un f g) h := by
  intro k o e
  unfold Un at e
  split at e
  · rename_i x hx; cases e; exact a _ _ hx
  · exact b _ _ e
theorem Disj.un_right {f g h : Frag} (a : Disj f g) (b : Disj f h) : Disj f (Un g h) := by
  intro k
  rcases a k with e | e
  · exact .inl e
  · rcases b k with e2 | e2
    · exact .inl e2
    · right; simp [Un, e, e2]

abbrev HProp := Frag → Prop

/-- Assertions that hold of parts of h that are apart. -/
def starL : List HProp → HProp
  | [], _ => True
  | P :: L, h => ∃ f g, P f ∧ starL L g ∧ Disj f g ∧ Le f h ∧ Le g h

theorem starL_mono {L : List HProp} {h h' : Frag} (s : starL L h) (le : Le h h') : starL L h' := by
  cases L with
  | nil => trivial
  | cons P L =>
    obtain ⟨f, g, p, q, d, a, b⟩ := s
    exact ⟨f, g, p, q, d, a.trans le, b.trans le⟩

theorem starL_tail {P : HProp} {L : List HProp} {h : Frag} (s : starL (P :: L) h) : starL L h := by
  obtain ⟨f, g, p, q, d, a, b⟩ := s
  exact starL_mono q b

theorem starL_swap {P Q : HProp} {L : List HProp} {h : Frag} (s : starL (P :: Q :: L) h) : starL (Q :: P :: L) h := by
  obtain ⟨f, g, p, ⟨f', g', q, r, d', a', b'⟩, d, a, b⟩ := s
  refine ⟨f', Un f g', q, ⟨f, g', p, r, d.le (.refl _) b', .un_left _ _, .un_right (d.le (.refl _) b')⟩, ?_, a'.trans b, .un a (b'.trans b)⟩
  exact .un_right (d.symm.le a' (.refl _)) d'

theorem starL_cons {P Q : HProp} {L M : List HProp} {h : Frag} (pq : ∀ f, P f → Q f) (lm : ∀ f, starL L f → starL M f) (s : starL (P :: L) h) : starL (Q :: M) h := by
  obtain ⟨f, g, p, q, d, a, b⟩ := s
  exact ⟨f, g, pq _ p, lm _ q, d, a, b⟩

theorem starL_perm {L L' : List HProp} (p : L.Perm L') : ∀ {h : Frag}, starL L h → starL L' h := by
  induction p with
  | nil => exact fun s => s
  | cons _ _ ih => exact fun s => starL_cons (fun _ x => x) (fun _ x => ih x) s
  | swap _ _ _ => exact fun s => starL_swap s
  | trans _ _ a b => exact fun s => b (a s)

theorem starL_flat {L M : List HProp} : ∀ {h : Frag}, starL (starL L :: M) h → starL (L ++ M) h := by
  induction L with
  | nil => exact fun s => starL_tail s
  | cons P L ih =>
    intro h s
    obtain ⟨f, g, ⟨f1, f2, p, q, d1, a1, b1⟩, m, d, a, b⟩ := s
    refine ⟨f1, Un f2 g, p, ih ⟨f2, g, q, m, d.le b1 (.refl _), .un_left _ _, .un_right (d.le b1 (.refl _))⟩, ?_, a1.trans a, .un (b1.trans a) b⟩
    exact .un_right d1 (d.le a1 (.refl _))

theorem starL_unflat {L M : List HProp} : ∀ {h : Frag}, starL (L ++ M) h → starL (starL L :: M) h := by
  induction L with
  | nil => exact fun {h} s => ⟨fun _ => none, h, trivial, s, fun _ => .inl rfl, (fun _ _ e => by cases e), Le.refl _⟩
  | cons P L ih =>
    intro h s
    obtain ⟨f, g, p, q, d, a, b⟩ := s
    obtain ⟨f2, g2, q1, q2, d2, a2, b2⟩ := ih q
    refine ⟨Un f f2, g2, ⟨f, f2, p, q1, d.le (.refl _) a2, .un_left _ _, .un_right (d.le (.refl _) a2)⟩, q2, ?_, .un a (a2.trans b), b2.trans b⟩
    exact (Disj.un_right (d.le (.refl _) b2).symm d2.symm).symm

/-- The i-th assertion set first. -/
def pull : Nat → List HProp → List HProp
  | 0, L => L
  | _ + 1, [] => []
  | i + 1, P :: L => match pull i L with
    | [] => [P]
    | Q :: M => Q :: P :: M

theorem pull_perm : ∀ (i : Nat) (L : List HProp), L.Perm (pull i L)
  | 0, _ => .refl _
  | _ + 1, [] => .refl _
  | i + 1, P :: L => by
    have ih := pull_perm i L
    unfold pull
    split
    · rename_i e; rw [e] at ih; rw [List.perm_nil.1 ih]
    · rename_i Q M e; rw [e] at ih
      exact (ih.cons P).trans (.swap _ _ _)

/-- The first assertion set at the i-th place. -/
def push : Nat → List HProp → List HProp
  | _, [] => []
  | 0, P :: L => P :: L
  | i + 1, P :: L => match L with
    | [] => [P]
    | Q :: M => Q :: push i (P :: M)

theorem push_perm : ∀ (i : Nat) (L : List HProp), L.Perm (push i L)
  | i, [] => by cases i <;> exact .refl _
  | 0, P :: L => .refl _
  | i + 1, [P] => .refl _
  | i + 1, P :: Q :: M => (List.Perm.swap Q P M).trans ((push_perm i (P :: M)).cons Q)

/-- A row of cells, whole, nothing of it frozen. -/
def cellsB (b : Nat) (cs : Array Value) (T : TypeId) : HProp := fun f => f b = some (.cells cs T (0, 0))
/-- A block of whatever kind. -/
def objB (b : Nat) (o : Obj) : HProp := fun f => f b = some o

/-- The part of w's memory that was not there in W0. -/
def newPart (W0 w : World) : Frag := fun k => if k < W0.heap.size then none else w.heap[k]?

/-- w is W0 with more memory: what was there is as it was, and of the new memory L holds. -/
structure St (W0 w : World) (L : List HProp) : Prop where
  os : w.os = W0.os
  tape : w.tape = W0.tape
  output : w.output = W0.output
  size : W0.heap.size ≤ w.heap.size
  block : ∀ k, k < W0.heap.size → w.heap[k]? = W0.heap[k]?
  sep : starL L (newPart W0 w)

namespace St
variable {W0 w w' : World} {L M : List HProp} {P Q : HProp}

theorem refl (w : World) : St w w [] := ⟨rfl, rfl, rfl, Nat.le_refl _, fun _ _ => rfl, trivial⟩
theorem below (h : St W0 w L) : Below W0.heap.size W0 w := ⟨h.os, h.tape, h.output, h.size, h.block⟩
theorem perm (h : St W0 w L) (p : L.Perm M) : St W0 w M := ⟨h.os, h.tape, h.output, h.size, h.block, starL_perm p h.sep⟩
theorem pull (h : St W0 w L) (i : Nat) : St W0 w (pull i L) := h.perm (pull_perm i L)
theorem push (h : St W0 w L) (i : Nat) : St W0 w (push i L) := h.perm (push_perm i L)
theorem tail (h : St W0 w (P :: L)) : St W0 w L := ⟨h.os, h.tape, h.output, h.size, h.block, starL_tail h.sep⟩
theorem conv (h : St W0 w L) (c : ∀ f, starL L f → starL M f) : St W0 w M := ⟨h.os, h.tape, h.output, h.size, h.block, c _ h.sep⟩
theorem head (h : St W0 w (P :: L)) (c : ∀ f, P f → Q f) : St W0 w (Q :: L) := h.conv fun _ s => starL_cons c (fun _ x => x) s
theorem flat (h : St W0 w (starL L :: M)) : St W0 w (L ++ M) := h.conv fun _ s => starL_flat s
theorem unflat (h : St W0 w (L ++ M)) : St W0 w (starL L :: M) := h.conv fun _ s => starL_unflat s
theorem ex {α : Type} {R : α → HProp} (h : St W0 w ((fun f => ∃ x, R x f) :: L)) : ∃ x, St W0 w (R x :: L) := by
  obtain ⟨f, g, ⟨x, p⟩, q, r⟩ := h.sep
  exact ⟨x, h.os, h.tape, h.output, h.size, h.block, f, g, p, q, r⟩
theorem pure {p : Prop} (h : St W0 w ((fun f => p ∧ P f) :: L)) : p ∧ St W0 w (P :: L) := by
  obtain ⟨f, g, ⟨x, p⟩, q, r⟩ := h.sep
  exact ⟨x, h.os, h.tape, h.output, h.size, h.block, f, g, p, q, r⟩

theorem fst (h : St W0 w (P :: L)) : St W0 w [P] := h.conv fun _ s => starL_cons (fun _ x => x) (fun _ _ => trivial) s
theorem fst2 (h : St W0 w (P :: Q :: L)) : St W0 w [P, Q] := h.conv fun _ s => starL_cons (fun _ x => x) (fun _ s => starL_cons (fun _ x => x) (fun _ _ => trivial) s) s
theorem drew (h : St W0 w L) : St W0 w.drew L := ⟨h.os, h.tape, h.output, h.size, h.block, h.sep⟩
theorem drewN (h : St W0 w L) (n : Nat) : St W0 (w.drewN n) L := ⟨h.os, h.tape, h.output, h.size, h.block, h.sep⟩

/-- Whatever leaves the old blocks as they were keeps all. -/
theorem mono (h : St W0 w L) (b : Below w.heap.size w w') : St W0 w' L := by
  refine ⟨b.os.trans h.os, b.tape.trans h.tape, b.output.trans h.output, Nat.le_trans h.size b.size, fun k hk => ?_, ?_⟩
  · rw [b.block k (Nat.lt_of_lt_of_le hk h.size)]; exact h.block k hk
  · refine starL_mono h.sep fun k o e => ?_
    unfold newPart at e ⊢
    split at e
    · cases e
    · rename_i hk
      rw [if_neg hk, b.block k (Array.getElem?_eq_some_iff.1 e).1]; exact e

theorem alloc (h : St W0 w L) (o : Obj) : St W0 (w.alloc o) (objB w.heap.size o :: L) := by
  have hm := h.mono ((Below.refl _ _).alloc (Nat.le_refl _) o)
  refine ⟨hm.os, hm.tape, hm.output, hm.size, hm.block, fun k => if k = w.heap.size then some o else none, newPart W0 w, by simp [objB], h.sep, ?_, ?_, ?_⟩
  · intro k
    by_cases e : k = w.heap.size
    · right; subst e; simp [newPart]
    · left; simp [e]
  · intro k u e
    have hs := h.size
    simp at e
    obtain ⟨rfl, rfl⟩ := e
    simp only [newPart]
    rw [if_neg (by omega)]
    exact heap_alloc_new w o
  · intro k o' e
    unfold newPart at e ⊢
    split at e
    · cases e
    · rename_i hk
      rw [if_neg hk, Below.heap_alloc w o k (Array.getElem?_eq_some_iff.1 e).1]; exact e

theorem allocC (h : St W0 w L) (cs : Array Value) (T : TypeId) : St W0 (w.alloc (.cells cs T)) (cellsB w.heap.size cs T :: L) := h.alloc _

theorem obj {b : Nat} {o : Obj} (h : St W0 w (objB b o :: L)) : w.heap[b]? = some o ∧ W0.heap.size ≤ b := by
  obtain ⟨f, g, p, _, _, le, _⟩ := h.sep
  have e := le _ _ p
  unfold newPart at e
  split at e
  · cases e
  · exact ⟨e, by omega⟩

theorem heap {b : Nat} {cs : Array Value} {T : TypeId} (h : St W0 w (cellsB b cs T :: L)) : w.heap[b]? = some (.cells cs T (0, 0)) := (obj (o := .cells cs T (0, 0)) h).1
theorem base {b : Nat} {cs : Array Value} {T : TypeId} (h : St W0 w (cellsB b cs T :: L)) : W0.heap.size ≤ b := (obj (o := .cells cs T (0, 0)) h).2
theorem lt {b : Nat} {cs : Array Value} {T : TypeId} (h : St W0 w (cellsB b cs T :: L)) : b < w.heap.size := (Array.getElem?_eq_some_iff.1 h.heap).1
theorem cell {b : Nat} {cs : Array Value} {T : TypeId} (h : St W0 w (cellsB b cs T :: L)) (o : Nat) : w.cell? ⟨b, o, none⟩ = cs[o]? := by
  simp [World.cell?, h.heap]
theorem free {b : Nat} {cs : Array Value} {T : TypeId} (h : St W0 w (cellsB b cs T :: L)) (o : Nat) : w.frozen? ⟨b, o, none⟩ = false := by
  simp [World.frozen?, h.heap]

theorem ne {b c : Nat} {cs ds : Array Value} {T U : TypeId} (h : St W0 w (cellsB b cs T :: cellsB c ds U :: L)) : b ≠ c := by
  obtain ⟨f, g, p, ⟨f', g', q, _, _, a', _⟩, d, _, _⟩ := h.sep
  rintro rfl
  have := a' _ _ q
  rcases d b with e | e
  · rw [show f b = _ from p] at e; cases e
  · rw [this] at e; cases e

/-- One block's row is written anew. -/
theorem row {b : Nat} {cs ds : Array Value} {T : TypeId} (h : St W0 w (cellsB b cs T :: L)) (hw : w'.heap[b]? = some (.cells ds T (0, 0)))
    (hs : w.heap.size = w'.heap.size) (ho : w'.os = w.os) (ht : w'.tape = w.tape) (hu : w'.output = w.output) (hr : ∀ k, k ≠ b → w'.heap[k]? = w.heap[k]?) : St W0 w' (cellsB b ds T :: L) := by
  have hb := h.base
  refine ⟨ho.trans h.os, ht.trans h.tape, hu.trans h.output, hs ▸ h.size, fun k hk => ?_, ?_⟩
  · rw [hr k (by omega)]; exact h.block k hk
  · obtain ⟨f, g, p, q, d, le, le'⟩ := h.sep
    have hgb : g b = none := by
      rcases d b with e | e
      · rw [show f b = _ from p] at e; cases e
      · exact e
    refine ⟨fun k => if k = b then some (.cells ds T (0, 0)) else none, g, by simp [cellsB], q, ?_, ?_, ?_⟩
    · intro k
      by_cases e : k = b
      · right; rw [e]; exact hgb
      · left; simp [e]
    · intro k o e
      simp at e
      obtain ⟨rfl, rfl⟩ := e
      unfold newPart
      rw [if_neg (by omega)]
      exact hw
    · intro k o e
      have hk : k ≠ b := fun x => by rw [x, hgb] at e; cases e
      have := le' _ _ e
      unfold newPart at this ⊢
      rw [hr k hk]; exact this

theorem set {b : Nat} {cs : Array Value} {T : TypeId} (h : St W0 w (cellsB b cs T :: L)) (o : Nat) (v : Value) : St W0 (w.setCell ⟨b, o, none⟩ v) (cellsB b (cs.setIfInBounds o v) T :: L) := by
  refine h.row ?_ (by simp) rfl rfl rfl (fun k hk => Below.heap_setCell _ _ _ _ (by simpa using hk))
  simp [World.setCell, Array.getElem?_modify, h.heap]

theorem setRow {b : Nat} {cs : Array Value} {T : TypeId} (h : St W0 w (cellsB b cs T :: L)) (ds : Array Value) : St W0 (w.setRow b ds) (cellsB b ds T :: L) := by
  refine h.row (setRow_heap w b cs ds T (0, 0) h.heap) (by simp [World.setRow]) rfl rfl rfl (fun k hk => setRow_other w b k ds hk)

end St

end Go.Proofs.Ytlpgekodoiioaaa
