/- Lb: Sl, SlApp, Ord, Ord2, Open, Find, Maps, LawTop in one. -/
import Derived.WalkKit
import Derived.Deep.Draws
import Derived.OrdersHeld
import Derived.StillTail
import Derived.RegionTactic
import Derived.ProofKit
import Derived.OpenShut
import Derived.Carry
import Derived.Deep.CutBlock
set_option linter.unusedSimpArgs false
set_option linter.unusedVariables false
/- A small separation logic over the model's memory: fragments of the heap, lists of assertions that hold apart from each other, and what the memory's own steps do to them. No program in sight. -/
namespace Go.Proofs.Ytciciaikajdenaa
open Go.RowKit

/-- A part of memory. -/
abbrev Frag := Nat → Option Obj
def Disj (f g : Frag) : Prop := ∀ b, f b = none ∨ g b = none
def Le (f g : Frag) : Prop := ∀ b o, f b = some o → g b = some o
def Un (f g : Frag) : Frag := fun b => match f b with | some o => some o | none => g b

theorem Le.refl (f : Frag) : Le f f := fun _ _ h => h
theorem Le.trans {f g h : Frag} (a : Le f g) (b : Le g h) : Le f h := fun _ _ x => b _ _ (a _ _ x)
theorem Disj.symm {f g : Frag} (h : Disj f g) : Disj g f := fun b => (h b).symm
theorem Disj.le {f g f' g' : Frag} (h : Disj f g) (a : Le f' f) (b : Le g' g) : Disj f' g' := by
  intro k
  rcases h k with h | h
  · left; cases e : f' k with
    | none => rfl
    | some o => rw [a _ _ e] at h; cases h
  · right; cases e : g' k with
    | none => rfl
    | some o => rw [b _ _ e] at h; cases h
theorem Le.un_left (f g : Frag) : Le f (Un f g) := by intro b o h; simp [Un, h]
theorem Le.un_right {f g : Frag} (d : Disj f g) : Le g (Un f g) := by
  intro b o h
  rcases d b with e | e
  · simp [Un, e, h]
  · rw [e] at h; cases h
theorem Le.un {f g h : Frag} (a : Le f h) (b : Le g h) : Le (Un f g) h := by
  intro k o e
  unfold Un at e
  split at e
  · rename_i x hx; cases e; exact a _ _ hx
  · exact b _ _ e
theorem Disj.un_right {f g h : Frag} (a : Disj f g) (b : Disj f h) : Disj f (Un g h) := by
  intro k
  rcases a k with e | e
  · exact .inl e
  · rcases b k with e2 | e2
    · exact .inl e2
    · right; simp [Un, e, e2]

abbrev HProp := Frag → Prop

/-- Assertions that hold of parts of h that are apart. -/
def starL : List HProp → HProp
  | [], _ => True
  | P :: L, h => ∃ f g, P f ∧ starL L g ∧ Disj f g ∧ Le f h ∧ Le g h

theorem starL_mono {L : List HProp} {h h' : Frag} (s : starL L h) (le : Le h h') : starL L h' := by
  cases L with
  | nil => trivial
  | cons P L =>
    obtain ⟨f, g, p, q, d, a, b⟩ := s
    exact ⟨f, g, p, q, d, a.trans le, b.trans le⟩

theorem starL_tail {P : HProp} {L : List HProp} {h : Frag} (s : starL (P :: L) h) : starL L h := by
  obtain ⟨f, g, p, q, d, a, b⟩ := s
  exact starL_mono q b

theorem starL_swap {P Q : HProp} {L : List HProp} {h : Frag} (s : starL (P :: Q :: L) h) : starL (Q :: P :: L) h := by
  obtain ⟨f, g, p, ⟨f', g', q, r, d', a', b'⟩, d, a, b⟩ := s
  refine ⟨f', Un f g', q, ⟨f, g', p, r, d.le (.refl _) b', .un_left _ _, .un_right (d.le (.refl _) b')⟩, ?_, a'.trans b, .un a (b'.trans b)⟩
  exact .un_right (d.symm.le a' (.refl _)) d'

theorem starL_cons {P Q : HProp} {L M : List HProp} {h : Frag} (pq : ∀ f, P f → Q f) (lm : ∀ f, starL L f → starL M f) (s : starL (P :: L) h) : starL (Q :: M) h := by
  obtain ⟨f, g, p, q, d, a, b⟩ := s
  exact ⟨f, g, pq _ p, lm _ q, d, a, b⟩

theorem starL_perm {L L' : List HProp} (p : L.Perm L') : ∀ {h : Frag}, starL L h → starL L' h := by
  induction p with
  | nil => exact fun s => s
  | cons _ _ ih => exact fun s => starL_cons (fun _ x => x) (fun _ x => ih x) s
  | swap _ _ _ => exact fun s => starL_swap s
  | trans _ _ a b => exact fun s => b (a s)

theorem starL_flat {L M : List HProp} : ∀ {h : Frag}, starL (starL L :: M) h → starL (L ++ M) h := by
  induction L with
  | nil => exact fun s => starL_tail s
  | cons P L ih =>
    intro h s
    obtain ⟨f, g, ⟨f1, f2, p, q, d1, a1, b1⟩, m, d, a, b⟩ := s
    refine ⟨f1, Un f2 g, p, ih ⟨f2, g, q, m, d.le b1 (.refl _), .un_left _ _, .un_right (d.le b1 (.refl _))⟩, ?_, a1.trans a, .un (b1.trans a) b⟩
    exact .un_right d1 (d.le a1 (.refl _))

theorem starL_unflat {L M : List HProp} : ∀ {h : Frag}, starL (L ++ M) h → starL (starL L :: M) h := by
  induction L with
  | nil => exact fun {h} s => ⟨fun _ => none, h, trivial, s, fun _ => .inl rfl, (fun _ _ e => by cases e), Le.refl _⟩
  | cons P L ih =>
    intro h s
    obtain ⟨f, g, p, q, d, a, b⟩ := s
    obtain ⟨f2, g2, q1, q2, d2, a2, b2⟩ := ih q
    refine ⟨Un f f2, g2, ⟨f, f2, p, q1, d.le (.refl _) a2, .un_left _ _, .un_right (d.le (.refl _) a2)⟩, q2, ?_, .un a (a2.trans b), b2.trans b⟩
    exact (Disj.un_right (d.le (.refl _) b2).symm d2.symm).symm

/-- The i-th assertion set first. -/
def pull : Nat → List HProp → List HProp
  | 0, L => L
  | _ + 1, [] => []
  | i + 1, P :: L => match pull i L with
    | [] => [P]
    | Q :: M => Q :: P :: M

theorem pull_perm : ∀ (i : Nat) (L : List HProp), L.Perm (pull i L)
  | 0, _ => .refl _
  | _ + 1, [] => .refl _
  | i + 1, P :: L => by
    have ih := pull_perm i L
    unfold pull
    split
    · rename_i e; rw [e] at ih; rw [List.perm_nil.1 ih]
    · rename_i Q M e; rw [e] at ih
      exact (ih.cons P).trans (.swap _ _ _)

/-- The first assertion set at the i-th place. -/
def push : Nat → List HProp → List HProp
  | _, [] => []
  | 0, P :: L => P :: L
  | i + 1, P :: L => match L with
    | [] => [P]
    | Q :: M => Q :: push i (P :: M)

theorem push_perm : ∀ (i : Nat) (L : List HProp), L.Perm (push i L)
  | i, [] => by cases i <;> exact .refl _
  | 0, P :: L => .refl _
  | i + 1, [P] => .refl _
  | i + 1, P :: Q :: M => (List.Perm.swap Q P M).trans ((push_perm i (P :: M)).cons Q)

/-- A row of cells, whole, nothing of it frozen. -/
def cellsB (b : Nat) (cs : Array Value) (T : TypeId) : HProp := fun f => f b = some (.cells cs T (0, 0))
/-- A block of whatever kind. -/
def objB (b : Nat) (o : Obj) : HProp := fun f => f b = some o

/-- The part of w's memory that was not there in W0. -/
def newPart (W0 w : World) : Frag := fun k => if k < W0.heap.size then none else w.heap[k]?

/-- w is W0 with more memory: what was there is as it was, and of the new memory L holds. -/
structure St (W0 w : World) (L : List HProp) : Prop where
  os : w.os = W0.os
  tape : w.tape = W0.tape
  output : w.output = W0.output
  size : W0.heap.size ≤ w.heap.size
  block : ∀ k, k < W0.heap.size → w.heap[k]? = W0.heap[k]?
  sep : starL L (newPart W0 w)

namespace St
variable {W0 w w' : World} {L M : List HProp} {P Q : HProp}

theorem refl (w : World) : St w w [] := ⟨rfl, rfl, rfl, Nat.le_refl _, fun _ _ => rfl, trivial⟩
theorem below (h : St W0 w L) : Below W0.heap.size W0 w := ⟨h.os, h.tape, h.output, h.size, h.block⟩
theorem perm (h : St W0 w L) (p : L.Perm M) : St W0 w M := ⟨h.os, h.tape, h.output, h.size, h.block, starL_perm p h.sep⟩
theorem pull (h : St W0 w L) (i : Nat) : St W0 w (pull i L) := h.perm (pull_perm i L)
theorem push (h : St W0 w L) (i : Nat) : St W0 w (push i L) := h.perm (push_perm i L)
theorem tail (h : St W0 w (P :: L)) : St W0 w L := ⟨h.os, h.tape, h.output, h.size, h.block, starL_tail h.sep⟩
theorem conv (h : St W0 w L) (c : ∀ f, starL L f → starL M f) : St W0 w M := ⟨h.os, h.tape, h.output, h.size, h.block, c _ h.sep⟩
theorem head (h : St W0 w (P :: L)) (c : ∀ f, P f → Q f) : St W0 w (Q :: L) := h.conv fun _ s => starL_cons c (fun _ x => x) s
theorem flat (h : St W0 w (starL L :: M)) : St W0 w (L ++ M) := h.conv fun _ s => starL_flat s
theorem unflat (h : St W0 w (L ++ M)) : St W0 w (starL L :: M) := h.conv fun _ s => starL_unflat s
theorem ex {α : Type} {R : α → HProp} (h : St W0 w ((fun f => ∃ x, R x f) :: L)) : ∃ x, St W0 w (R x :: L) := by
  obtain ⟨f, g, ⟨x, p⟩, q, r⟩ := h.sep
  exact ⟨x, h.os, h.tape, h.output, h.size, h.block, f, g, p, q, r⟩
theorem pure {p : Prop} (h : St W0 w ((fun f => p ∧ P f) :: L)) : p ∧ St W0 w (P :: L) := by
  obtain ⟨f, g, ⟨x, p⟩, q, r⟩ := h.sep
  exact ⟨x, h.os, h.tape, h.output, h.size, h.block, f, g, p, q, r⟩

theorem fst (h : St W0 w (P :: L)) : St W0 w [P] := h.conv fun _ s => starL_cons (fun _ x => x) (fun _ _ => trivial) s
theorem drew (h : St W0 w L) : St W0 w.drew L := ⟨h.os, h.tape, h.output, h.size, h.block, h.sep⟩
theorem drewN (h : St W0 w L) (n : Nat) : St W0 (w.drewN n) L := ⟨h.os, h.tape, h.output, h.size, h.block, h.sep⟩

/-- Whatever leaves the old blocks as they were keeps all. -/
theorem mono (h : St W0 w L) (b : Below w.heap.size w w') : St W0 w' L := by
  refine ⟨b.os.trans h.os, b.tape.trans h.tape, b.output.trans h.output, Nat.le_trans h.size b.size, fun k hk => ?_, ?_⟩
  · rw [b.block k (Nat.lt_of_lt_of_le hk h.size)]; exact h.block k hk
  · refine starL_mono h.sep fun k o e => ?_
    unfold newPart at e ⊢
    split at e
    · cases e
    · rename_i hk
      rw [if_neg hk, b.block k (Array.getElem?_eq_some_iff.1 e).1]; exact e

theorem alloc (h : St W0 w L) (o : Obj) : St W0 (w.alloc o) (objB w.heap.size o :: L) := by
  have hm := h.mono ((Below.refl _ _).alloc (Nat.le_refl _) o)
  refine ⟨hm.os, hm.tape, hm.output, hm.size, hm.block, fun k => if k = w.heap.size then some o else none, newPart W0 w, by simp [objB], h.sep, ?_, ?_, ?_⟩
  · intro k
    by_cases e : k = w.heap.size
    · right; subst e; simp [newPart]
    · left; simp [e]
  · intro k u e
    have hs := h.size
    simp at e
    obtain ⟨rfl, rfl⟩ := e
    simp only [newPart]
    rw [if_neg (by omega)]
    exact heap_alloc_new w o
  · intro k o' e
    unfold newPart at e ⊢
    split at e
    · cases e
    · rename_i hk
      rw [if_neg hk, Below.heap_alloc w o k (Array.getElem?_eq_some_iff.1 e).1]; exact e

theorem allocC (h : St W0 w L) (cs : Array Value) (T : TypeId) : St W0 (w.alloc (.cells cs T)) (cellsB w.heap.size cs T :: L) := h.alloc _

theorem obj {b : Nat} {o : Obj} (h : St W0 w (objB b o :: L)) : w.heap[b]? = some o ∧ W0.heap.size ≤ b := by
  obtain ⟨f, g, p, _, _, le, _⟩ := h.sep
  have e := le _ _ p
  unfold newPart at e
  split at e
  · cases e
  · exact ⟨e, by omega⟩

theorem heap {b : Nat} {cs : Array Value} {T : TypeId} (h : St W0 w (cellsB b cs T :: L)) : w.heap[b]? = some (.cells cs T (0, 0)) := (obj (o := .cells cs T (0, 0)) h).1
theorem base {b : Nat} {cs : Array Value} {T : TypeId} (h : St W0 w (cellsB b cs T :: L)) : W0.heap.size ≤ b := (obj (o := .cells cs T (0, 0)) h).2
theorem lt {b : Nat} {cs : Array Value} {T : TypeId} (h : St W0 w (cellsB b cs T :: L)) : b < w.heap.size := (Array.getElem?_eq_some_iff.1 h.heap).1
theorem cell {b : Nat} {cs : Array Value} {T : TypeId} (h : St W0 w (cellsB b cs T :: L)) (o : Nat) : w.cell? ⟨b, o, none⟩ = cs[o]? := by
  simp [World.cell?, h.heap]
theorem free {b : Nat} {cs : Array Value} {T : TypeId} (h : St W0 w (cellsB b cs T :: L)) (o : Nat) : w.frozen? ⟨b, o, none⟩ = false := by
  simp [World.frozen?, h.heap]

theorem ne {b c : Nat} {cs ds : Array Value} {T U : TypeId} (h : St W0 w (cellsB b cs T :: cellsB c ds U :: L)) : b ≠ c := by
  obtain ⟨f, g, p, ⟨f', g', q, _, _, a', _⟩, d, _, _⟩ := h.sep
  rintro rfl
  have := a' _ _ q
  rcases d b with e | e
  · rw [show f b = _ from p] at e; cases e
  · rw [this] at e; cases e

/-- One block's row is written anew. -/
theorem row {b : Nat} {cs ds : Array Value} {T : TypeId} (h : St W0 w (cellsB b cs T :: L)) (hw : w'.heap[b]? = some (.cells ds T (0, 0)))
    (hs : w.heap.size = w'.heap.size) (ho : w'.os = w.os) (ht : w'.tape = w.tape) (hu : w'.output = w.output) (hr : ∀ k, k ≠ b → w'.heap[k]? = w.heap[k]?) : St W0 w' (cellsB b ds T :: L) := by
  have hb := h.base
  refine ⟨ho.trans h.os, ht.trans h.tape, hu.trans h.output, hs ▸ h.size, fun k hk => ?_, ?_⟩
  · rw [hr k (by omega)]; exact h.block k hk
  · obtain ⟨f, g, p, q, d, le, le'⟩ := h.sep
    have hgb : g b = none := by
      rcases d b with e | e
      · rw [show f b = _ from p] at e; cases e
      · exact e
    refine ⟨fun k => if k = b then some (.cells ds T (0, 0)) else none, g, by simp [cellsB], q, ?_, ?_, ?_⟩
    · intro k
      by_cases e : k = b
      · right; rw [e]; exact hgb
      · left; simp [e]
    · intro k o e
      simp at e
      obtain ⟨rfl, rfl⟩ := e
      unfold newPart
      rw [if_neg (by omega)]
      exact hw
    · intro k o e
      have hk : k ≠ b := fun x => by rw [x, hgb] at e; cases e
      have := le' _ _ e
      unfold newPart at this ⊢
      rw [hr k hk]; exact this

theorem set {b : Nat} {cs : Array Value} {T : TypeId} (h : St W0 w (cellsB b cs T :: L)) (o : Nat) (v : Value) : St W0 (w.setCell ⟨b, o, none⟩ v) (cellsB b (cs.setIfInBounds o v) T :: L) := by
  refine h.row ?_ (by simp) rfl rfl rfl (fun k hk => Below.heap_setCell _ _ _ _ (by simpa using hk))
  simp [World.setCell, Array.getElem?_modify, h.heap]

theorem setRow {b : Nat} {cs : Array Value} {T : TypeId} (h : St W0 w (cellsB b cs T :: L)) (ds : Array Value) : St W0 (w.setRow b ds) (cellsB b ds T :: L) := by
  refine h.row (setRow_heap w b cs ds T (0, 0) h.heap) (by simp [World.setRow]) rfl rfl rfl (fun k hk => setRow_other w b k ds hk)

end St

end Go.Proofs.Ytciciaikajdenaa

/- Owned slices, readable slices, and append, over the separation logic. -/
namespace Go.Proofs.Ytciciaikajdenaa
open Go.RowKit

/-- The slice v of n elements (sz cells each, of type T) is the owner of its array, from the array's beginning on; xs are the elements' cells. -/
def ownS (T : TypeId) (sz : Nat) (v : Value) (n : Nat) (xs : List Value) : HProp := fun f =>
  xs.length = n * sz ∧ (((∃ a, v = .slice a 0 0) ∧ n = 0) ∨ ∃ b cap rest, v = .slice (some ⟨b, 0, none⟩) n cap ∧ n ≤ cap ∧ cap ≤ maxLen ∧ cap * sz ≤ xs.length + rest.length ∧ f b = some (.cells (xs ++ rest).toArray T (0, 0)))

/-- The slice v of n elements can be read: xs are the elements' cells. -/
def rd (w : World) (sz : Nat) (v : Value) (n : Nat) (xs : List Value) : Prop :=
  xs.length = n * sz ∧ (((∃ a c, v = .slice a 0 c) ∧ n = 0) ∨ ∃ b off cap, v = .slice (some ⟨b, off, none⟩) n cap ∧ n ≤ cap ∧ (0 < xs.length → b < w.heap.size) ∧ ∀ j u, xs[j]? = some u → w.cell? ⟨b, off + j, none⟩ = some u)

theorem addr_add (b off j : Nat) : (⟨b, off, none⟩ : Addr).add j = ⟨b, off + j, none⟩ := by
  unfold Addr.add; split <;> simp_all

theorem rd.mono {w w' : World} {sz n : Nat} {v : Value} {xs : List Value} (h : rd w sz v n xs) (b : Below w.heap.size w w') : rd w' sz v n xs := by
  refine ⟨h.1, h.2.imp id ?_⟩
  rintro ⟨g, off, cap, e, hc, hb, hr⟩
  refine ⟨g, off, cap, e, hc, fun q => Nat.lt_of_lt_of_le (hb q) b.size, fun j u hj => ?_⟩
  have hl : 0 < xs.length := by have := (List.getElem?_eq_some_iff.1 hj).1; omega
  rw [b.cell (p := ⟨g, off + j, none⟩) (hb hl)]; exact hr j u hj

/-- What was there before can be read as before. -/
theorem rd.st {W0 w : World} {L : List HProp} {sz n : Nat} {v : Value} {xs : List Value} (h : rd W0 sz v n xs) (s : St W0 w L) : rd w sz v n xs := h.mono s.below

theorem rd.nil (w : World) (sz : Nat) : rd w sz (.slice none 0 0) 0 [] := ⟨by simp, .inl ⟨⟨_, _, rfl⟩, rfl⟩⟩

theorem starL_append {L M : List HProp} : ∀ {f g h : Frag}, starL M f → starL L g → Disj f g → Le f h → Le g h → starL (M ++ L) h := by
  induction M with
  | nil => intro f g h _ b _ _ l; exact starL_mono b l
  | cons P M ih =>
    intro f g h a b d lf lg
    obtain ⟨f1, f2, p, q, d1, a1, b1⟩ := a
    refine ⟨f1, Un f2 g, p, ih q b (d.le b1 (.refl _)) (.un_left _ _) (.un_right (d.le b1 (.refl _))), ?_, a1.trans lf, .un (b1.trans lf) lg⟩
    exact .un_right d1 (d.le a1 (.refl _))

/-- What a call that only makes memory leaves, beside what was there. -/
theorem St.chain {W0 w w' : World} {L M : List HProp} (h : St W0 w L) (k : St w w' M) : St W0 w' (M ++ L) := by
  refine ⟨k.os.trans h.os, k.tape.trans h.tape, k.output.trans h.output, Nat.le_trans h.size k.size, fun i hi => (k.block i (Nat.lt_of_lt_of_le hi h.size)).trans (h.block i hi), ?_⟩
  have hs := h.size
  refine starL_append (f := newPart w w') (g := newPart W0 w) k.sep h.sep ?_ ?_ ?_
  · intro b
    unfold newPart
    by_cases e : b < w.heap.size
    · left; rw [if_pos e]
    · right
      split
      · rfl
      · exact Array.getElem?_eq_none (by omega)
  · intro b o e
    unfold newPart at e ⊢
    split at e
    · cases e
    · rw [if_neg (by omega)]; exact e
  · intro b o e
    unfold newPart at e ⊢
    split at e
    · cases e
    · rename_i hb
      rw [if_neg hb, k.block b (Array.getElem?_eq_some_iff.1 e).1]; exact e

section
variable {W0 w : World} {L : List HProp} {T : TypeId} {sz size n : Nat} {v : Value} {xs : List Value}

theorem St.own_cases (h : St W0 w (ownS T sz v n xs :: L)) : xs.length = n * sz ∧ (((∃ a, v = .slice a 0 0) ∧ n = 0 ∧ xs = []) ∨ ∃ b cap rest, v = .slice (some ⟨b, 0, none⟩) n cap ∧ n ≤ cap ∧ cap ≤ maxLen ∧ cap * sz ≤ xs.length + rest.length ∧ St W0 w (cellsB b (xs ++ rest).toArray T :: L)) := by
  obtain ⟨f, g, ⟨hl, p⟩, q, r⟩ := h.sep
  refine ⟨hl, ?_⟩
  rcases p with ⟨⟨a, rfl⟩, rfl⟩ | ⟨b, cap, rest, e, h1, h2, h3, h4⟩
  · exact .inl ⟨⟨a, rfl⟩, rfl, List.eq_nil_of_length_eq_zero (by simpa using hl)⟩
  · exact .inr ⟨b, cap, rest, e, h1, h2, h3, h.os, h.tape, h.output, h.size, h.block, f, g, h4, q, r⟩

theorem St.own_mk {b cap : Nat} {rest : List Value} (h : St W0 w (cellsB b (xs ++ rest).toArray T :: L)) (hl : xs.length = n * sz) (h1 : n ≤ cap) (h2 : cap ≤ maxLen) (h3 : cap * sz ≤ xs.length + rest.length) : St W0 w (ownS T sz (.slice (some ⟨b, 0, none⟩) n cap) n xs :: L) :=
  h.head fun _ p => ⟨hl, .inr ⟨b, cap, rest, rfl, h1, h2, h3, p⟩⟩

theorem St.own_nil (h : St W0 w L) : St W0 w (ownS T sz (.slice none 0 0) 0 [] :: L) :=
  h.conv fun f s => ⟨fun _ => none, f, ⟨by simp, .inl ⟨⟨_, rfl⟩, rfl⟩⟩, s, fun _ => .inl rfl, (fun _ _ e => by cases e), Le.refl _⟩

theorem St.own_rd (h : St W0 w (ownS T sz v n xs :: L)) : rd w sz v n xs := by
  obtain ⟨hl, h⟩ := h.own_cases
  refine ⟨hl, ?_⟩
  rcases h with ⟨⟨a, rfl⟩, rfl, rfl⟩ | ⟨b, cap, rest, rfl, h1, h2, h3, s⟩
  · exact .inl ⟨⟨_, _, rfl⟩, rfl⟩
  · refine .inr ⟨b, 0, cap, rfl, h1, fun _ => s.lt, fun j u hj => ?_⟩
    rw [s.cell]
    have := (List.getElem?_eq_some_iff.1 hj).1
    simpa [List.getElem?_append, this] using hj

/-- What stands in an owned slice's variable. -/
theorem St.own_form (h : St W0 w (ownS T sz v n xs :: L)) : ∃ a cap, v = .slice a n cap ∧ n ≤ cap := by
  rcases h.own_cases.2 with ⟨⟨a, rfl⟩, rfl, _⟩ | ⟨b, cap, rest, rfl, h1, _⟩
  · exact ⟨_, _, rfl, Nat.le_refl _⟩
  · exact ⟨_, _, rfl, h1⟩

/-- 's[:n:n]'. -/
theorem St.own_cut {a : Option Addr} {cap : Nat} (h : St W0 w (ownS T sz (.slice a n cap) n xs :: L)) : St W0 w (ownS T sz (.slice a n n) n xs :: L) := by
  obtain ⟨hl, hc⟩ := h.own_cases
  rcases hc with ⟨⟨a, e⟩, rfl, rfl⟩ | ⟨b, c, rest, e, h1, h2, h3, s⟩
  · cases e; exact h
  · injection e with e1 e2 e3
    subst e1
    exact s.own_mk hl (Nat.le_refl _) (Nat.le_trans h1 h2) (by omega)

variable {P : Program}

theorem St.append {t ty : TypeId} {i : TypeInfo} {z : Value} {bytes : Nat} (h : St W0 w (ownS T size v n xs :: L))
    (ht : P.underlying t = some (.slice T)) (hi : P.info? T = some i) (hz : i.zero = some z)
    (hsize : i.size = size) (hby : i.bytes = bytes) (hzs : z.cells.size = size)
    {x : Value} {m : Nat} {news : List Value} (hx : rd w size x m news) (h1 : ∀ u ∈ news, u.oneCell' = true)
    (h63 : n + m ≤ maxLen) (hbytes : (n + m) * bytes ≤ 140737488355328) :
    ∃ v' w', (Builtin.append_ #[t, t] ty #[v, x]).run P w = .ok v' w' ∧ St W0 w' (ownS T size v' (n + m) (xs ++ news) :: L) ∧ (v' = .slice none 0 0 ↔ v = .slice none 0 0 ∧ m = 0) := by
  subst hsize
  subst hby
  obtain ⟨hl, hc⟩ := h.own_cases
  obtain ⟨hln, hx⟩ := hx
  have hsmall : n + m ≤ 9223372036854775807 := by simp only [maxLen] at h63; omega
  have hlen : (xs ++ news).length = (n + m) * i.size := by rw [List.length_append, hl, hln, Nat.add_mul]
  -- the source is nil
  have hnil : m = 0 → ∀ x', (∃ a c, x' = .slice a 0 c) → (Builtin.append_ #[t, t] ty #[v, x']).run P w = .ok v w := by
    rintro rfl x' ⟨a, c, rfl⟩
    have hf : (Builtin.firstCells i.size 0 (.slice a 0 c)).run P w = .ok #[] w := by
      cases a <;> simp [Builtin.firstCells, loadCells, loadCellsFrom]
    rcases hc with ⟨⟨a', rfl⟩, rfl, rfl⟩ | ⟨b, cap, rest, rfl, h2, h3, h4, s⟩
    · cases a' <;> simp [Builtin.append_, run_underlying ht, sizeOf, typeInfo, hi, Builtin.lenOf, hf, storeCells]
    · simp [Builtin.append_, run_underlying ht, sizeOf, typeInfo, hi, Builtin.lenOf, hf, h2, storeCells]
  by_cases hm : m = 0
  · have hn : news = [] := List.eq_nil_of_length_eq_zero (by rw [hln, hm]; simp)
    refine ⟨v, w, hnil hm x ?_, by subst hm hn; simpa using h, by simp [hm]⟩
    rcases hx with ⟨⟨_, _, rfl⟩, _⟩ | ⟨b, off, cap, rfl, _⟩
    · exact ⟨_, _, rfl⟩
    · exact ⟨_, _, by rw [hm]⟩
  · have hmp : 0 < m := Nat.pos_of_ne_zero hm
    have hm63 : (m : Int) ≤ 9223372036854775807 := by omega
    have hmb : m * i.bytes ≤ 281474976710656 := by
      have := Nat.mul_le_mul_right i.bytes (show m ≤ n + m by omega)
      omega
    obtain ⟨xb, off, xc, rfl, hmc, hbl, hcell⟩ := hx.resolve_left (fun e => hm e.2)
    have hnews : ∀ j u, news[j]? = some u → w.cell? ((⟨xb, off, none⟩ : Addr).add j) = some u := fun j u hj => by rw [addr_add]; exact hcell j u hj
    have grown : ∀ (old : Nat), old < n + m → St W0 w L →
        St W0 (w.drew.alloc (.cells (xs.toArray ++ news.toArray ++ Builtin.zeroCells z.cells (grownCap w (n + m) old T - (n + m))) T))
          (ownS T i.size (.slice (some ⟨w.heap.size, 0, none⟩) (n + m) (grownCap w (n + m) old T)) (n + m) (xs ++ news) :: L) := by
      intro old ho s
      have hge := grownCap_ge w (n + m) old T
      have hcm : grownCap w (n + m) old T ≤ maxLen := grownCap_le_maxLen w (n + m) old T h63
      have s2 := s.drew.allocC (xs.toArray ++ news.toArray ++ Builtin.zeroCells z.cells (grownCap w (n + m) old T - (n + m))) T
      refine St.own_mk (rest := (Builtin.zeroCells z.cells (grownCap w (n + m) old T - (n + m))).toList) ?_ hlen hge hcm ?_
      · have e : (xs ++ news ++ (Builtin.zeroCells z.cells (grownCap w (n + m) old T - (n + m))).toList).toArray = xs.toArray ++ news.toArray ++ Builtin.zeroCells z.cells (grownCap w (n + m) old T - (n + m)) := by
          apply Array.ext'; simp
        rw [e]; exact s2
      · rw [hlen]
        simp only [Array.length_toList, size_zeroCells, hzs, ← Nat.add_mul]
        exact Nat.mul_le_mul_right _ (by omega)
    rcases hc with ⟨⟨a', rfl⟩, rfl, rfl⟩ | ⟨b, cap, rest, rfl, h2, h3, h4, s⟩
    · cases a' with
      | some a' =>
        have hr := run_append_grow (P := P) w t ty T i z ht hi hz a' 0 0 [] (by simp) (fun j u hj => by simp at hj) ⟨xb, off, none⟩ m xc news hln hnews (by omega) (by omega) (growslice_fits (by omega) hbytes)
        have hg := grown 0 (Nat.lt_of_lt_of_le hmp (Nat.le_add_left _ _)) h.tail
        exact ⟨_, _, hr, hg, by simp⟩
      | none =>
      have hr := run_append_nil (P := P) w t ty T i z ht hi hz ⟨xb, off, none⟩ m xc news hln hnews hmp hm63 hmb
      have hg := grown 0 (Nat.lt_of_lt_of_le hmp (Nat.le_add_left _ _)) h.tail
      simp only [Nat.zero_add, List.nil_append, Array.empty_append] at hg ⊢
      exact ⟨_, _, hr, hg, by simp [hm]⟩
    · by_cases hroom : n + m ≤ cap
      · have hfit : n * i.size + news.length ≤ (xs ++ rest).toArray.size := by
          have := Nat.mul_le_mul_right i.size hroom
          rw [Nat.add_mul] at this
          simp; omega
        have hr := run_append_room (P := P) w t ty T i ht hi b n cap (xs ++ rest).toArray s.heap ⟨xb, off, none⟩ m xc news hln hnews h1 hroom hfit
        refine ⟨_, _, hr, ?_, by simp⟩
        have s2 := s.setRow ((xs ++ rest).toArray.toList.take (n * i.size) ++ news ++ (xs ++ rest).toArray.toList.drop (n * i.size + news.length)).toArray
        refine St.own_mk (rest := rest.drop news.length) ?_ hlen hroom h3 ?_
        · have e : (xs ++ rest).toArray.toList.take (n * i.size) ++ news ++ (xs ++ rest).toArray.toList.drop (n * i.size + news.length) = xs ++ news ++ rest.drop news.length := by
            simp only [List.append_assoc]
            rw [← hl, List.take_left, List.drop_length_add_append]
          rw [e] at s2
          rw [e]; exact s2
        · have := Nat.mul_le_mul_right i.size hroom
          rw [Nat.add_mul] at this
          simp only [List.length_append, List.length_drop]; omega
      · have hr := run_append_grow (P := P) w t ty T i z ht hi hz ⟨b, 0, none⟩ n cap xs hl (fun j u hj => by
            rw [addr_add, Nat.zero_add, s.cell]
            have := (List.getElem?_eq_some_iff.1 hj).1
            simpa [List.getElem?_append, this] using hj) ⟨xb, off, none⟩ m xc news hln hnews (by omega) (by omega) (growslice_fits (by omega) hbytes)
        exact ⟨_, _, hr, grown cap (by omega) s.tail, by simp⟩

/-- append, as an operation of a walk. -/
theorem wpList_append_st (h : St W0 w (ownS T size v n xs :: L))
    {xv : Value} {m : Nat} {news : List Value} (hx : rd w size xv m news) (h1 : ∀ u ∈ news, u.oneCell' = true)
    {i : TypeInfo} {z : Value} {bytes : Nat} (hi : P.info? T = some i) (hz : i.zero = some z)
    (hsize : i.size = size) (hby : i.bytes = bytes) (hzs : z.cells.size = size)
    (h63 : n + m ≤ maxLen) (hbytes : (n + m) * bytes ≤ 140737488355328)
    {t : TypeId} (ht : P.underlying t = some (.slice T))
    {ops : Array Oper} {rest : List Oper} {o : Oper} {a : Act} {Q : Exit → Act → World → Prop} (sl x : Operand)
    (hgd : o.guard = none) (ho : o.op = .call { callee := .builtin .append, args := #[sl, x], argTypes := #[t, t] })
    (hs : a.eval sl = v) (hxe : a.eval x = xv)
    (k : ∀ v' w', St W0 w' (ownS T size v' (n + m) (xs ++ news) :: L) → (v' = .slice none 0 0 ↔ v = .slice none 0 0 ∧ m = 0) → wpList P ops Q rest (a.put o.dst v') w') : wpList P ops Q (o :: rest) a w := by
  obtain ⟨v', w', hr, h2, h3⟩ := h.append (P := P) (ty := o.type) ht hi hz hsize hby hzs hx h1 h63 hbytes
  refine wpList_plain hgd fun K hK => ?_
  unfold Oper.wp execOp
  simp only [ho, resolve, invoke, builtin, Sem.run_bind, Sem.run_pure, Result.andThen_ok, List.map_toArray, List.map_cons, List.map_nil, hs, hxe, hr]
  exact hK _ _ (k v' w' h2 h3)
end

end Go.Proofs.Ytciciaikajdenaa

/- A region that draws its order, walked once in one given order: operations that yield what they yield in every world that meets F are taken in whatever order; the others ('dos') must stand alone when they come up. An operation of 'ends' may put an end to F: it waits for every load ('Ld'). -/
namespace Go.Proofs.Ytciciaikajdenaa
open Go.RowKit

section
variable {P : Program} {ops : Array Oper} {Q : Exit → Act → World → Prop} {md : Region.Mode} {F : World → Prop} {Ld ends dos : List Nat}

def need (F : World → Prop) (Ld : List Nat) (i : Nat) (w : World) : Prop := Ld.contains i = true → F w

/-- k waits for i, by however many steps. -/
def reachB (md : Region.Mode) (ops : Array Oper) : Nat → Nat → Nat → Bool
  | 0, _, _ => false
  | n + 1, i, k => Region.waitsFor md ops k i || (List.range ops.size).any fun j => Region.waitsFor md ops j i && reachB md ops n j k

/-- What has come up, all that it waits for has come up. -/
structure Down (md : Region.Mode) (ops : Array Oper) (listed : Array Bool) : Prop where
  size : listed.size = ops.size
  closed : ∀ j oj, ops[j]? = some oj → listed.getD j false = true → ∀ e ∈ oj.after, Region.binds md e = true → listed.getD e.on false = true

theorem Down.set {i : Nat} {listed : Array Bool} (inv : Down md ops listed) (hi : i ∈ Region.ready md ops listed) : Down md ops (listed.setIfInBounds i true) := by
  obtain ⟨_, oi, hoi, hall⟩ := mem_ready.1 hi
  refine ⟨by simp [inv.size], fun j oj hj hl e he hb => ?_⟩
  by_cases hij : i = j
  · subst hij
    have : oj = oi := Option.some.inj (hj.symm.trans hoi)
    subst this
    exact getD_set_true (hall e he hb)
  · rw [getD_set_ne false hij] at hl
    exact getD_set_true (inv.closed j oj hj hl e he hb)

theorem not_reach {listed : Array Bool} (inv : Down md ops listed) {k : Nat} (hk : k ∈ Region.ready md ops listed) : ∀ (n i : Nat), listed.getD i true = false → reachB md ops n i k = false
  | 0, _, _ => rfl
  | n + 1, i, hu => by
    unfold reachB
    rw [Bool.or_eq_false_iff]
    obtain ⟨_, ok, hok, hall⟩ := mem_ready.1 hk
    constructor
    · cases hw : Region.waitsFor md ops k i with
      | false => rfl
      | true =>
        obtain ⟨o', ho', e, he, hb, hon⟩ := Region.waitsFor_spec hw
        have : o' = ok := Option.some.inj (ho'.symm.trans hok)
        subst this
        have := hall e he hb
        rw [hon, getD_both hu] at this
        cases this
    · rw [List.any_eq_false]
      intro j hj hjb
      rw [Bool.and_eq_true] at hjb
      obtain ⟨oj, hoj, e, he, hb, hon⟩ := Region.waitsFor_spec hjb.1
      have hju : listed.getD j true = false := by
        have hjs : j < listed.size := by rw [inv.size]; exact (Array.getElem?_eq_some_iff.1 hoj).1
        cases hl : listed.getD j false with
        | true =>
          have := inv.closed j oj hoj hl e he hb
          rw [hon, getD_both hu] at this
          cases this
        | false => exact getD_in hjs hl
      rw [not_reach inv hk n j hju] at hjb
      cases hjb.2

def wpAnyG (P : Program) (md : Region.Mode) (ops : Array Oper) (Q : Exit → Act → World → Prop) (F : World → Prop) (ends : List Nat) : Nat → Array Bool → Act → World → Prop
  | 0, listed, a, w => Region.ready md ops listed = [] ∧ Q .normal a w
  | fuel + 1, listed, a, w =>
    (Region.ready md ops listed = [] → Q .normal a w) ∧
    ∀ i ∈ Region.ready md ops listed, wpOp P ops Q i (fun a' w' => (ends.contains i = false → F w → F w') ∧ wpAnyG P md ops Q F ends fuel (listed.setIfInBounds i true) a' w') a w

theorem wpAny_of_G : ∀ (fuel : Nat) (listed : Array Bool) (a : Act) (w : World), wpAnyG P md ops Q F ends fuel listed a w → wpAny P md ops Q fuel listed a w
  | 0, _, _, _, h => h
  | fuel + 1, _, _, _, h => ⟨h.1, fun i hi => wpOp_mono (fun a' w' h' => wpAny_of_G fuel _ a' w' h'.2) (h.2 i hi)⟩

theorem wpAnyG_first {i n : Nat} {oi : Oper} {v : Value} (hi : ops[i]? = some oi) (hsel : ∀ (j : Nat) (o : Oper) cs b, ops[j]? = some o → o.op ≠ .select cs b)
    (hQ : ∀ c a w, Q (.panic c) (a.put oi.dst v) w → Q (.panic c) a w) (hre : ∀ k ∈ ends, Ld.contains i = true → reachB md ops n i k = true) :
    ∀ (fuel : Nat) (listed : Array Bool) (a : Act) (w : World), Down md ops listed →
      (∀ j oj, ops[j]? = some oj → j ≠ i → listed.getD j true = false → (∀ e ∈ oj.after, Region.binds md e = true → e.on ≠ i) → oi.apart ops oj = true) →
      i ∈ Region.ready md ops listed → YieldsIf P ops (need F Ld i) oi v a → need F Ld i w →
      wpAnyG P md ops Q F ends fuel (listed.setIfInBounds i true) (a.put oi.dst v) w → wpAnyG P md ops Q F ends (fuel + 1) listed a w := by
  intro fuel
  induction fuel with
  | zero =>
    intro listed a w _ _ hr hy hS H
    refine ⟨fun h => (by rw [h] at hr; cases hr), fun j hj => ?_⟩
    by_cases hji : j = i
    · subst hji; exact hy.wpOp hi hS ⟨fun _ h => h, H⟩
    · have := ready_mono hj hji
      rw [H.1] at this
      cases this
  | succ fuel ih =>
    intro listed a w inv hfree hr hy hS H
    refine ⟨fun h => (by rw [h] at hr; cases hr), fun j hj => ?_⟩
    by_cases hji : j = i
    · subst hji; exact hy.wpOp hi hS ⟨fun _ h => h, H⟩
    · have h1 := H.2 j (ready_mono hj hji)
      obtain ⟨hjun, oj, hoj, hall⟩ := mem_ready.1 hj
      have hun := (mem_ready.1 hr).1
      have hnot : ∀ e ∈ oj.after, Region.binds md e = true → e.on ≠ i := fun e he hb heq => by
        have h1 := hall e he hb
        rw [heq, getD_both hun] at h1
        cases h1
      have h2 := wpOp_putIf hoj (hfree j oj hoj hji hjun hnot) (fun cs b => hsel i oi cs b hi) (fun cs b => hsel j oj cs b hoj) hQ hy h1
      have hfree' : ∀ k ok, ops[k]? = some ok → k ≠ i → (listed.setIfInBounds j true).getD k true = false →
          (∀ e ∈ ok.after, Region.binds md e = true → e.on ≠ i) → oi.apart ops ok = true := fun k ok hk hki hun hno => by
        refine hfree k ok hk hki ?_ hno
        by_cases hjk : j = k
        · subst hjk; exact hjun
        · rw [getD_set_ne true hjk] at hun; exact hun
      refine wpOp_mono (fun a' w' h3 => ⟨h3.2.1, ih (listed.setIfInBounds j true) a' w' (inv.set hj) hfree' (ready_mono hr (Ne.symm hji)) h3.1 (fun hl => ?_) ?_⟩) h2
      · cases he : ends.contains j with
        | false => exact h3.2.1 he (hS hl)
        | true =>
          have := hre j (by simpa using he) hl
          rw [not_reach inv hj n i hun] at this
          cases this
      · rw [Array.setIfInBounds_comm _ _ hji]
        exact h3.2.2

/-- The order of the walk is one that may be walked. -/
def walkB (md : Region.Mode) (ops : Array Oper) (dos : List Nat) : List Nat → Array Bool → Bool
  | [], listed => (Region.ready md ops listed).isEmpty
  | i :: r, listed => (if dos.contains i then decide (Region.ready md ops listed = [i]) else (Region.ready md ops listed).contains i && Region.free md ops listed i) && walkB md ops dos r (listed.setIfInBounds i true)

/-- The walk. -/
def wpWalk (P : Program) (ops : Array Oper) (Q : Exit → Act → World → Prop) (F : World → Prop) (Ld dos ends : List Nat) : List Nat → Act → World → Prop
  | [], a, w => Q .normal a w
  | i :: r, a, w => if dos.contains i = true then wpOp P ops Q i (fun a' w' => (ends.contains i = false → F w → F w') ∧ wpWalk P ops Q F Ld dos ends r a' w') a w
    else ∃ oi v, ops[i]? = some oi ∧ YieldsIf P ops (need F Ld i) oi v a ∧ need F Ld i w ∧ wpWalk P ops Q F Ld dos ends r (a.put oi.dst v) w

theorem wpAnyG_of_walk {n : Nat} (hsel : Region.noSelect ops = true) (hre : ∀ k ∈ ends, ∀ i, Ld.contains i = true → reachB md ops n i k = true)
    (hQ : ∀ c d v a w, Q (.panic c) (a.put d v) w → Q (.panic c) a w) :
    ∀ (l : List Nat) (listed : Array Bool) (a : Act) (w : World), Down md ops listed → walkB md ops dos l listed = true → wpWalk P ops Q F Ld dos ends l a w → wpAnyG P md ops Q F ends l.length listed a w
  | [], listed, a, w, _, hB, h => ⟨by simpa [walkB] using hB, h⟩
  | i :: r, listed, a, w, inv, hB, h => by
    unfold walkB at hB
    unfold wpWalk at h
    rw [Bool.and_eq_true] at hB
    cases hd : dos.contains i with
    | true =>
      rw [hd] at hB h
      simp only [if_true, decide_eq_true_eq] at hB h
      have hin : i ∈ Region.ready md ops listed := by rw [hB.1]; exact List.mem_singleton.2 rfl
      refine ⟨fun h0 => (by rw [h0] at hB; cases hB.1), fun j hj => ?_⟩
      rw [hB.1] at hj
      have hji : j = i := by simpa using hj
      subst hji
      exact wpOp_mono (fun a' w' h' => ⟨h'.1, wpAnyG_of_walk hsel hre hQ r _ a' w' (inv.set hin) hB.2 h'.2⟩) h
    | false =>
      rw [hd] at hB h
      simp only [Bool.false_eq_true, if_false, Bool.and_eq_true] at hB h
      obtain ⟨oi, v, hoi, hy, hn, h⟩ := h
      have hin : i ∈ Region.ready md ops listed := by simpa using hB.1.1
      exact wpAnyG_first hoi (Region.noSelect_spec hsel) (fun c a w => hQ c _ _ a w) (fun k hk hl => hre k hk i hl) r.length listed a w inv (Region.free_spec hoi hB.1.2) hin hy hn
        (wpAnyG_of_walk hsel hre hQ r _ _ w (inv.set hin) hB.2 h)

/-- All that the kernel is asked of a region and an order. -/
def orderB (ops : Array Oper) (Ld dos ends l : List Nat) : Bool :=
  Region.noSelect ops && decide (l.length = ops.size) && (ends.all fun k => Ld.all fun i => reachB .any ops 8 i k) && walkB .any ops dos l (Array.replicate ops.size false)

theorem wp_region_order {id : Nat} {a : Act} {w : World} {l : List Nat} (F : World → Prop) (Ld dos ends : List Nat) (hm : P.follows .mixedOrders = true) (hB : orderB ops Ld dos ends l = true)
    (hQ : ∀ c d v a w, Q (.panic c) (a.put d v) w → Q (.panic c) a w)
    (h : wpWalk P ops Q F Ld dos ends l a w.drew) : (Code.region id ops true).wp P Q a w := by
  unfold orderB at hB
  simp only [Bool.and_eq_true, decide_eq_true_eq] at hB
  obtain ⟨⟨⟨hsel, hlen⟩, hre⟩, hw⟩ := hB
  refine wp_region_any hm ?_
  have hre' : ∀ k ∈ ends, ∀ i, Ld.contains i = true → reachB .any ops 8 i k = true := fun k hk i hi => by
    have h1 := List.all_eq_true.1 hre k hk
    exact List.all_eq_true.1 h1 i (by simpa using hi)
  have inv0 : Down .any ops (Array.replicate ops.size false) := ⟨by simp, fun j oj _ hl => (by rw [getD_replicate_false] at hl; cases hl)⟩
  have := wpAny_of_G _ _ _ _ (wpAnyG_of_walk hsel hre' hQ l _ a w.drew inv0 hw h)
  rw [hlen] at this
  exact this

/-! The steps. -/
variable {i : Nat} {r : List Nat} {a : Act} {w : World} {o : Oper} {v : Value}

theorem walk_nil (h : Q .normal a w) : wpWalk P ops Q F Ld dos ends [] a w := h

/-- A load. -/
theorem walk_load (hd : dos.contains i = false) (ho : ops[i]? = some o) (hw : Region.wanted o (yielded ops a.tmps) = true) (hF : F w)
    (hl : Ld.contains i = true) (hy : ∀ w, F w → (execOp a.eval o).run P w = .ok (.value v) w) (h : wpWalk P ops Q F Ld dos ends r (a.put o.dst v) w) : wpWalk P ops Q F Ld dos ends (i :: r) a w := by
  unfold wpWalk
  rw [if_neg (by rw [hd]; exact Bool.false_ne_true)]
  exact ⟨o, v, ho, .inl ⟨hw, fun w' hn => hy w' (hn hl)⟩, fun _ => hF, h⟩

/-- What leans on no memory. -/
theorem walk_pure (hd : dos.contains i = false) (ho : ops[i]? = some o) (hw : Region.wanted o (yielded ops a.tmps) = true)
    (hl : Ld.contains i = false) (hy : ∀ w, (execOp a.eval o).run P w = .ok (.value v) w) (h : wpWalk P ops Q F Ld dos ends r (a.put o.dst v) w) : wpWalk P ops Q F Ld dos ends (i :: r) a w := by
  unfold wpWalk
  rw [if_neg (by rw [hd]; exact Bool.false_ne_true)]
  exact ⟨o, v, ho, .inl ⟨hw, fun w' _ => hy w'⟩, (fun hl' => by rw [hl] at hl'; cases hl'), h⟩

/-- What writes or makes memory, or calls. -/
theorem walk_do (hd : dos.contains i = true) (ho : ops[i]? = some o) (hw : Region.wanted o (yielded ops a.tmps) = true)
    (h : ∀ K : Act → World → Prop, (∀ a' w', (ends.contains i = false → F w') → wpWalk P ops Q F Ld dos ends r a' w' → K a' w') → o.wp P a w K Q) : wpWalk P ops Q F Ld dos ends (i :: r) a w := by
  unfold wpWalk
  rw [if_pos hd]
  unfold wpOp
  simp only [ho, hw, if_true]
  exact .inl (h _ fun a' w' hF h' => ⟨fun he _ => hF he, h'⟩)

/-- The world under a new name. -/
theorem abs_wp {W0 : World} {L : List HProp} {c : Code} (h : St W0 w L) (k : ∀ w', St W0 w' L → Code.wp P c Q a w') : Code.wp P c Q a w := k _ h

theorem abs_walk {W0 : World} {L : List HProp} {l : List Nat} (h : St W0 w L) (k : ∀ w', St W0 w' L → wpWalk P ops Q F Ld dos ends l a w') : wpWalk P ops Q F Ld dos ends l a w := k _ h

/-- A region that draws, the world behind the draw under a new name. -/
theorem wp_region_st {W0 : World} {L : List HProp} {id : Nat} (h : St W0 w L) (l : List Nat) (F : World → Prop) (Ld dos ends : List Nat) (hm : P.follows .mixedOrders = true) (hB : orderB ops Ld dos ends l = true)
    (hQ : ∀ c d v a w, Q (.panic c) (a.put d v) w → Q (.panic c) a w)
    (k : ∀ w', St W0 w' L → wpWalk P ops Q F Ld dos ends l a w') : (Code.region id ops true).wp P Q a w :=
  wp_region_order F Ld dos ends hm hB hQ (k _ h.drew)

theorem rd_cells {W0 : World} {L : List HProp} {b n cap sz : Nat} {cs : Array Value} {T : TypeId} (h : St W0 w (cellsB b cs T :: L)) (hc : n ≤ cap) (hs : cs.size = n * sz) : rd w sz (.slice (some ⟨b, 0, none⟩) n cap) n cs.toList :=
  ⟨by simpa using hs, .inr ⟨b, 0, cap, rfl, hc, fun _ => h.lt, fun j u hj => by rw [h.cell]; simpa using hj⟩⟩

/-- append as a step. -/
theorem wp_append_st {W0 : World} {T : TypeId} {size n : Nat} {xs : List Value} {L : List HProp} (h : St W0 w (ownS T size v n xs :: L))
    {xv : Value} {m : Nat} {news : List Value} (hx : rd w size xv m news) (h1 : ∀ u ∈ news, u.oneCell' = true)
    {i : TypeInfo} {z : Value} {bytes : Nat} (hi : P.info? T = some i) (hz : i.zero = some z)
    (hsize : i.size = size) (hby : i.bytes = bytes) (hzs : z.cells.size = size)
    (h63 : n + m ≤ maxLen) (hbytes : (n + m) * bytes ≤ 140737488355328)
    {t : TypeId} (ht : P.underlying t = some (.slice T)) {K : Act → World → Prop} (sl x : Operand)
    (ho : o.op = .call { callee := .builtin .append, args := #[sl, x], argTypes := #[t, t] })
    (hs : a.eval sl = v) (hxe : a.eval x = xv)
    (k : ∀ v' w', St W0 w' (ownS T size v' (n + m) (xs ++ news) :: L) → (v' = .slice none 0 0 ↔ v = .slice none 0 0 ∧ m = 0) → K (a.put o.dst v') w') : o.wp P a w K Q := by
  obtain ⟨v', w', hr, h2, h3⟩ := h.append (P := P) (ty := o.type) ht hi hz hsize hby hzs hx h1 h63 hbytes
  unfold Oper.wp execOp
  simp only [ho, resolve, invoke, builtin, Sem.run_bind, Sem.run_pure, Result.andThen_ok, List.map_toArray, List.map_cons, List.map_nil, hs, hxe, hr]
  exact k v' w' h2 h3
end
end Go.Proofs.Ytciciaikajdenaa

/- A region that draws its order, where two operations that do something (an allocation and a call) may come in either order: walked once for each way, as a tree. After Ord. -/
namespace Go.Proofs.Ytciciaikajdenaa
open Go.RowKit

/-- A walk with forks: behind the operations of 'one' a fork into two, or a plain order. -/
inductive Tr where
  | list (l : List Nat)
  | one (i : Nat) (r : Tr)
  | fork (i j : Nat) (r s : Tr)

section
variable {P : Program} {ops : Array Oper} {Q : Exit → Act → World → Prop} {md : Region.Mode} {F : World → Prop} {Ld ends dos : List Nat}

/-! The steps. -/
variable {i j : Nat} {r s : Tr} {a : Act} {w : World} {o : Oper} {v : Value}

end

end Go.Proofs.Ytciciaikajdenaa

/- Arguments, opened: what the form reads as data, as cells that can be read. -/
namespace Go.Proofs.Ytciciaikajdenaa
open Go.ChangeShapes Go.WideShapes Go.ChangeAt Go.RowKit

/-- These cells read as something of type t, by so much fuel. -/
def Reads (P : Program) (w : World) (n : Nat) (t : TypeId) (cs : List Value) : Prop :=
  ∃ (H : Type) (enc : TypeId × Value → H) (base : Nat) (spare : Nat → Bool) (held : Bool) (x : DataW H × List MemPlace), DataW.trod enc P w base spare held n t cs = some x

theorem Reads.mk {H : Type} {enc : TypeId × Value → H} {P : Program} {w : World} {base : Nat} {spare : Nat → Bool} {held : Bool} {n : Nat} {t : TypeId} {cs : List Value} {x : DataW H × List MemPlace}
    (h : DataW.trod enc P w base spare held n t cs = some x) : Reads P w n t cs := ⟨H, enc, base, spare, held, x, h⟩

section
variable {P : Program} {w : World} {n : Nat} {t : TypeId} {cs : List Value}

theorem Reads.bool (ht : P.underlying t = some .bool) (h : Reads P w n t cs) : ∃ b, cs = [.bool b] := by
  obtain ⟨H, enc, base, spare, held, x, h⟩ := h
  obtain ⟨b, e, _⟩ := DataW.trod_bool ht h
  exact ⟨b, e⟩

theorem Reads.int {k : IntKind} (ht : P.underlying t = some (.int k)) (h : Reads P w n t cs) : ∃ z, cs = [.int k z] ∧ (Lit.int k z).wf = true := by
  obtain ⟨H, enc, base, spare, held, x, h⟩ := h
  obtain ⟨b, e, _, f⟩ := DataW.trod_int ht h
  exact ⟨b, e, f⟩

theorem Reads.string (ht : P.underlying t = some .string) (h : Reads P w n t cs) : ∃ s, cs = [.string s] ∧ s.size ≤ maxLen := by
  obtain ⟨H, enc, base, spare, held, x, h⟩ := h
  obtain ⟨b, e, _, f⟩ := DataW.trod_string ht h
  exact ⟨b, e, f⟩

theorem Reads.struct {fs : Array Field} (ht : P.underlying t = some (.struct fs)) (h : Reads P w n t cs) :
    ∃ m, n = m + 1 ∧ cs.length = P.cellsOf t ∧ ∀ (i : Nat) (f : Field), fs[i]? = some f → Reads P w m f.type ((cs.drop f.offset).take (P.cellsOf f.type)) := by
  obtain ⟨H, enc, base, spare, held, x, h⟩ := h
  obtain ⟨xs, m, e, _, hl, hx, hf⟩ := DataW.trod_struct ht h
  refine ⟨m, e, hl, fun i f hi => ?_⟩
  have hlt : i < xs.length := by rw [hx]; exact (Array.getElem?_eq_some_iff.1 hi).1
  have := hf i f hi
  rw [List.getElem?_eq_getElem hlt] at this
  exact ⟨H, enc, base, spare, held, _, this⟩

theorem flatten_get {c : Nat} : ∀ (rows : List (List Value)) (_ : ∀ r ∈ rows, r.length = c) (i j : Nat), j < c → rows.flatten[i * c + j]? = (rows[i]?).bind (·[j]?)
  | [], _, i, j, _ => by simp
  | r :: rows, h, 0, j, hj => by
    have := h r (by simp)
    simp only [List.flatten_cons, Nat.zero_mul, Nat.zero_add, List.getElem?_cons_zero, Option.bind_some]
    rw [List.getElem?_append_left (by omega)]
  | r :: rows, h, i + 1, j, hj => by
    have hr := h r (by simp)
    simp only [List.flatten_cons, List.getElem?_cons_succ]
    rw [List.getElem?_append_right (by rw [hr, Nat.add_mul]; omega), hr, show (i + 1) * c + j - c = i * c + j by rw [Nat.add_mul]; omega]
    exact flatten_get rows (fun r hr => h r (by simp [hr])) i j hj

theorem flatten_len {c : Nat} : ∀ (rows : List (List Value)) (_ : ∀ r ∈ rows, r.length = c), rows.flatten.length = rows.length * c
  | [], _ => by simp
  | r :: rows, h => by
    simp only [List.flatten_cons, List.length_append, List.length_cons, flatten_len rows (fun r hr => h r (by simp [hr])), h r (by simp), Nat.add_mul]
    omega

theorem Reads.slice {e : TypeId} (ht : P.underlying t = some (.slice e)) (hc : 0 < P.cellsOf e) (h : Reads P w n t cs) :
    ∃ (v : Value) (rows : List (List Value)), cs = [v] ∧ rd w (P.cellsOf e) v rows.length rows.flatten ∧ rows.length ≤ maxLen ∧ ∀ r ∈ rows, r.length = P.cellsOf e ∧ ∃ m, n = m + 1 ∧ Reads P w m e r := by
  obtain ⟨H, enc, base, spare, held, x, h⟩ := h
  rcases DataW.trod_slice ht h with ⟨rfl, _⟩ | ⟨a, len, cap, elems, rest, m, rfl, rfl, _, hb, hl, hm, hlen, hel, _, _⟩
  · exact ⟨_, [], rfl, ⟨by simp, .inl ⟨⟨_, _, rfl⟩, rfl⟩⟩, Nat.zero_le _, by simp⟩
  · generalize hcz : P.cellsOf e = c at *
    have each : ∀ i, i < len → ∃ r y, w.cells? base (a.add (i * c)) c = some r ∧ DataW.trod enc P w base spare held m e r = some y := by
      intro i hi
      have h1 := hel i hi
      have h2 : i < elems.length := by omega
      rw [List.getElem?_eq_getElem h2, Option.bind_eq_some_iff] at h1
      obtain ⟨r, h3, h4⟩ := h1
      exact ⟨r, _, h3, h4⟩
    let row := fun i => (w.cells? base (a.add (i * c)) c).getD []
    have hrow : ∀ i, i < len → (row i).length = c ∧ (∃ y, DataW.trod enc P w base spare held m e (row i) = some y) ∧ ∀ j, j < c → w.cell? ((a.add (i * c)).add j) = (row i)[j]? := by
      intro i hi
      obtain ⟨r, y, h1, h2⟩ := each i hi
      have e1 : row i = r := by simp [row, h1]
      obtain ⟨_, h3, h4⟩ := World.cells?_some h1
      rw [e1]
      exact ⟨h3, ⟨y, h2⟩, h4⟩
    have hmem : ∀ r ∈ (List.range len).map row, r.length = c ∧ ∃ m', m + 1 = m' + 1 ∧ Reads P w m' e r := by
      intro r hr
      obtain ⟨i, hi, rfl⟩ := List.mem_map.1 hr
      have hi' : i < len := by simpa using hi
      obtain ⟨h1, ⟨y, h2⟩, _⟩ := hrow i hi'
      exact ⟨h1, m, rfl, ⟨H, enc, base, spare, held, y, h2⟩⟩
    refine ⟨_, (List.range len).map row, rfl, ?_, by simp; omega, hmem⟩
    have hfl := flatten_len ((List.range len).map row) (fun r hr => (hmem r hr).1)
    refine ⟨hfl, ?_⟩
    simp only [List.length_map, List.length_range] at hfl ⊢
    by_cases h0 : len = 0
    · left; subst h0; exact ⟨⟨_, _, rfl⟩, rfl⟩
    · right
      obtain ⟨b, off, spot⟩ := a
      have hspot : spot = none := by
        have h1 := (hrow 0 (by omega)).2.2 0 hc
        have h2 := (hrow 0 (by omega)).1
        have h3 : (row 0)[0]? = some ((row 0)[0]'(by omega)) := List.getElem?_eq_getElem _
        rw [h3] at h1
        simpa [Addr.add] using World.cell?_spot h1
      subst hspot
      have key : ∀ j u, ((List.range len).map row).flatten[j]? = some u → w.cell? ⟨b, off + j, none⟩ = some u := by
        intro j u hj
        have hjl : j < len * c := by rw [← hfl]; exact (List.getElem?_eq_some_iff.1 hj).1
        have hmod : j % c < c := Nat.mod_lt _ hc
        have hdiv : j / c < len := Nat.div_lt_of_lt_mul (by rw [Nat.mul_comm]; exact hjl)
        have e1 : j = j / c * c + j % c := by rw [Nat.mul_comm]; exact (Nat.div_add_mod j c).symm
        rw [e1, flatten_get _ (fun r hr => (hmem r hr).1) _ _ hmod] at hj
        simp [hdiv] at hj
        have h1 := (hrow (j / c) hdiv).2.2 (j % c) hmod
        rw [hj, addr_add, addr_add] at h1
        rw [e1, ← Nat.add_assoc]; exact h1
      refine ⟨b, off, cap, rfl, hl, fun hp => ?_, key⟩
      have hp' := List.getElem?_eq_getElem (l := ((List.range len).map row).flatten) (i := 0) hp
      have := key 0 _ hp'
      unfold World.cell? at this
      split at this
      · rename_i hh; exact (Array.getElem?_eq_some_iff.1 hh).1
      · cases this

end

end Go.Proofs.Ytciciaikajdenaa

/- A piece of a function, taken out of it by the number of its block: so that it can be walked in a theorem of its own. -/
namespace Go.Proofs.Ytciciaikajdenaa

def findBlock (n : Nat) : Code → Option Code
  | .block k c => if k = n then some (.block k c) else findBlock n c
  | .seq a b => match findBlock n a with
    | some c => some c
    | none => findBlock n b
  | .cond _ a b => match findBlock n a with
    | some c => some c
    | none => findBlock n b
  | .loop c => findBlock n c
  | .scope c => findBlock n c
  | _ => none

end Go.Proofs.Ytciciaikajdenaa

/- A map in memory, as a list of its keys and values; what the language's own steps on it do. No program in sight. -/
namespace Go.Proofs.Ytciciaikajdenaa
open Go.RowKit
open Classical

section
variable {K α β : Type}

noncomputable def getA (x : K) : List (K × α) → Option α
  | [] => none
  | p :: es => if x = p.1 then some p.2 else getA x es
noncomputable def delA (x : K) : List (K × α) → List (K × α)
  | [] => []
  | p :: es => if x = p.1 then es else p :: delA x es
noncomputable def putA (x : K) (v : α) : List (K × α) → List (K × α)
  | [] => [(x, v)]
  | p :: es => if x = p.1 then (x, v) :: es else p :: putA x v es
noncomputable def lookA (x : K) : List (K × α) → Nat → Option (Nat × α)
  | [], _ => none
  | p :: es, i => if x = p.1 then some (i, p.2) else lookA x es (i + 1)

theorem lookA_spec (x : K) : ∀ (es : List (K × α)) (i : Nat), (lookA x es i = none ∧ getA x es = none ∧ delA x es = es ∧ ∀ v, putA x v es = es ++ [(x, v)]) ∨
    ∃ j p, lookA x es i = some (i + j, p.2) ∧ es[j]? = some p ∧ x = p.1 ∧ getA x es = some p.2 ∧ delA x es = es.eraseIdx j ∧ ∀ v, putA x v es = es.set j (x, v)
  | [], i => .inl ⟨rfl, rfl, rfl, fun _ => rfl⟩
  | p :: es, i => by
    by_cases h : x = p.1
    · exact .inr ⟨0, p, by simp [lookA, h], rfl, h, by simp [getA, h], by simp [delA, h], by simp [putA, h]⟩
    · rcases lookA_spec x es (i + 1) with ⟨h1, h2, h3, h4⟩ | ⟨j, q, h1, h2, h3, h4, h5, h6⟩
      · exact .inl ⟨by simp [lookA, h, h1], by simp [getA, h, h2], by simp [delA, h, h3], fun v => by simp [putA, h, h4]⟩
      · exact .inr ⟨j + 1, q, by simp [lookA, h, h1]; omega, by simpa using h2, h3, by simp [getA, h, h4], by simp [delA, h, h5], fun v => by simp [putA, h, h6]⟩

/-- What a key's type must do. -/
structure KeyLaw (P : Program) (kt : TypeId) (kv : K → Value) : Prop where
  find : ∀ (x : K) (arr : List MapEntry) (es : List (K × Value)) (w : World), arr.map (fun e => (e.key, e.val)) = es.map (fun p => (kv p.1, p.2)) → (Instr.findKey kt (kv x) arr).run P w = .ok (lookA x es 0) w
  chk : ∀ (b : Bool) (x : K) (w : World), (Instr.checkKey b 10000 kt (kv x)).run P w = .ok () w
  bits : ∀ x : K, Instr.sameBits 10000 (kv x) (kv x) = true

/-- A map in memory. -/
def mapB (kv : K → Value) (r : Nat) (es : List (K × Value)) : HProp := fun f => ∃ (arr : Array MapEntry) (clock : Nat), f r = some (.map arr clock) ∧ arr.toList.map (fun e => (e.key, e.val)) = es.map (fun p => (kv p.1, p.2))

section
variable {W0 w : World} {L : List HProp} {P : Program} {kt et mt : TypeId} {kv : K → Value} {r : Nat} {es : List (K × Value)}

theorem St.map_open (h : St W0 w (mapB kv r es :: L)) : ∃ arr clock, St W0 w (objB r (.map arr clock) :: L) ∧ arr.toList.map (fun e => (e.key, e.val)) = es.map (fun p => (kv p.1, p.2)) := by
  obtain ⟨f, g, ⟨arr, clock, h1, h2⟩, q, d⟩ := h.sep
  exact ⟨arr, clock, ⟨h.os, h.tape, h.output, h.size, h.block, f, g, h1, q, d⟩, h2⟩

theorem obj_run {b clock : Nat} {arr : Array MapEntry} (h : w.heap[b]? = some (.map arr clock)) : (getObj b).run P w = .ok (.map arr clock) w := by simp [getObj, Sem.run, h]
theorem set_run {b clock : Nat} {arr : Array MapEntry} {o' : Obj} (h : w.heap[b]? = some (.map arr clock)) : (setObj b o').run P w = .ok () { w with heap := w.heap.setIfInBounds b o' } := by simp [setObj, Sem.run, h]

end
end
end Go.Proofs.Ytciciaikajdenaa

/- What a law's claim asks behind the call, out of: it returned true, and below the old heap nothing turned. And an argument's slice of integers, opened. -/
namespace Go.Proofs.Ytciciaikajdenaa
open Go.ChangeShapes Go.WideShapes Go.ChangeAt Go.RowKit

section
variable {H : Type} {enc : TypeId × Value → H} {P : Program}

theorem below_trodAll (hl : laidOutB P = true) {W W' : World} (hb : Below W.heap.size W W') (sp : Nat → Bool) :
    ∀ {ts : List TypeId} {vs : List Value} {ds : List (DataW H)} {ps : List MemPlace}, (ts.all fun t => P.readableRec t && decide (t < P.types.size)) = true →
      DataW.TrodAll enc P W 0 (fun _ => true) true ts vs ds ps → (∀ p ∈ ps, p.block < W.heap.size) → (∀ p ∈ ps, sp p.block = true) → DataW.TrodAll enc P W' 0 sp true ts vs ds ps
  | [], [], [], _, _, h, _, _ => h
  | t :: ts, v :: vs, d :: ds, ps, ht, ⟨p, q, h1, h2, e⟩, hlt, hs => by
    simp only [List.all_cons, Bool.and_eq_true, decide_eq_true_eq] at ht
    refine ⟨p, q, WideElems.Trod_stays hl ht.1.1 ht.1.2 h1 (fun x hx => hb.same (hlt x ?_)) (fun x hx => hs x ?_), below_trodAll hl hb sp ?_ h2 (fun x hx => hlt x ?_) (fun x hx => hs x ?_), e⟩
    · rw [e]; exact List.mem_append_left _ hx
    · rw [e]; exact List.mem_append_left _ hx
    · simpa using ht.2
    · rw [e]; exact List.mem_append_right _ hx
    · rw [e]; exact List.mem_append_right _ hx

theorem law_post {f : Func} {s : ChangeSpec} {apart : Bool} {W W' : World} {args : Array Value} {ds gs : List (DataW H)} {before : List MemPlace}
    (hl : laidOutB P = true) (hr : (f.params.toList.all fun t => P.readableRec t && decide (t < P.types.size)) = true) (hs : s.vars = []) (hres : f.resultTypes = #[4]) (h4 : P.underlying 4 = some .bool)
    (hfn : s.fn H ds = { results := [.lit (.bool true)], args := ds })
    (hW : DataW.Whole enc P f.params.toList s.vars apart W args.toList ds gs before) (hb : Below W.heap.size W W') :
    s.post enc P f apart true false false W args (.bool true) W' := by
  have hlt := hW.lt
  obtain ⟨p, q, hA, hV, he, hz, hn⟩ := hW
  have hV' := hV
  rw [hs] at hV'
  obtain ⟨rfl, rfl⟩ := trodVars_none hV'
  rw [List.append_nil] at he
  subst he
  refine ⟨ds, [], before, [], before, [], ⟨before, [], hA, hV, by simp, hz, hn⟩, ?_, ?_, ?_, hb.frame _, fun h => by cases h⟩
  · rw [List.append_nil, hfn, hres]
    exact trodAll_cons_mk (shut_bool h4 _) trodAll_mk0
  · rw [List.append_nil, hfn]
    exact below_trodAll hl hb _ hr hA hlt (fun p hp => by simpa using hlt p hp)
  · rw [List.append_nil, hfn, hs]; rfl
end

end Go.Proofs.Ytciciaikajdenaa
