/- The heap of layer 23 as plain data, and its operations. No program in sight. -/
import Derived.WalkKit
import Derived.Test.YtciciaikajdenaaRows
import Derived.WalkSpells
import Derived.WalkLawsBesides
import Derived.BigQuiet
import Derived.Deep.QuietTactic
import Derived.Lib.Hide
import Derived.Test.YtciciaikajdenaaLb
namespace Go.Proofs.Ytciciaikajdenaa

structure AWord where
  k : Int
  n : Int
  s : ByteArray
  g : Int

structure ACell where
  k : Int
  n : Int
  ws : List AWord

structure ASlot where
  c : ACell
  gen : Int
  lives : Bool

structure AHeap where
  room : Int
  most : Int
  slots : List ASlot
  free : List Nat

def AWord.zero : AWord := ⟨0, 0, ⟨#[]⟩, 0⟩
def ACell.zero : ACell := ⟨0, 0, []⟩
def cellWord (n g : Int) : AWord := ⟨5, n, ⟨#[]⟩, g⟩

/-- May a word be? -/
def AWord.ok (x : AWord) : Bool :=
  if x.k = 1 then x.s.toList.isEmpty && x.g == 0
  else if x.k = 2 then x.n == 0 && x.g == 0
  else if x.k = 3 ∨ x.k = 4 ∨ x.k = 6 then decide (0 ≤ x.n) && x.s.toList.isEmpty && x.g == 0
  else if x.k = 5 then decide (0 ≤ x.n) && x.s.toList.isEmpty && decide (0 ≤ x.g)
  else if x.k = 7 then x.n == 0 && x.s.toList.isEmpty && x.g == 0
  else false

/-- May contents be, but for their words? -/
def ACell.headOk (c : ACell) : Bool := ((c.k == 1 || c.k == 2) && decide (0 ≤ c.n)) || (c.k == 3 && c.n == 0)
/-- May contents be? -/
def ACell.ok (c : ACell) : Bool := c.headOk && decide (c.ws.length ≤ 64) && c.ws.all AWord.ok

def AHeap.live (H : AHeap) : Int := (H.slots.length : Int) - H.free.length

/-- What a word finds: an error's number, or 0 and the cell's. -/
def AHeap.find (H : AHeap) (w : AWord) : Int × Nat :=
  if w.k ≠ 5 ∨ w.ok = false then (2, 0)
  else if (H.slots.length : Int) ≤ w.n then (4, 0)
  else match H.slots[w.n.toNat]? with
    | some s => if s.lives = true ∧ s.gen = w.g then (0, w.n.toNat) else (230, 0)
    | none => (4, 0)

def AHeap.slot (H : AHeap) (i : Nat) : ASlot := H.slots.getD i ⟨.zero, 0, false⟩

/-- The cell that is given next, and whether it is a new one. -/
def AHeap.next (H : AHeap) : Nat := H.free.getLast?.getD H.slots.length

def AHeap.give (H : AHeap) (c : ACell) : AWord × AHeap :=
  match H.free.getLast? with
  | some i => (cellWord i (H.slot i).gen, { H with slots := H.slots.set i ⟨c, (H.slot i).gen, true⟩, free := H.free.dropLast, most := max H.most (H.live + 1) })
  | none => (cellWord H.slots.length 0, { H with slots := H.slots ++ [⟨c, 0, true⟩], most := max H.most (H.live + 1) })

def AHeap.alloc (H : AHeap) (c : ACell) : (AWord × Int) × AHeap :=
  if c.ok = false then ((.zero, 2), H)
  else if H.room ≤ H.live then ((.zero, 7), H)
  else (((H.give c).1, 0), (H.give c).2)

def AHeap.get (H : AHeap) (w : AWord) : ACell × Int :=
  if (H.find w).1 = 0 then ((H.slot (H.find w).2).c, 0) else (.zero, (H.find w).1)

def ACell.put (c : ACell) (i : Nat) (x : AWord) : ACell := { c with ws := c.ws.set i x }

def AHeap.set (H : AHeap) (w : AWord) (i : Int) (x : AWord) : (AWord × Int) × AHeap :=
  if (H.find w).1 ≠ 0 then ((.zero, (H.find w).1), H)
  else
    let s := H.slot (H.find w).2
    if i < 0 ∨ (s.c.ws.length : Int) ≤ i then ((.zero, 5), H)
    else if x.ok = false then ((.zero, 2), H)
    else ((s.c.ws.getD i.toNat .zero, 0), { H with slots := H.slots.set (H.find w).2 { s with c := s.c.put i.toNat x } })

def AHeap.freed (H : AHeap) (i : Nat) : AHeap :=
  { H with slots := H.slots.set i ⟨.zero, (H.slot i).gen + 1, false⟩, free := H.free ++ [i] }

def AHeap.drop (H : AHeap) (w : AWord) : (ACell × Int) × AHeap :=
  if (H.find w).1 ≠ 0 then ((.zero, (H.find w).1), H)
  else (((H.slot (H.find w).2).c, 0), H.freed (H.find w).2)

def AHeap.renewed (H : AHeap) (i : Nat) (c : ACell) : AHeap := { H with slots := H.slots.set i ⟨c, (H.slot i).gen + 1, true⟩ }

def AHeap.renew (H : AHeap) (w : AWord) (c : ACell) : (AWord × Int) × AHeap :=
  if (H.find w).1 ≠ 0 then ((.zero, (H.find w).1), H)
  else if c.ok = false then ((.zero, 2), H)
  else ((cellWord w.n (w.g + 1), 0), H.renewed (H.find w).2 c)

/-- The words that are alive, by their cells' numbers. -/
def wordsFrom : Nat → List ASlot → List AWord
  | _, [] => []
  | i, s :: l => (if s.lives then [cellWord i s.gen] else []) ++ wordsFrom (i + 1) l
def AHeap.cells (H : AHeap) : List AWord := wordsFrom 0 H.slots

def countLive (l : List ASlot) : Nat := (l.filter (·.lives)).length

/-- What always holds; B: no generation is above. -/
structure AHeap.Ok (H : AHeap) (B : Int) : Prop where
  room0 : 0 ≤ H.room
  room1 : H.room ≤ 100000
  most0 : 0 ≤ H.most
  most1 : H.most ≤ 100000
  few : (H.slots.length : Int) ≤ H.room
  count : countLive H.slots + H.free.length = H.slots.length
  nodup : H.free.Nodup
  dead : ∀ i ∈ H.free, i < H.slots.length ∧ (H.slot i).lives = false
  words : ∀ s ∈ H.slots, s.c.ws.length ≤ 64
  gens : ∀ s ∈ H.slots, 0 ≤ s.gen ∧ s.gen ≤ B

def AHeap.new (room : Int) : AHeap := ⟨room, 0, [], []⟩

theorem AHeap.new_ok (room : Int) (h0 : 0 ≤ room) (h1 : room ≤ 100000) (B : Int) : (AHeap.new room).Ok B :=
  ⟨h0, h1, Int.le_refl _, by simp [AHeap.new], by simpa [AHeap.new] using h0, rfl, by simp [AHeap.new], by simp [AHeap.new], by simp [AHeap.new], by simp [AHeap.new]⟩

theorem AHeap.slot_get {H : AHeap} {i : Nat} (h : i < H.slots.length) : H.slots[i]? = some (H.slot i) := by
  simp [AHeap.slot, List.getD, List.getElem?_eq_getElem h]

theorem AHeap.slot_mem {H : AHeap} {i : Nat} (h : i < H.slots.length) : H.slot i ∈ H.slots := by
  have := AHeap.slot_get h
  exact List.mem_of_getElem? this

theorem AHeap.find_zero {H : AHeap} {w : AWord} (h : (H.find w).1 = 0) : w.k = 5 ∧ w.ok = true ∧ 0 ≤ w.n ∧ w.n = ((H.find w).2 : Int) ∧ (H.find w).2 < H.slots.length ∧ (H.slot (H.find w).2).lives = true ∧ (H.slot (H.find w).2).gen = w.g := by
  unfold AHeap.find at h ⊢
  split at h
  · cases h
  · rename_i h1
    rw [if_neg h1]
    simp only [not_or, ne_eq, Decidable.not_not, Bool.not_eq_false] at h1
    have hn : 0 ≤ w.n := by
      have := h1.2
      unfold AWord.ok at this
      simp [h1.1] at this
      exact this.1.1
    split at h
    · cases h
    · rename_i h2
      rw [if_neg h2]
      have hlt : w.n.toNat < H.slots.length := by omega
      rw [AHeap.slot_get hlt] at h ⊢
      simp only at h ⊢
      split at h
      · rename_i h3
        rw [if_pos h3]
        exact ⟨h1.1, h1.2, hn, by simp; omega, hlt, h3.1, h3.2⟩
      · cases h

theorem countLive_set (l : List ASlot) (i : Nat) (s : ASlot) (h : i < l.length) : countLive (l.set i s) + (if (l.getD i s).lives then 1 else 0) = countLive l + (if s.lives then 1 else 0) := by
  induction l generalizing i with
  | nil => simp at h
  | cons a l ih =>
    cases i with
    | zero =>
      simp only [List.set_cons_zero, countLive, List.filter_cons, List.getD_cons_zero]
      cases a.lives <;> cases s.lives <;> simp
    | succ i =>
      have := ih i (by simpa using h)
      simp only [List.set_cons_succ, countLive, List.filter_cons, List.getD_cons_succ] at this ⊢
      cases a.lives <;> simp at this ⊢ <;> omega

theorem countLive_le (l : List ASlot) : countLive l ≤ l.length := List.length_filter_le _ _

theorem AHeap.Ok.live_eq {H : AHeap} {B : Int} (h : H.Ok B) : H.live = countLive H.slots := by
  have := h.count
  unfold AHeap.live; omega

theorem AHeap.Ok.mono {H : AHeap} {B B' : Int} (h : H.Ok B) (hb : B ≤ B') : H.Ok B' :=
  { h with gens := fun s hs => ⟨(h.gens s hs).1, Int.le_trans (h.gens s hs).2 hb⟩ }

theorem slot_set {H K : AHeap} {i : Nat} {s : ASlot} (hk : K.slots = H.slots.set i s) (hi : i < H.slots.length) (j : Nat) : K.slot j = if i = j then s else H.slot j := by
  unfold AHeap.slot
  rw [hk]
  simp only [List.getD, List.getElem?_set]
  split
  · rename_i e; subst e; rfl
  · rfl

theorem AHeap.slot_congr {H K : AHeap} (h : H.slots = K.slots) (i : Nat) : H.slot i = K.slot i := by simp [AHeap.slot, h]

theorem AHeap.Ok.give {H : AHeap} {B : Int} (h : H.Ok B) (hB : 0 ≤ B) {c : ACell} (hc : c.ws.length ≤ 64) (hr : H.live < H.room) : (H.give c).2.Ok B := by
  have hcnt := h.count
  have hlive := h.live_eq
  have hle := countLive_le H.slots
  have hroom := h.room1
  have hmost := h.most0
  have hmost1 := h.most1
  unfold AHeap.give
  cases hl : H.free.getLast? with
  | some i =>
    have hmem : i ∈ H.free := List.mem_of_getLast? hl
    obtain ⟨hi, hd⟩ := h.dead i hmem
    have hne : H.free ≠ [] := by intro e; rw [e] at hmem; simp at hmem
    have hlast : H.free = H.free.dropLast ++ [i] := by
      rw [List.getLast?_eq_some_getLast hne] at hl
      cases hl
      exact (List.dropLast_concat_getLast hne).symm
    have hnd := h.nodup
    rw [hlast] at hnd
    have hnd2 := (List.nodup_append.1 hnd)
    have hcs := countLive_set H.slots i ⟨c, (H.slot i).gen, true⟩ hi
    have hgd : (H.slots.getD i ⟨c, (H.slot i).gen, true⟩).lives = false := by
      rw [← hd]; simp [AHeap.slot, List.getD, hi]
    rw [hgd] at hcs
    simp at hcs
    have hfl : H.free.length = H.free.dropLast.length + 1 := by have := congrArg List.length hlast; simpa using this
    refine ⟨h.room0, h.room1, ?_, ?_, ?_, ?_, hnd2.1, ?_, ?_, ?_⟩
    · show 0 ≤ max H.most (H.live + 1); omega
    · show max H.most (H.live + 1) ≤ 100000; omega
    · simpa using h.few
    · simp only [List.length_set]; omega
    · intro j hj
      have hjm : j ∈ H.free := (List.dropLast_subset _) hj
      obtain ⟨hj1, hj2⟩ := h.dead j hjm
      refine ⟨by simpa using hj1, ?_⟩
      have hij : i ≠ j := by
        rintro rfl
        exact hnd2.2.2 i hj i (by simp) rfl
      rw [slot_set (H := H) (i := i) rfl hi, if_neg hij]; exact hj2
    · intro s hs
      rcases List.mem_or_eq_of_mem_set hs with hs | rfl
      · exact h.words s hs
      · exact hc
    · intro s hs
      rcases List.mem_or_eq_of_mem_set hs with hs | rfl
      · exact h.gens s hs
      · exact h.gens (H.slot i) (AHeap.slot_mem hi)
  | none =>
    have he : H.free = [] := by simpa using hl
    have hfl : H.free.length = 0 := by rw [he]; rfl
    have hlv : H.live = H.slots.length := by unfold AHeap.live; omega
    refine ⟨h.room0, h.room1, ?_, ?_, ?_, ?_, h.nodup, ?_, ?_, ?_⟩
    · show 0 ≤ max H.most (H.live + 1); omega
    · show max H.most (H.live + 1) ≤ 100000; omega
    · simp; omega
    · simp only [countLive, List.filter_append, List.length_append, List.filter_cons] at hcnt ⊢
      simp; omega
    · intro j hj; rw [he] at hj; simp at hj
    · intro s hs
      rcases List.mem_append.1 hs with hs | hs
      · exact h.words s hs
      · simp at hs; subst hs; exact hc
    · intro s hs
      rcases List.mem_append.1 hs with hs | hs
      · exact h.gens s hs
      · simp at hs; subst hs; exact ⟨Int.le_refl _, hB⟩

theorem AHeap.Ok.freed {H : AHeap} {B : Int} (h : H.Ok B) {i : Nat} (hi : i < H.slots.length) (hl : (H.slot i).lives = true) : (H.freed i).Ok (B + 1) := by
  have hcs := countLive_set H.slots i ⟨.zero, (H.slot i).gen + 1, false⟩ hi
  have hgd : (H.slots.getD i ⟨.zero, (H.slot i).gen + 1, false⟩).lives = true := by
    rw [← hl]; simp [AHeap.slot, List.getD, hi]
  rw [hgd] at hcs
  simp at hcs
  have hcnt := h.count
  have hnot : i ∉ H.free := fun hm => by have := (h.dead i hm).2; rw [hl] at this; cases this
  unfold AHeap.freed
  refine ⟨h.room0, h.room1, h.most0, h.most1, by simpa using h.few, ?_, ?_, ?_, ?_, ?_⟩
  · simp only [List.length_set, List.length_append, List.length_singleton]; omega
  · refine List.nodup_append.2 ⟨h.nodup, by simp, ?_⟩
    intro a ha b hb
    simp at hb; subst hb
    rintro rfl; exact hnot ha
  · intro j hj
    rcases List.mem_append.1 hj with hj | hj
    · obtain ⟨hj1, hj2⟩ := h.dead j hj
      refine ⟨by simpa using hj1, ?_⟩
      have hij : i ≠ j := by rintro rfl; exact hnot hj
      rw [slot_set (H := H) (i := i) rfl hi, if_neg hij]; exact hj2
    · simp at hj; subst hj
      refine ⟨by simpa using hi, ?_⟩
      rw [slot_set (H := H) rfl hi, if_pos rfl]
  · intro s hs
    rcases List.mem_or_eq_of_mem_set hs with hs | rfl
    · exact h.words s hs
    · simp [ACell.zero]
  · intro s hs
    rcases List.mem_or_eq_of_mem_set hs with hs | rfl
    · have := h.gens s hs; omega
    · have := h.gens (H.slot i) (AHeap.slot_mem hi); simp; omega

theorem AHeap.Ok.renewed {H : AHeap} {B : Int} (h : H.Ok B) {i : Nat} (hi : i < H.slots.length) (hl : (H.slot i).lives = true) {c : ACell} (hc : c.ws.length ≤ 64) : (H.renewed i c).Ok (B + 1) := by
  have hcs := countLive_set H.slots i ⟨c, (H.slot i).gen + 1, true⟩ hi
  have hgd : (H.slots.getD i ⟨c, (H.slot i).gen + 1, true⟩).lives = true := by
    rw [← hl]; simp [AHeap.slot, List.getD, hi]
  rw [hgd] at hcs
  simp at hcs
  have hcnt := h.count
  unfold AHeap.renewed
  refine ⟨h.room0, h.room1, h.most0, h.most1, by simpa using h.few, ?_, h.nodup, ?_, ?_, ?_⟩
  · simp only [List.length_set]; omega
  · intro j hj
    obtain ⟨hj1, hj2⟩ := h.dead j hj
    refine ⟨by simpa using hj1, ?_⟩
    have hij : i ≠ j := by rintro rfl; rw [hl] at hj2; cases hj2
    rw [slot_set (H := H) (i := i) rfl hi, if_neg hij]; exact hj2
  · intro s hs
    rcases List.mem_or_eq_of_mem_set hs with hs | rfl
    · exact h.words s hs
    · exact hc
  · intro s hs
    rcases List.mem_or_eq_of_mem_set hs with hs | rfl
    · have := h.gens s hs; omega
    · have := h.gens (H.slot i) (AHeap.slot_mem hi); simp; omega

theorem AHeap.Ok.put {H : AHeap} {B : Int} (h : H.Ok B) {i : Nat} (hi : i < H.slots.length) (j : Nat) (x : AWord) :
    ({ H with slots := H.slots.set i { H.slot i with c := (H.slot i).c.put j x } } : AHeap).Ok B := by
  have hcs := countLive_set H.slots i { H.slot i with c := (H.slot i).c.put j x } hi
  have hgd : (H.slots.getD i { H.slot i with c := (H.slot i).c.put j x }).lives = (H.slot i).lives := by
    simp [AHeap.slot, List.getD, hi]
  rw [hgd] at hcs
  have hcs : countLive (H.slots.set i { H.slot i with c := (H.slot i).c.put j x }) = countLive H.slots := Nat.add_right_cancel hcs
  have hcnt := h.count
  refine ⟨h.room0, h.room1, h.most0, h.most1, by simpa using h.few, ?_, h.nodup, ?_, ?_, ?_⟩
  · simp only [List.length_set, hcs]; exact hcnt
  · intro k hk
    obtain ⟨hj1, hj2⟩ := h.dead k hk
    refine ⟨by simpa using hj1, ?_⟩
    rw [slot_set (H := H) (i := i) rfl hi]
    by_cases hij : i = k
    · rw [if_pos hij, ← hj2, ← hij]
    · rw [if_neg hij]; exact hj2
  · intro s hs
    rcases List.mem_or_eq_of_mem_set hs with hs | rfl
    · exact h.words s hs
    · simpa [ACell.put] using h.words (H.slot i) (AHeap.slot_mem hi)
  · intro s hs
    rcases List.mem_or_eq_of_mem_set hs with hs | rfl
    · exact h.gens s hs
    · exact h.gens (H.slot i) (AHeap.slot_mem hi)

end Go.Proofs.Ytciciaikajdenaa
/- Walks: the small functions of package heap that make no lasting memory. -/
namespace Go.Proofs.Ytciciaikajdenaa
open Go.RowKit

def wcells (x : AWord) : List Value := [.int .u8 x.k, .int .i64 x.n, .string x.s, .int .i64 x.g]
def wv (x : AWord) : Value := .agg #[.int .u8 x.k, .int .i64 x.n, .string x.s, .int .i64 x.g]

theorem kinds (k : Int) : k = 1 ∨ k = 2 ∨ k = 3 ∨ k = 4 ∨ k = 5 ∨ k = 6 ∨ k = 7 ∨ (k ≠ 1 ∧ k ≠ 2 ∧ k ≠ 3 ∧ k ≠ 4 ∧ k ≠ 5 ∧ k ≠ 6 ∧ k ≠ 7) := by omega

set_option maxHeartbeats 800000 in
theorem word_c (x : AWord) (w : World) :
    Calls Try.prog 72 #[wv x] w fun e w' => e = .returned (.bool x.ok) ∧ Below w.heap.size w w' := by
  obtain ⟨k, n, s, g⟩ := x
  unfold wv
  rcases kinds k with rfl | rfl | rfl | rfl | rfl | rfl | rfl | ⟨k1, k2, k3, k4, k5, k6, k7⟩
  case inr.inr.inr.inr.inr.inr.inr =>
    have h1 := beq_eq_false_iff_ne.2 k1
    have h2 := beq_eq_false_iff_ne.2 k2
    have h3 := beq_eq_false_iff_ne.2 k3
    have h4 := beq_eq_false_iff_ne.2 k4
    have h5 := beq_eq_false_iff_ne.2 k5
    have h6 := beq_eq_false_iff_ne.2 k6
    have h7 := beq_eq_false_iff_ne.2 k7
    go_enter Try.func72, Try.ntmps72
    go_wp2
    go_ret
    refine ⟨by simp [AWord.ok, k1, k2, k3, k4, k5, k6, k7], ?_⟩
    exact ((Below.refl _ _).alloc (Nat.le_refl _) _).alloc (by simp) _
  all_goals
    go_enter Try.func72, Try.ntmps72
    go_wp2
    all_goals
      go_ret
      refine ⟨?_, ((Below.refl _ _).alloc (Nat.le_refl _) _).alloc (by simp) _⟩
      simp [AWord.ok, *]
      try first | omega | (intro _; exfalso; omega)

end Go.Proofs.Ytciciaikajdenaa
/- Walks: May and what it calls. -/
namespace Go.Proofs.Ytciciaikajdenaa
open Go.RowKit

theorem may1_c (x : AWord) (w : World) :
    Calls Try.prog 71 #[wv x] w fun e w' => e = .returned (.bool (!x.ok)) ∧ Below w.heap.size w w' := by
  have H := Lib.hid (fun w => word_c x w)
  unfold wv at *
  go_enter Try.func71, Try.ntmps71
  go_wp2_with (go_at_call 72; refine (H.out _).mono ?_; rintro e w' ⟨rfl, hb⟩)
  go_ret
  refine ⟨rfl, ?_⟩
  exact ((Below.refl _ _).alloc (Nat.le_refl _) _).trans (hb.mono (by simp))

/-- The words of a list, one behind the other. -/
def flatW (ws : List AWord) : List Value := ws.flatMap wcells

theorem flat_get {α : Type} {f : α → List Value} {k : Nat} (hf : ∀ x, (f x).length = k) : ∀ (l : List α) (i j : Nat) (x : α), l[i]? = some x → j < k → (l.flatMap f)[i * k + j]? = (f x)[j]?
  | [], i, j, x, h, _ => by simp at h
  | a :: l, 0, j, x, h, hj => by
    simp at h; subst h
    simp only [List.flatMap_cons, Nat.zero_mul, Nat.zero_add]
    rw [List.getElem?_append_left (by rw [hf]; exact hj)]
  | a :: l, i + 1, j, x, h, hj => by
    simp only [List.flatMap_cons]
    rw [List.getElem?_append_right (by rw [hf, Nat.add_mul]; omega), hf]
    rw [show (i + 1) * k + j - k = i * k + j from by rw [Nat.add_mul]; omega]
    exact flat_get hf l i j x (by simpa using h) hj

theorem flat_len {α : Type} {f : α → List Value} {k : Nat} (hf : ∀ x, (f x).length = k) : ∀ (l : List α), (l.flatMap f).length = l.length * k
  | [] => by simp
  | a :: l => by simp only [List.flatMap_cons, List.length_append, List.length_cons, hf, flat_len hf l, Nat.add_mul]; omega

theorem wcells_len (x : AWord) : (wcells x).length = 4 := rfl
theorem flatW_len (ws : List AWord) : (flatW ws).length = ws.length * 4 := flat_len wcells_len ws

/-- The four cells of the i-th word of a slice that can be read. -/
theorem rd_word {w : World} {b off n cap : Nat} {ws : List AWord} (h : rd w 4 (.slice (some ⟨b, off, none⟩) n cap) ws.length (flatW ws)) {i : Nat} {x : AWord} (hx : ws[i]? = some x) :
    w.cell? ⟨b, off + i * 4, none⟩ = some (.int .u8 x.k) ∧ w.cell? ⟨b, off + i * 4 + 1, none⟩ = some (.int .i64 x.n) ∧ w.cell? ⟨b, off + i * 4 + 2, none⟩ = some (.string x.s) ∧ w.cell? ⟨b, off + i * 4 + 3, none⟩ = some (.int .i64 x.g) := by
  obtain ⟨_, h⟩ := h
  rcases h with ⟨_, h⟩ | ⟨b', off', cap', e, _, _, hr⟩
  · have := (List.getElem?_eq_some_iff.1 hx).1; omega
  · cases e
    have f0 := hr (i * 4 + 0) (.int .u8 x.k) (by unfold flatW; rw [flat_get wcells_len ws i 0 x hx (by omega)]; rfl)
    have f1 := hr (i * 4 + 1) (.int .i64 x.n) (by unfold flatW; rw [flat_get wcells_len ws i 1 x hx (by omega)]; rfl)
    have f2 := hr (i * 4 + 2) (.string x.s) (by unfold flatW; rw [flat_get wcells_len ws i 2 x hx (by omega)]; rfl)
    have f3 := hr (i * 4 + 3) (.int .i64 x.g) (by unfold flatW; rw [flat_get wcells_len ws i 3 x hx (by omega)]; rfl)
    simp only [← Nat.add_assoc] at f0 f1 f2 f3
    exact ⟨f0, f1, f2, f3⟩

set_option maxHeartbeats 400000 in
theorem index_c (v : Value) (ws : List AWord) (w : World) (h : rd w 4 v ws.length (flatW ws)) (hm : ws.length ≤ maxLen) :
    Calls Try.prog 114 #[v, .func (.func 71) #[] #[]] w fun e w' => (∃ r : Int, e = .returned (.int .i64 r) ∧ (decide (0 ≤ r)) = !(ws.all AWord.ok)) ∧ Below w.heap.size w w' := by
  obtain ⟨a, cap, rfl⟩ : ∃ a cap, v = .slice a ws.length cap := by
    rcases h.2 with ⟨⟨_, _, rfl⟩, e⟩ | ⟨b, off, cap, rfl, _⟩
    · exact ⟨_, _, by rw [e]⟩
    · exact ⟨_, _, rfl⟩
  have H := Lib.hid h; clear h
  go_enter Try.func114, Try.ntmps114
  go_wp2
  go_loopw [5, 8] (fun _ i wr => ∃ k : Nat, k ≤ ws.length ∧ i = .int .i64 k ∧ (ws.take k).all AWord.ok = true ∧ Below w.heap.size w wr) (fun _ i _ => ws.length - (intOf i).toNat)
  case atStart => exact ⟨0, Nat.zero_le _, rfl, rfl, Below.refl _ _⟩
  case round =>
    obtain ⟨k, hk, rfl, hall, hb⟩ := hrel
    by_cases hlt : k < ws.length
    · obtain ⟨x, hx⟩ : ∃ x, ws[k]? = some x := ⟨_, List.getElem?_eq_getElem hlt⟩
      obtain ⟨b, off, rfl⟩ : ∃ b off, a = some ⟨b, off, none⟩ := by
        rcases H.out.2 with ⟨_, e⟩ | ⟨b, off, cap', e, _⟩
        · omega
        · injection e with e1 _ _; exact ⟨_, _, e1⟩
      obtain ⟨f0, f1, f2, f3⟩ := rd_word (H.out.mono hb) hx
      have H1 := Lib.hid (may1_c x)
      unfold wv at H1
      unfold maxLen at hm
      clear H
      cases hok : x.ok
      · have hok' : Hid (x.ok = false) := hok
        go_wp2_with (go_at_call 71; refine (H1.out _).mono ?_; rintro e w' ⟨rfl, hb2⟩)
        go_ret
        refine ⟨⟨k, rfl, ?_⟩, hb.trans (hb2.mono hb.size)⟩
        have : ws.all AWord.ok = false := by
          rw [List.all_eq_false]
          exact ⟨x, List.mem_of_getElem? hx, by simp [hok'.out]⟩
        rw [this]; simp
      · have hok' : Hid (x.ok = true) := hok
        go_wp2_with (go_at_call 71; refine (H1.out _).mono ?_; rintro e w' ⟨rfl, hb2⟩)
        refine ⟨⟨k + 1, by omega, by go_num, ?_, hb.trans (hb2.mono hb.size)⟩, by simp [intOf]; omega⟩
        rw [List.take_add_one, hx]
        simp [hall, hok'.out]
    · go_wp2
      go_ret
      obtain rfl : k = ws.length := by omega
      rw [List.take_of_length_le (Nat.le_refl _)] at hall
      exact ⟨⟨-1, rfl, by rw [hall]; rfl⟩, hb⟩

theorem contains_c (v : Value) (ws : List AWord) (w : World) (h : rd w 4 v ws.length (flatW ws)) (hm : ws.length ≤ maxLen) :
    Calls Try.prog 70 #[v, .func (.func 71) #[] #[]] w fun e w' => e = .returned (.bool (!(ws.all AWord.ok))) ∧ Below w.heap.size w w' := by
  have H := Lib.hid (index_c v ws w h hm); clear h
  go_enter Try.func70, Try.ntmps70
  go_wp2_with (go_at_call 114; refine H.out.mono ?_; rintro e w' ⟨⟨r, rfl, hr⟩, hb⟩; have HR := Lib.hid hr; clear hr)
  all_goals
    go_ret
    refine ⟨?_, ‹_›⟩
    rw [← HR.out]; simp [*]

/-- A cell's value, its words' slice v. -/
def cv (c : ACell) (v : Value) : Value := .agg #[.int .u8 c.k, .int .i64 c.n, v]

set_option maxHeartbeats 400000 in
theorem may_c (c : ACell) (v : Value) (w : World) (h : rd w 4 v c.ws.length (flatW c.ws)) (hm : c.ws.length ≤ maxLen) :
    Calls Try.prog 18 #[cv c v] w fun e w' => e = .returned (.bool c.ok) ∧ Below w.heap.size w w' := by
  obtain ⟨a, cap, rfl⟩ : ∃ a cap, v = .slice a c.ws.length cap := by
    rcases h.2 with ⟨⟨_, _, rfl⟩, e⟩ | ⟨b, off, cap, rfl, _⟩
    · exact ⟨_, _, by rw [e]⟩
    · exact ⟨_, _, rfl⟩
  have H := Lib.hid (fun w' (hb : Below w.heap.size w w') => contains_c (.slice a c.ws.length cap) c.ws w' (h.mono hb) hm); clear h
  unfold maxLen at hm
  unfold cv
  obtain ⟨k, n, ws⟩ := c
  simp only at *
  rcases (show k = 1 ∨ k = 2 ∨ k = 3 ∨ (k ≠ 1 ∧ k ≠ 2 ∧ k ≠ 3) by omega) with rfl | rfl | rfl | ⟨k1, k2, k3⟩
  case inr.inr.inr =>
    have h1 := beq_eq_false_iff_ne.2 k1
    have h2 := beq_eq_false_iff_ne.2 k2
    have h3 := beq_eq_false_iff_ne.2 k3
    go_enter Try.func18, Try.ntmps18
    go_wp2
    go_ret
    exact ⟨by simp [ACell.ok, ACell.headOk, k1, k2, k3], (Below.refl _ _).alloc (Nat.le_refl _) _⟩
  all_goals
    go_enter Try.func18, Try.ntmps18
    go_wp2_with (go_at_call 70; refine (H.out _ ((Below.refl _ _).alloc (Nat.le_refl _) _)).mono ?_; rintro e w' ⟨rfl, hb⟩)
    all_goals
      go_ret
      refine ⟨?_, ?_⟩
      · go_tidy
        try simp only [bne_iff_ne, bne_eq_false_iff_eq, ne_eq] at *
        simp [ACell.ok, ACell.headOk, *]
        try omega
      · first
        | exact (Below.refl _ _).alloc (Nat.le_refl _) _
        | exact ((Below.refl _ _).alloc (Nat.le_refl _) _).trans (hb.mono (by simp))

end Go.Proofs.Ytciciaikajdenaa
/- The heap of package heap in memory; Live, Left, Most, New. -/
namespace Go.Proofs.Ytciciaikajdenaa
open Go.RowKit

/-- A slot's five cells, its words' slice beside it. -/
def slotCells (x : ASlot × Value) : List Value := [.int .u8 x.1.c.k, .int .i64 x.1.c.n, x.2, .int .i64 x.1.gen, .bool x.1.lives]
def slotOwn (x : ASlot × Value) : HProp := ownS 36 4 x.2 x.1.c.ws.length (flatW x.1.c.ws)
def intsV (l : List Nat) : List Value := l.map fun (i : Nat) => Value.int .i64 (i : Int)
theorem slotCells_len (x : ASlot × Value) : (slotCells x).length = 5 := rfl

/-- All slots' words. -/
def slotsW (sv : List (ASlot × Value)) : HProp := starL (sv.map slotOwn)

def heapL (p : Nat) (H : AHeap) (vs vf : Value) (sv : List (ASlot × Value)) : List HProp :=
  [cellsB p #[.int .i64 H.room, .int .i64 H.most, vs, vf] 109, ownS 124 5 vs sv.length (sv.flatMap slotCells), ownS 3 1 vf H.free.length (intsV H.free), slotsW sv]

def heapAt (p : Nat) (H : AHeap) : HProp := fun f => ∃ (vs vf : Value) (sv : List (ASlot × Value)), sv.map Prod.fst = H.slots ∧ starL (heapL p H vs vf sv) f

section
variable {W0 w : World} {L : List HProp} {p : Nat} {H : AHeap}

theorem St.heap_open (h : St W0 w (heapAt p H :: L)) : ∃ vs vf sv, sv.map Prod.fst = H.slots ∧ St W0 w (heapL p H vs vf sv ++ L) := by
  obtain ⟨vs, h⟩ := h.ex
  obtain ⟨vf, h⟩ := h.ex
  obtain ⟨sv, h⟩ := h.ex
  obtain ⟨e, h⟩ := h.pure
  exact ⟨vs, vf, sv, e, h.flat⟩

theorem St.heap_close {vs vf : Value} {sv : List (ASlot × Value)} (e : sv.map Prod.fst = H.slots) (h : St W0 w (heapL p H vs vf sv ++ L)) : St W0 w (heapAt p H :: L) :=
  h.unflat.head fun _ s => ⟨vs, vf, sv, e, s⟩

theorem sv_len {sv : List (ASlot × Value)} (e : sv.map Prod.fst = H.slots) : sv.length = H.slots.length := by rw [← e]; simp

/-- What a reader of the heap's own four cells wants. -/
theorem St.heap_cells (h : St W0 w (heapAt p H :: L)) : ∃ a cap f fcap, (∀ o, w.cell? ⟨p, o, none⟩ = #[Value.int .i64 H.room, .int .i64 H.most, .slice a H.slots.length cap, .slice f H.free.length fcap][o]?) ∧ H.slots.length ≤ maxLen ∧ H.free.length ≤ maxLen := by
  obtain ⟨vs, vf, sv, e, h⟩ := h.heap_open
  have hc := h.cell
  have h1 := (h.pull 1).own_cases
  have h2 := (h.pull 2).own_cases
  rw [sv_len e] at h1
  obtain ⟨a, cap, rfl, ha⟩ : ∃ a cap, vs = .slice a H.slots.length cap ∧ H.slots.length ≤ maxLen := by
    rcases h1.2 with ⟨⟨_, rfl⟩, e, _⟩ | ⟨b, cap, r, rfl, h3, h4, _⟩
    · exact ⟨_, _, by rw [e], by rw [e]; exact Nat.zero_le _⟩
    · exact ⟨_, _, rfl, Nat.le_trans h3 h4⟩
  obtain ⟨f, fcap, rfl, hf⟩ : ∃ a cap, vf = .slice a H.free.length cap ∧ H.free.length ≤ maxLen := by
    rcases h2.2 with ⟨⟨_, rfl⟩, e, _⟩ | ⟨b, cap, r, rfl, h3, h4, _⟩
    · exact ⟨_, _, by rw [e], by rw [e]; exact Nat.zero_le _⟩
    · exact ⟨_, _, rfl, Nat.le_trans h3 h4⟩
  exact ⟨a, cap, f, fcap, hc, ha, hf⟩

theorem erase_perm {α : Type} {sv : List α} {i : Nat} {x : α} (hs : sv[i]? = some x) : sv.Perm (x :: sv.eraseIdx i) := by
  induction sv generalizing i with
  | nil => simp at hs
  | cons a l ih =>
    cases i with
    | zero => simp at hs; subst hs; exact .refl _
    | succ i => exact ((ih (by simpa using hs)).cons a).trans (.swap _ _ _)

theorem St.slots_take {sv : List (ASlot × Value)} {i : Nat} {s : ASlot} {v : Value} (h : St W0 w (slotsW sv :: L)) (hs : sv[i]? = some (s, v)) : St W0 w (ownS 36 4 v s.c.ws.length (flatW s.c.ws) :: slotsW (sv.eraseIdx i) :: L) := by
  have h1 := St.flat (L := sv.map slotOwn) h
  have h2 := h1.perm (((erase_perm hs).map slotOwn).append_right L)
  simp only [List.map_cons, List.cons_append] at h2
  exact (((St.unflat (L := slotOwn (s, v) :: (sv.eraseIdx i).map slotOwn) (M := L) h2).flat).conv fun f s => starL_cons (fun _ y => y) (fun _ t => starL_unflat t) s)

theorem St.slots_join {sv tv : List (ASlot × Value)} {x : ASlot × Value} (h : St W0 w (slotOwn x :: slotsW sv :: L)) (p : tv.Perm (x :: sv)) : St W0 w (slotsW tv :: L) := by
  have h1 : St W0 w (slotOwn x :: (sv.map slotOwn ++ L)) := h.conv fun f s => starL_cons (fun _ y => y) (fun _ t => starL_flat t) s
  have h2 := h1.perm (M := tv.map slotOwn ++ L) ((p.map slotOwn).symm.append_right L)
  exact St.unflat (L := tv.map slotOwn) h2

theorem set_perm {α : Type} {sv : List α} {i : Nat} {x : α} (hi : i < sv.length) : (sv.set i x).Perm (x :: sv.eraseIdx i) := by
  have h1 : (sv.set i x)[i]? = some x := by simp [hi]
  have h2 := erase_perm h1
  rwa [List.eraseIdx_set_eq] at h2

theorem St.slots_set {sv : List (ASlot × Value)} {i : Nat} {s : ASlot} {v : Value} (h : St W0 w (ownS 36 4 v s.c.ws.length (flatW s.c.ws) :: slotsW (sv.eraseIdx i) :: L)) (hi : i < sv.length) : St W0 w (slotsW (sv.set i (s, v)) :: L) :=
  St.slots_join (x := (s, v)) h (set_perm hi)

theorem St.slots_snoc {sv : List (ASlot × Value)} {s : ASlot} {v : Value} (h : St W0 w (ownS 36 4 v s.c.ws.length (flatW s.c.ws) :: slotsW sv :: L)) : St W0 w (slotsW (sv ++ [(s, v)]) :: L) :=
  St.slots_join (x := (s, v)) h (List.perm_append_comm (l₁ := sv) (l₂ := [(s, v)]))

theorem St.slots_nil (h : St W0 w L) : St W0 w (slotsW [] :: L) :=
  h.conv fun f s => ⟨fun _ => none, f, trivial, s, fun _ => .inl rfl, (fun _ _ e => by cases e), Le.refl _⟩

theorem St.slots_rd {sv : List (ASlot × Value)} {i : Nat} {s : ASlot} {v : Value} (h : St W0 w (slotsW sv :: L)) (hs : sv[i]? = some (s, v)) : rd w 4 v s.c.ws.length (flatW s.c.ws) :=
  St.own_rd (h.slots_take hs)

theorem live_c (h : St W0 w (heapAt p H :: L)) :
    Calls Try.prog 33 #[.pointer (some ⟨p, 0, none⟩)] w fun e w' => e = .returned (.int .i64 H.live) ∧ ∃ n, w' = w.drewN n := by
  obtain ⟨a, cap, f, fcap, hc, h1, h2⟩ := h.heap_cells
  clear h
  unfold maxLen at h1 h2
  unfold AHeap.live
  go_enter Try.func33, Try.ntmps33
  go_wp2
  go_quiet (fail)
  go_wp2
  go_ret
  exact ⟨rfl, _, rfl⟩

theorem left_c {B : Int} (h : St W0 w (heapAt p H :: L)) (ok : H.Ok B) :
    Calls Try.prog 35 #[.pointer (some ⟨p, 0, none⟩)] w fun e w' => e = .returned (.int .i64 (H.room - H.live)) ∧ ∃ n, w' = w.drewN n := by
  have HL := Lib.hid (fun n => live_c (h.drewN n))
  obtain ⟨a, cap, f, fcap, hc, h1, h2⟩ := h.heap_cells
  have r0 := ok.room0
  have r1 := ok.room1
  have l0 : 0 ≤ H.live := by rw [ok.live_eq]; omega
  have l1 : H.live ≤ 100000 := by rw [ok.live_eq]; have := countLive_le H.slots; have := ok.few; omega
  clear h ok
  go_enter Try.func35, Try.ntmps35
  go_wp2
  go_quiet ((go_at_call 33; exact Calls.quiet_of (HL.out _)))
  go_wp2
  go_ret
  exact ⟨rfl, _, rfl⟩

theorem most_c (h : St W0 w (heapAt p H :: L)) :
    Calls Try.prog 36 #[.pointer (some ⟨p, 0, none⟩)] w fun e w' => e = .returned (.int .i64 H.most) ∧ w' = w := by
  obtain ⟨a, cap, f, fcap, hc, h1, h2⟩ := h.heap_cells
  clear h
  go_enter Try.func36, Try.ntmps36
  go_wp2
  go_ret
  exact ⟨rfl, rfl⟩

end
end Go.Proofs.Ytciciaikajdenaa
/- New, copied. -/
namespace Go.Proofs.Ytciciaikajdenaa
open Go.RowKit

def NewPost (room : Int) (w : World) (e : Ending) (w' : World) : Prop :=
  ∃ p, e = .returned (.tuple #[.pointer (some ⟨p, 0, none⟩), .int .i64 0]) ∧ St w w' [heapAt p (AHeap.new room)]

theorem new_ok (room : Int) (w : World) (h0 : 0 ≤ room) (h1 : room ≤ 100000) : Calls Try.prog 15 #[.int .i64 room] w (NewPost room w) := by
  go_enter Try.func15, Try.ntmps15
  go_wp2
  go_ret2
  refine ⟨_, rfl, ?_⟩
  have s := (St.refl w).allocC #[Value.int .i64 room, .int .i64 0, .slice none 0 0, .slice none 0 0] 109
  refine St.heap_close (L := []) (sv := []) (vs := .slice none 0 0) (vf := .slice none 0 0) rfl ?_
  exact ((((s.slots_nil.push 1).own_nil (T := 3) (sz := 1)).push 1).own_nil (T := 124) (sz := 5)).push 1

theorem new_bad (room : Int) (w : World) (h : room < 0 ∨ 100000 < room) : Calls Try.prog 15 #[.int .i64 room] w fun e w' => e = .returned (.tuple #[.pointer none, .int .i64 2]) ∧ w' = w := by
  rcases h with h | h
  · go_enter Try.func15, Try.ntmps15
    go_wp2
    go_ret2
    exact ⟨rfl, rfl⟩
  · have h' : ¬ room < 0 := by omega
    go_enter Try.func15, Try.ntmps15
    go_wp2
    go_ret2
    exact ⟨rfl, rfl⟩

theorem info36 : (Try.prog.info? 36).map (fun i => (i.zero, i.size, i.bytes)) = some (some (.agg #[.int .u8 0, .int .i64 0, .string ⟨#[]⟩, .int .i64 0]), 4, 40) := by kernel_rfl

def wordsOwn (v : Value) (ws : List AWord) : HProp := ownS 36 4 v ws.length (flatW ws)

def CopiedPost (c : ACell) (w : World) (e : Ending) (w' : World) : Prop := ∃ v, e = .returned (cv c v) ∧ St w w' [wordsOwn v c.ws]

theorem one_flatW (ws : List AWord) : ∀ u ∈ flatW ws, u.oneCell' = true := by
  intro u hu
  unfold flatW at hu
  obtain ⟨x, _, hx⟩ := List.mem_flatMap.1 hu
  simp [wcells] at hx
  rcases hx with rfl | rfl | rfl | rfl <;> rfl


set_option maxRecDepth 100000 in
set_option maxHeartbeats 400000 in
theorem copied_some (c : ACell) (a : Option Addr) (cap : Nat) (w : World) (hm : c.ws.length ≤ 1000000) (h : rd w 4 (.slice a c.ws.length cap) c.ws.length (flatW c.ws)) :
    Calls Try.prog 82 #[cv c (.slice a c.ws.length cap)] w fun e w' => CopiedPost c w e w' := by
  have s0 := ((St.refl w).allocC #[Value.int .u8 c.k, .int .i64 c.n, .slice a c.ws.length cap] 34).allocC #[Value.int .u8 0, .int .i64 0, .slice none 0 0] 34
  simp only [World.size_alloc] at s0
  obtain ⟨i, hi, hz0, hz1, hz2⟩ := info_parts info36
  have A := Lib.hid fun o rest ops Q x => wpList_append_st (P := Try.prog) (o := o) (rest := rest) (ops := ops) (Q := Q) (a := x) (s0.own_nil (T := 36) (sz := 4)) (h.st s0) (one_flatW _) hi hz0 hz1 hz2 rfl (by unfold maxLen; omega) (by omega) Try.underlying32
  clear s0 h hi hz0 hz1 hz2
  unfold cv
  go_enter Try.func82, Try.ntmps82
  go_wp2_with (at_builtin; refine A.out _ _ _ _ _ _ _ rfl rfl rfl rfl ?_; intro v' w1 S1 _; obtain ⟨a', cap', rfl, hcap⟩ := S1.own_form; have c1 := (S1.pull 2).cell; have f1 := (S1.pull 2).free; have c2 := (S1.pull 1).cell; have f2 := (S1.pull 1).free; simp only [Nat.zero_add, List.nil_append] at hcap S1; have S2 := Lib.hid S1; clear S1)
  have S3 := ((((((((S2.out.own_cut).pull 2).set 2 (.slice a' c.ws.length cap')).set 2 (.slice a' c.ws.length c.ws.length)).pull 2).set 0 (.int .u8 c.k)).set 1 (.int .i64 c.n)).set 2 (.slice a' c.ws.length c.ws.length))
  have c3 := S3.cell
  refine bodyPost_ret (v := cv c (.slice a' c.ws.length c.ws.length)) (by simp [results, Try.results82, go_sem, c3, cv]) rfl ⟨_, rfl, ?_⟩
  exact (S3.pull 2).fst


theorem copied_c (c : ACell) (v : Value) (w : World) (hm : c.ws.length ≤ 1000000) (h : rd w 4 v c.ws.length (flatW c.ws)) :
    Calls Try.prog 82 #[cv c v] w fun e w' => CopiedPost c w e w' := by
  rcases h.2 with ⟨⟨_, _, rfl⟩, e⟩ | ⟨b, off, cap, rfl, _⟩
  · have h' := copied_some c _ _ w hm (by rw [e] at h ⊢; exact h)
    rw [e] at h'; exact h'
  · exact copied_some c _ _ w hm h

end Go.Proofs.Ytciciaikajdenaa
