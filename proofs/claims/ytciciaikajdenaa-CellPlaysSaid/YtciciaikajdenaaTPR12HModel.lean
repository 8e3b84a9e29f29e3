/- The heap of layer 23 as plain data, and its operations. No program in sight. -/
import Derived.WalkKit
namespace Go.Proofs.Ytciciaikajdenaa

structure AWord where
  k : Int
  n : Int
  s : ByteArray
  g : Int

structure ACell where
  k : Int
  n : Int
  ws : List AWord

structure ASlot where
  c : ACell
  gen : Int
  lives : Bool

structure AHeap where
  room : Int
  most : Int
  slots : List ASlot
  free : List Nat

def AWord.zero : AWord := ⟨0, 0, ⟨#[]⟩, 0⟩
def ACell.zero : ACell := ⟨0, 0, []⟩
def cellWord (n g : Int) : AWord := ⟨5, n, ⟨#[]⟩, g⟩

/-- May a word be? -/
def AWord.ok (x : AWord) : Bool :=
  if x.k = 1 then x.s.toList.isEmpty && x.g == 0
  else if x.k = 2 then x.n == 0 && x.g == 0
  else if x.k = 3 ∨ x.k = 4 ∨ x.k = 6 then decide (0 ≤ x.n) && x.s.toList.isEmpty && x.g == 0
  else if x.k = 5 then decide (0 ≤ x.n) && x.s.toList.isEmpty && decide (0 ≤ x.g)
  else if x.k = 7 then x.n == 0 && x.s.toList.isEmpty && x.g == 0
  else false

/-- May contents be, but for their words? -/
def ACell.headOk (c : ACell) : Bool := ((c.k == 1 || c.k == 2) && decide (0 ≤ c.n)) || (c.k == 3 && c.n == 0)
/-- May contents be? -/
def ACell.ok (c : ACell) : Bool := c.headOk && decide (c.ws.length ≤ 64) && c.ws.all AWord.ok

def AHeap.live (H : AHeap) : Int := (H.slots.length : Int) - H.free.length

/-- What a word finds: an error's number, or 0 and the cell's. -/
def AHeap.find (H : AHeap) (w : AWord) : Int × Nat :=
  if w.k ≠ 5 ∨ w.ok = false then (2, 0)
  else if (H.slots.length : Int) ≤ w.n then (4, 0)
  else match H.slots[w.n.toNat]? with
    | some s => if s.lives = true ∧ s.gen = w.g then (0, w.n.toNat) else (230, 0)
    | none => (4, 0)

def AHeap.slot (H : AHeap) (i : Nat) : ASlot := H.slots.getD i ⟨.zero, 0, false⟩

def AHeap.give (H : AHeap) (c : ACell) : AWord × AHeap :=
  match H.free.getLast? with
  | some i => (cellWord i (H.slot i).gen, { H with slots := H.slots.set i ⟨c, (H.slot i).gen, true⟩, free := H.free.dropLast, most := max H.most (H.live + 1) })
  | none => (cellWord H.slots.length 0, { H with slots := H.slots ++ [⟨c, 0, true⟩], most := max H.most (H.live + 1) })

def AHeap.alloc (H : AHeap) (c : ACell) : (AWord × Int) × AHeap :=
  if c.ok = false then ((.zero, 2), H)
  else if H.room ≤ H.live then ((.zero, 7), H)
  else (((H.give c).1, 0), (H.give c).2)

def AHeap.get (H : AHeap) (w : AWord) : ACell × Int :=
  if (H.find w).1 = 0 then ((H.slot (H.find w).2).c, 0) else (.zero, (H.find w).1)

def ACell.put (c : ACell) (i : Nat) (x : AWord) : ACell := { c with ws := c.ws.set i x }

def AHeap.set (H : AHeap) (w : AWord) (i : Int) (x : AWord) : (AWord × Int) × AHeap :=
  if (H.find w).1 ≠ 0 then ((.zero, (H.find w).1), H)
  else
    let s := H.slot (H.find w).2
    if i < 0 ∨ (s.c.ws.length : Int) ≤ i then ((.zero, 5), H)
    else if x.ok = false then ((.zero, 2), H)
    else ((s.c.ws.getD i.toNat .zero, 0), { H with slots := H.slots.set (H.find w).2 { s with c := s.c.put i.toNat x } })

def AHeap.freed (H : AHeap) (i : Nat) : AHeap :=
  { H with slots := H.slots.set i ⟨.zero, (H.slot i).gen + 1, false⟩, free := H.free ++ [i] }

def AHeap.drop (H : AHeap) (w : AWord) : (ACell × Int) × AHeap :=
  if (H.find w).1 ≠ 0 then ((.zero, (H.find w).1), H)
  else (((H.slot (H.find w).2).c, 0), H.freed (H.find w).2)

/-- The words that are alive, by their cells' numbers. -/
def wordsFrom : Nat → List ASlot → List AWord
  | _, [] => []
  | i, s :: l => (if s.lives then [cellWord i s.gen] else []) ++ wordsFrom (i + 1) l
def AHeap.cells (H : AHeap) : List AWord := wordsFrom 0 H.slots

def countLive (l : List ASlot) : Nat := (l.filter (·.lives)).length

/-- What always holds; B: no generation is above. -/
structure AHeap.Ok (H : AHeap) (B : Int) : Prop where
  room0 : 0 ≤ H.room
  room1 : H.room ≤ 100000
  most0 : 0 ≤ H.most
  most1 : H.most ≤ 100000
  few : (H.slots.length : Int) ≤ H.room
  count : countLive H.slots + H.free.length = H.slots.length
  nodup : H.free.Nodup
  dead : ∀ i ∈ H.free, i < H.slots.length ∧ (H.slot i).lives = false
  words : ∀ s ∈ H.slots, s.c.ws.length ≤ 64
  gens : ∀ s ∈ H.slots, 0 ≤ s.gen ∧ s.gen ≤ B

def AHeap.new (room : Int) : AHeap := ⟨room, 0, [], []⟩

theorem AHeap.new_ok (room : Int) (h0 : 0 ≤ room) (h1 : room ≤ 100000) (B : Int) : (AHeap.new room).Ok B :=
  ⟨h0, h1, Int.le_refl _, by simp [AHeap.new], by simpa [AHeap.new] using h0, rfl, by simp [AHeap.new], by simp [AHeap.new], by simp [AHeap.new], by simp [AHeap.new]⟩

theorem AHeap.slot_get {H : AHeap} {i : Nat} (h : i < H.slots.length) : H.slots[i]? = some (H.slot i) := by
  simp [AHeap.slot, List.getD, List.getElem?_eq_getElem h]

theorem AHeap.slot_mem {H : AHeap} {i : Nat} (h : i < H.slots.length) : H.slot i ∈ H.slots := by
  have := AHeap.slot_get h
  exact List.mem_of_getElem? this

theorem AHeap.find_zero {H : AHeap} {w : AWord} (h : (H.find w).1 = 0) : w.k = 5 ∧ w.ok = true ∧ 0 ≤ w.n ∧ w.n = ((H.find w).2 : Int) ∧ (H.find w).2 < H.slots.length ∧ (H.slot (H.find w).2).lives = true ∧ (H.slot (H.find w).2).gen = w.g := by
  unfold AHeap.find at h ⊢
  split at h
  · cases h
  · rename_i h1
    rw [if_neg h1]
    simp only [not_or, ne_eq, Decidable.not_not, Bool.not_eq_false] at h1
    have hn : 0 ≤ w.n := by
      have := h1.2
      unfold AWord.ok at this
      simp [h1.1] at this
      exact this.1.1
    split at h
    · cases h
    · rename_i h2
      rw [if_neg h2]
      have hlt : w.n.toNat < H.slots.length := by omega
      rw [AHeap.slot_get hlt] at h ⊢
      simp only at h ⊢
      split at h
      · rename_i h3
        rw [if_pos h3]
        exact ⟨h1.1, h1.2, hn, by simp; omega, hlt, h3.1, h3.2⟩
      · cases h

theorem countLive_set (l : List ASlot) (i : Nat) (s : ASlot) (h : i < l.length) : countLive (l.set i s) + (if (l.getD i s).lives then 1 else 0) = countLive l + (if s.lives then 1 else 0) := by
  induction l generalizing i with
  | nil => simp at h
  | cons a l ih =>
    cases i with
    | zero =>
      simp only [List.set_cons_zero, countLive, List.filter_cons, List.getD_cons_zero]
      cases a.lives <;> cases s.lives <;> simp
    | succ i =>
      have := ih i (by simpa using h)
      simp only [List.set_cons_succ, countLive, List.filter_cons, List.getD_cons_succ] at this ⊢
      cases a.lives <;> simp at this ⊢ <;> omega

theorem countLive_le (l : List ASlot) : countLive l ≤ l.length := List.length_filter_le _ _

theorem AHeap.Ok.live_eq {H : AHeap} {B : Int} (h : H.Ok B) : H.live = countLive H.slots := by
  have := h.count
  unfold AHeap.live; omega

theorem AHeap.Ok.mono {H : AHeap} {B B' : Int} (h : H.Ok B) (hb : B ≤ B') : H.Ok B' :=
  { h with gens := fun s hs => ⟨(h.gens s hs).1, Int.le_trans (h.gens s hs).2 hb⟩ }

theorem slot_set {H K : AHeap} {i : Nat} {s : ASlot} (hk : K.slots = H.slots.set i s) (hi : i < H.slots.length) (j : Nat) : K.slot j = if i = j then s else H.slot j := by
  unfold AHeap.slot
  rw [hk]
  simp only [List.getD, List.getElem?_set]
  split
  · rename_i e; subst e; rfl
  · rfl

theorem AHeap.Ok.give {H : AHeap} {B : Int} (h : H.Ok B) (hB : 0 ≤ B) {c : ACell} (hc : c.ws.length ≤ 64) (hr : H.live < H.room) : (H.give c).2.Ok B := by
  have hcnt := h.count
  have hlive := h.live_eq
  have hle := countLive_le H.slots
  have hroom := h.room1
  have hmost := h.most0
  have hmost1 := h.most1
  unfold AHeap.give
  cases hl : H.free.getLast? with
  | some i =>
    have hmem : i ∈ H.free := List.mem_of_getLast? hl
    obtain ⟨hi, hd⟩ := h.dead i hmem
    have hne : H.free ≠ [] := by intro e; rw [e] at hmem; simp at hmem
    have hlast : H.free = H.free.dropLast ++ [i] := by
      rw [List.getLast?_eq_some_getLast hne] at hl
      cases hl
      exact (List.dropLast_concat_getLast hne).symm
    have hnd := h.nodup
    rw [hlast] at hnd
    have hnd2 := (List.nodup_append.1 hnd)
    have hcs := countLive_set H.slots i ⟨c, (H.slot i).gen, true⟩ hi
    have hgd : (H.slots.getD i ⟨c, (H.slot i).gen, true⟩).lives = false := by
      rw [← hd]; simp [AHeap.slot, List.getD, hi]
    rw [hgd] at hcs
    simp at hcs
    have hfl : H.free.length = H.free.dropLast.length + 1 := by have := congrArg List.length hlast; simpa using this
    refine ⟨h.room0, h.room1, ?_, ?_, ?_, ?_, hnd2.1, ?_, ?_, ?_⟩
    · show 0 ≤ max H.most (H.live + 1); omega
    · show max H.most (H.live + 1) ≤ 100000; omega
    · simpa using h.few
    · simp only [List.length_set]; omega
    · intro j hj
      have hjm : j ∈ H.free := (List.dropLast_subset _) hj
      obtain ⟨hj1, hj2⟩ := h.dead j hjm
      refine ⟨by simpa using hj1, ?_⟩
      have hij : i ≠ j := by
        rintro rfl
        exact hnd2.2.2 i hj i (by simp) rfl
      rw [slot_set (H := H) (i := i) rfl hi, if_neg hij]; exact hj2
    · intro s hs
      rcases List.mem_or_eq_of_mem_set hs with hs | rfl
      · exact h.words s hs
      · exact hc
    · intro s hs
      rcases List.mem_or_eq_of_mem_set hs with hs | rfl
      · exact h.gens s hs
      · exact h.gens (H.slot i) (AHeap.slot_mem hi)
  | none =>
    have he : H.free = [] := by simpa using hl
    have hfl : H.free.length = 0 := by rw [he]; rfl
    have hlv : H.live = H.slots.length := by unfold AHeap.live; omega
    refine ⟨h.room0, h.room1, ?_, ?_, ?_, ?_, h.nodup, ?_, ?_, ?_⟩
    · show 0 ≤ max H.most (H.live + 1); omega
    · show max H.most (H.live + 1) ≤ 100000; omega
    · simp; omega
    · simp only [countLive, List.filter_append, List.length_append, List.filter_cons] at hcnt ⊢
      simp; omega
    · intro j hj; rw [he] at hj; simp at hj
    · intro s hs
      rcases List.mem_append.1 hs with hs | hs
      · exact h.words s hs
      · simp at hs; subst hs; exact hc
    · intro s hs
      rcases List.mem_append.1 hs with hs | hs
      · exact h.gens s hs
      · simp at hs; subst hs; exact ⟨Int.le_refl _, hB⟩

theorem AHeap.Ok.freed {H : AHeap} {B : Int} (h : H.Ok B) {i : Nat} (hi : i < H.slots.length) (hl : (H.slot i).lives = true) : (H.freed i).Ok (B + 1) := by
  have hcs := countLive_set H.slots i ⟨.zero, (H.slot i).gen + 1, false⟩ hi
  have hgd : (H.slots.getD i ⟨.zero, (H.slot i).gen + 1, false⟩).lives = true := by
    rw [← hl]; simp [AHeap.slot, List.getD, hi]
  rw [hgd] at hcs
  simp at hcs
  have hcnt := h.count
  have hnot : i ∉ H.free := fun hm => by have := (h.dead i hm).2; rw [hl] at this; cases this
  unfold AHeap.freed
  refine ⟨h.room0, h.room1, h.most0, h.most1, by simpa using h.few, ?_, ?_, ?_, ?_, ?_⟩
  · simp only [List.length_set, List.length_append, List.length_singleton]; omega
  · refine List.nodup_append.2 ⟨h.nodup, by simp, ?_⟩
    intro a ha b hb
    simp at hb; subst hb
    rintro rfl; exact hnot ha
  · intro j hj
    rcases List.mem_append.1 hj with hj | hj
    · obtain ⟨hj1, hj2⟩ := h.dead j hj
      refine ⟨by simpa using hj1, ?_⟩
      have hij : i ≠ j := by rintro rfl; exact hnot hj
      rw [slot_set (H := H) (i := i) rfl hi, if_neg hij]; exact hj2
    · simp at hj; subst hj
      refine ⟨by simpa using hi, ?_⟩
      rw [slot_set (H := H) rfl hi, if_pos rfl]
  · intro s hs
    rcases List.mem_or_eq_of_mem_set hs with hs | rfl
    · exact h.words s hs
    · simp [ACell.zero]
  · intro s hs
    rcases List.mem_or_eq_of_mem_set hs with hs | rfl
    · have := h.gens s hs; omega
    · have := h.gens (H.slot i) (AHeap.slot_mem hi); simp; omega

theorem AHeap.Ok.put {H : AHeap} {B : Int} (h : H.Ok B) {i : Nat} (hi : i < H.slots.length) (j : Nat) (x : AWord) :
    ({ H with slots := H.slots.set i { H.slot i with c := (H.slot i).c.put j x } } : AHeap).Ok B := by
  have hcs := countLive_set H.slots i { H.slot i with c := (H.slot i).c.put j x } hi
  have hgd : (H.slots.getD i { H.slot i with c := (H.slot i).c.put j x }).lives = (H.slot i).lives := by
    simp [AHeap.slot, List.getD, hi]
  rw [hgd] at hcs
  have hcs : countLive (H.slots.set i { H.slot i with c := (H.slot i).c.put j x }) = countLive H.slots := Nat.add_right_cancel hcs
  have hcnt := h.count
  refine ⟨h.room0, h.room1, h.most0, h.most1, by simpa using h.few, ?_, h.nodup, ?_, ?_, ?_⟩
  · simp only [List.length_set, hcs]; exact hcnt
  · intro k hk
    obtain ⟨hj1, hj2⟩ := h.dead k hk
    refine ⟨by simpa using hj1, ?_⟩
    rw [slot_set (H := H) (i := i) rfl hi]
    by_cases hij : i = k
    · rw [if_pos hij, ← hj2, ← hij]
    · rw [if_neg hij]; exact hj2
  · intro s hs
    rcases List.mem_or_eq_of_mem_set hs with hs | rfl
    · exact h.words s hs
    · simpa [ACell.put] using h.words (H.slot i) (AHeap.slot_mem hi)
  · intro s hs
    rcases List.mem_or_eq_of_mem_set hs with hs | rfl
    · exact h.gens s hs
    · exact h.gens (H.slot i) (AHeap.slot_mem hi)

end Go.Proofs.Ytciciaikajdenaa
