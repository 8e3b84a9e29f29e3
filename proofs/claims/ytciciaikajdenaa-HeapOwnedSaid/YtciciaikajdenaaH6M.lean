/- HeapCounts' plain law. -/
import Derived.Test.YtciciaikajdenaaH5M
import Derived.Test.YtciciaikajdenaaW15
set_option linter.unusedSimpArgs false
set_option linter.unusedVariables false
namespace Go.Proofs.Ytciciaikajdenaa

theorem ACell.ok_len {c : ACell} (h : c.ok = true) : c.ws.length ≤ 64 := by
  unfold ACell.ok at h
  simp at h
  exact h.1.2

/-- What a call keeps: what holds, the room, and that the most is the most that was seen. -/
structure Keeps (H K : AHeap) (B : Int) : Prop where
  ok : K.Ok B
  room : K.room = H.room
  most : K.most = max H.most K.live
  le : K.live ≤ K.most

theorem keeps_refl {H : AHeap} {B : Int} (h : H.Ok B) (hl : H.live ≤ H.most) : Keeps H H B := ⟨h, rfl, by omega, hl⟩

theorem give_live {H : AHeap} {B : Int} (h : H.Ok B) (c : ACell) : (H.give c).2.live = H.live + 1 ∧ (H.give c).2.most = max H.most (H.live + 1) ∧ (H.give c).2.room = H.room := by
  unfold AHeap.give
  cases hl : H.free.getLast? with
  | some i =>
    have hne : H.free ≠ [] := by intro e; rw [e] at hl; simp at hl
    have : 0 < H.free.length := List.length_pos_iff.2 hne
    simp [AHeap.live]; omega
  | none =>
    have he : H.free = [] := by simpa using hl
    simp [AHeap.live, he]

theorem alloc_keeps {H : AHeap} {B : Int} (h : H.Ok B) (hB : 0 ≤ B) (hl : H.live ≤ H.most) (c : ACell) : Keeps H (H.alloc c).2 B := by
  unfold AHeap.alloc
  by_cases h1 : c.ok = false
  · rw [if_pos h1]; exact keeps_refl h hl
  · rw [if_neg h1]
    by_cases h2 : H.room ≤ H.live
    · rw [if_pos h2]; exact keeps_refl h hl
    · rw [if_neg h2]
      obtain ⟨g1, g2, g3⟩ := give_live h c
      refine ⟨h.give hB (ACell.ok_len (by simpa using h1)) (by omega), g3, ?_, ?_⟩
      · show (H.give c).2.most = max H.most (H.give c).2.live; omega
      · show (H.give c).2.live ≤ (H.give c).2.most; omega

theorem set_keeps {H : AHeap} {B : Int} (h : H.Ok B) (hl : H.live ≤ H.most) (w : AWord) (i : Int) (x : AWord) : Keeps H (H.set w i x).2 B := by
  unfold AHeap.set
  split
  · exact keeps_refl h hl
  · rename_i h1
    have hz := AHeap.find_zero (Decidable.not_not.1 h1)
    simp only
    split
    · exact keeps_refl h hl
    · split
      · exact keeps_refl h hl
      · have hlv : ({ H with slots := H.slots.set (H.find w).2 { H.slot (H.find w).2 with c := (H.slot (H.find w).2).c.put i.toNat x } } : AHeap).live = H.live := by simp [AHeap.live]
        refine ⟨h.put hz.2.2.2.2.1 _ _, rfl, ?_, ?_⟩
        · show H.most = _
          simp only [hlv]; omega
        · simp only [hlv]; exact hl

theorem freed_live {H : AHeap} (i : Nat) : (H.freed i).live = H.live - 1 := by simp [AHeap.freed, AHeap.live]; omega

theorem drop_keeps {H : AHeap} {B : Int} (h : H.Ok B) (hl : H.live ≤ H.most) (w : AWord) : Keeps H (H.drop w).2 (B + 1) := by
  unfold AHeap.drop
  split
  · exact keeps_refl (h.mono (by omega)) hl
  · rename_i h1
    have hz := AHeap.find_zero (Decidable.not_not.1 h1)
    have e := freed_live (H := H) (H.find w).2
    refine ⟨h.freed hz.2.2.2.2.1 hz.2.2.2.2.2.1, rfl, ?_, ?_⟩
    · show H.most = max H.most (H.freed (H.find w).2).live; omega
    · show (H.freed (H.find w).2).live ≤ H.most; omega

theorem renew_keeps {H : AHeap} {B : Int} (h : H.Ok B) (hl : H.live ≤ H.most) (w : AWord) (c : ACell) : Keeps H (H.renew w c).2 (B + 1) := by
  unfold AHeap.renew
  split
  · exact keeps_refl (h.mono (by omega)) hl
  · rename_i h1
    have hz := AHeap.find_zero (Decidable.not_not.1 h1)
    split
    · exact keeps_refl (h.mono (by omega)) hl
    · rename_i h2
      have e : (H.renewed (H.find w).2 c).live = H.live := by simp [AHeap.renewed, AHeap.live]
      refine ⟨h.renewed hz.2.2.2.2.1 hz.2.2.2.2.2.1 (ACell.ok_len (by simpa using h2)), rfl, ?_, ?_⟩
      · show H.most = max H.most (H.renewed (H.find w).2 c).live; omega
      · show (H.renewed (H.find w).2 c).live ≤ H.most; omega

/-! The words that are alive. -/
theorem wordsFrom_count (l : List ASlot) : ∀ i, (wordsFrom i l).length = countLive l := by
  induction l with
  | nil => intro i; rfl
  | cons a l ih =>
    intro i
    have := ih (i + 1)
    cases h : a.lives <;> simp [wordsFrom, countLive, h] at this ⊢ <;> omega

theorem cells_len {H : AHeap} {B : Int} (h : H.Ok B) : (H.cells.length : Int) = H.live := by
  rw [h.live_eq]; unfold AHeap.cells; rw [wordsFrom_count]

theorem wordsFrom_mem (l : List ASlot) : ∀ i x, x ∈ wordsFrom i l → ∃ m s, l[m]? = some s ∧ s.lives = true ∧ x = cellWord ((i + m : Nat) : Int) s.gen := by
  induction l with
  | nil => intro i x h; simp [wordsFrom] at h
  | cons a l ih =>
    intro i x h
    simp only [wordsFrom, List.mem_append] at h
    rcases h with h | h
    · by_cases ha : a.lives = true
      · simp [ha] at h
        exact ⟨0, a, rfl, ha, by simpa using h⟩
      · simp [ha] at h
    · obtain ⟨m, s, h1, h2, h3⟩ := ih _ _ h
      exact ⟨m + 1, s, by simpa using h1, h2, by rw [h3]; congr 1; omega⟩

theorem wordsFrom_sorted (l : List ASlot) : ∀ i, (wordsFrom i l).Pairwise (fun a b => a.n < b.n) := by
  induction l with
  | nil => intro i; simp [wordsFrom]
  | cons a l ih =>
    intro i
    simp only [wordsFrom]
    refine List.pairwise_append.2 ⟨by split <;> simp, ih _, ?_⟩
    intro x hx y hy
    split at hx
    · simp at hx
      obtain ⟨m, s, _, _, rfl⟩ := wordsFrom_mem l _ _ hy
      subst hx
      simp [cellWord]; omega
    · simp at hx

/-- While the copy's cells are freed, k of them. -/
structure Emptied (H C : AHeap) (B : Int) (k : Nat) : Prop where
  ok : C.Ok (B + k)
  len : C.slots.length = H.slots.length
  live : C.live = H.live - k
  left : ∀ j, k ≤ j → ∀ x, H.cells[j]? = some x → C.slot x.n.toNat = H.slot x.n.toNat

theorem cells_get {H : AHeap} {B : Int} (h : H.Ok B) {x : AWord} (hx : x ∈ H.cells) : H.find x = (0, x.n.toNat) ∧ x.n.toNat < H.slots.length ∧ (H.slot x.n.toNat).lives = true ∧ x = cellWord (x.n.toNat : Nat) (H.slot x.n.toNat).gen := by
  obtain ⟨m, s, h1, h2, rfl⟩ := wordsFrom_mem _ _ _ hx
  have hm := (List.getElem?_eq_some_iff.1 h1).1
  have hs : H.slot m = s := by
    have := AHeap.slot_get hm
    rw [h1] at this; injection this with this; exact this.symm
  have hg := (h.gens s (List.mem_of_getElem? h1)).1
  rw [Nat.zero_add]
  have e : (cellWord (m : Int) s.gen).n.toNat = m := by simp [cellWord]
  rw [e, hs]
  refine ⟨?_, hm, h2, rfl⟩
  rw [find_cell hg hm, hs, if_pos ⟨h2, rfl⟩]

theorem emptied_zero {H : AHeap} {B : Int} (h : H.Ok B) : Emptied H H B 0 := ⟨by simpa using h, rfl, by simp, fun _ _ _ _ => rfl⟩

/-- The next cell is there, in both alike; and it is freed. -/
theorem emptied_step {H C : AHeap} {B : Int} {k : Nat} (h : H.Ok B) (e : Emptied H C B k) {x : AWord} (hx : H.cells[k]? = some x) :
    H.get x = ((H.slot x.n.toNat).c, 0) ∧ (C.drop x).1 = ((H.slot x.n.toNat).c, 0) ∧ Emptied H (C.drop x).2 B (k + 1) := by
  obtain ⟨h1, h2, h3, h4⟩ := cells_get h (List.mem_of_getElem? hx)
  have hs := e.left k (Nat.le_refl _) x hx
  have hlt : x.n.toNat < C.slots.length := by rw [e.len]; exact h2
  have hg := (h.gens _ (AHeap.slot_mem h2)).1
  have hf : C.find x = (0, x.n.toNat) := by
    rw [h4]
    have e : (cellWord ((x.n.toNat : Nat) : Int) (H.slot x.n.toNat).gen).n.toNat = x.n.toNat := by simp [cellWord]; omega
    rw [find_cell hg hlt, hs, if_pos ⟨h3, rfl⟩, e]
  have hd : C.drop x = (((H.slot x.n.toNat).c, 0), C.freed x.n.toNat) := by
    unfold AHeap.drop
    rw [hf]
    simp [hs]
  rw [hd]
  refine ⟨by unfold AHeap.get; rw [h1]; rfl, rfl, ?_⟩
  have hfr := e.ok.freed hlt (by rw [hs]; exact h3)
  refine ⟨?_, ?_, ?_, ?_⟩
  · have : B + (k + 1 : Nat) = B + k + 1 := by omega
    rw [this]; exact hfr
  · show (C.slots.set _ _).length = _
    rw [List.length_set]; exact e.len
  · rw [freed_live, e.live]; omega
  · intro j hj y hy
    have hlt2 : x.n < y.n := by
      have hp := wordsFrom_sorted H.slots 0
      obtain ⟨hk', ek⟩ := List.getElem?_eq_some_iff.1 hx
      obtain ⟨hj', ej⟩ := List.getElem?_eq_some_iff.1 hy
      have := List.pairwise_iff_getElem.1 hp k j hk' hj' (by omega)
      unfold AHeap.cells at ek ej
      rwa [ek, ej] at this
    have hx0 : 0 ≤ x.n := by rw [h4]; simp [cellWord]; omega
    rw [slot_set (H := C) (K := C.freed x.n.toNat) (i := x.n.toNat) rfl hlt, if_neg (by omega)]
    exact e.left j (by omega) y hy

end Go.Proofs.Ytciciaikajdenaa
