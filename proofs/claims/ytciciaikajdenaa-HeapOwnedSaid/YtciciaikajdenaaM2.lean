/- HeapOwned's plain law: what is in the table of what was put, against the heap. -/
import Derived.Test.YtciciaikajdenaaH6M
import Derived.Test.YtciciaikajdenaaMaps
import Derived.Test.YtciciaikajdenaaR8M
set_option linter.unusedSimpArgs false
set_option linter.unusedVariables false
namespace Go.Proofs.Ytciciaikajdenaa
open Classical

section
variable {K α β : Type}

theorem getA_map (f : α → β) (x : K) : ∀ l : List (K × α), getA x (l.map fun p => (p.1, f p.2)) = (getA x l).map f
  | [] => rfl
  | p :: l => by
    by_cases h : x = p.1
    · simp [getA, h]
    · simp [getA, h, getA_map f x l]
theorem delA_map (f : α → β) (x : K) : ∀ l : List (K × α), delA x (l.map fun p => (p.1, f p.2)) = (delA x l).map fun p => (p.1, f p.2)
  | [] => rfl
  | p :: l => by
    by_cases h : x = p.1
    · simp [delA, h]
    · simp [delA, h, delA_map f x l]
theorem putA_map (f : α → β) (x : K) (v : α) : ∀ l : List (K × α), putA x (f v) (l.map fun p => (p.1, f p.2)) = (putA x v l).map fun p => (p.1, f p.2)
  | [] => rfl
  | p :: l => by
    by_cases h : x = p.1
    · simp [putA, h]
    · simp [putA, h, putA_map f x v l]

theorem getA_none {x : K} : ∀ {l : List (K × α)}, getA x l = none ↔ ∀ p ∈ l, p.1 ≠ x
  | [] => by simp [getA]
  | p :: l => by
    by_cases h : x = p.1
    · simp only [getA, h, if_true, List.mem_cons, forall_eq_or_imp]
      simp
    · simp only [getA, h, if_false, List.mem_cons, forall_eq_or_imp]
      rw [getA_none]
      exact ⟨fun q => ⟨fun e => h e.symm, q⟩, fun q => q.2⟩

theorem getA_append {x : K} {l m : List (K × α)} : getA x (l ++ m) = (getA x l).or (getA x m) := by
  induction l with
  | nil => simp [getA]
  | cons p l ih =>
    by_cases h : x = p.1
    · simp [getA, h]
    · simp [getA, h, ih]

theorem getA_delA {x y : K} {l : List (K × α)} (hn : (l.map Prod.fst).Nodup) : getA y (delA x l) = if x = y then none else getA y l := by
  induction l with
  | nil => simp [getA, delA]
  | cons p l ih =>
    simp only [List.map_cons, List.nodup_cons] at hn
    by_cases h : x = p.1
    · subst h
      simp only [delA, if_true]
      by_cases hy : p.1 = y
      · subst hy
        rw [if_pos rfl, getA_none]
        intro q hq e
        exact hn.1 (e ▸ List.mem_map_of_mem hq)
      · rw [if_neg hy]
        simp [getA, Ne.symm hy]
    · simp only [delA, h, if_false]
      by_cases hy : y = p.1
      · subst hy
        simp [getA, h]
      · simp only [getA, hy, if_false]
        exact ih hn.2

theorem delA_sub {x : K} : ∀ {l : List (K × α)}, (delA x l).Sublist l
  | [] => List.Sublist.refl _
  | p :: l => by
    by_cases h : x = p.1
    · simp only [delA, h, if_true]; exact List.sublist_cons_self _ _
    · simp only [delA, h, if_false]; exact List.Sublist.cons_cons _ delA_sub

theorem delA_len {x : K} {l : List (K × α)} {v : α} (h : getA x l = some v) : (delA x l).length + 1 = l.length := by
  rcases lookA_spec x l 0 with ⟨_, h2, _⟩ | ⟨j, p, _, h4, _, _, h3, _⟩
  · rw [h2] at h; cases h
  · rw [h3]
    have := (List.getElem?_eq_some_iff.1 h4).1
    rw [List.length_eraseIdx_of_lt this]
    omega

theorem putA_none {x : K} {v : α} {l : List (K × α)} (h : getA x l = none) : putA x v l = l ++ [(x, v)] := by
  rcases lookA_spec x l 0 with ⟨_, _, _, h4⟩ | ⟨j, p, _, _, _, h2, _, _⟩
  · exact h4 v
  · rw [h2] at h; cases h
end

/-- A word that was alive, and is not any more. -/
def Dead (H : AHeap) (x : AWord) : Prop := ∃ (i : Nat) (γ : Int), x = cellWord i γ ∧ i < H.slots.length ∧ γ < (H.slot i).gen

/-- What a word finds. -/
noncomputable def AHeap.val (H : AHeap) (x : AWord) : Option ACell := if (H.find x).1 = 0 then some (H.slot (H.find x).2).c else none

structure Owned (H : AHeap) (E : List (AWord × ACell)) (G : List AWord) : Prop where
  has : ∀ x, getA x E = H.val x
  nodup : (E.map Prod.fst).Nodup
  len : (E.length : Int) = H.live
  gone : ∀ x ∈ G, Dead H x

theorem owned_new (room : Int) : Owned (AHeap.new room) [] [] where
  has x := by
    have : ((AHeap.new room).find x).1 ≠ 0 := fun h => by
      have := (AHeap.find_zero h).2.2.2.2.1
      simp [AHeap.new] at this
    unfold AHeap.val
    rw [if_neg this]; rfl
  nodup := by simp
  len := by simp [AHeap.new, AHeap.live]
  gone := by simp

/-- A word that is alive is its cell's. -/
theorem find_word {H : AHeap} (h : ∀ s ∈ H.slots, 0 ≤ s.gen) {x : AWord} {i : Nat} : H.find x = (0, i) ↔ i < H.slots.length ∧ (H.slot i).lives = true ∧ x = cellWord i (H.slot i).gen := by
  constructor
  · intro e
    have hz := AHeap.find_zero (H := H) (w := x) (by rw [e])
    rw [e] at hz
    obtain ⟨h1, h2, h3, h4, h5, h6, h7⟩ := hz
    refine ⟨h5, h6, ?_⟩
    simp only at h4 h5 h6 h7
    have hs : x.s = ⟨#[]⟩ := by
      unfold AWord.ok at h2
      simp [h1] at h2
      exact (toList_nil_iff_emptyBytes _).1 h2.1.2
    obtain ⟨k, n, s, g⟩ := x
    simp only at h1 h4 h7 hs
    subst h1 h4 hs
    simp [cellWord, h7]
  · rintro ⟨h1, h2, rfl⟩
    rw [find_cell (h _ (AHeap.slot_mem h1)) h1, if_pos ⟨h2, rfl⟩]

theorem find_fst {H : AHeap} (x : AWord) (h : (H.find x).1 = 0) : H.find x = (0, (H.find x).2) := Prod.ext h rfl

theorem cellWord_inj {i j : Nat} {a b : Int} (h : cellWord i a = cellWord j b) : i = j ∧ a = b := by
  simp only [cellWord, AWord.mk.injEq, true_and] at h
  omega

theorem val_some {H : AHeap} {x : AWord} {i : Nat} (e : H.find x = (0, i)) : H.val x = some (H.slot i).c := by
  unfold AHeap.val; rw [e]; rfl

theorem val_none {H : AHeap} {x : AWord} (e : (H.find x).1 ≠ 0) : H.val x = none := by
  unfold AHeap.val; rw [if_neg e]

theorem val_word {H : AHeap} (h : ∀ s ∈ H.slots, 0 ≤ s.gen) (i : Nat) (γ : Int) : H.val (cellWord i γ) = if i < H.slots.length ∧ (H.slot i).lives = true ∧ γ = (H.slot i).gen then some (H.slot i).c else none := by
  by_cases hc : i < H.slots.length ∧ (H.slot i).lives = true ∧ γ = (H.slot i).gen
  · rw [if_pos hc]
    exact val_some ((find_word h).2 ⟨hc.1, hc.2.1, by rw [hc.2.2]⟩)
  · rw [if_neg hc]
    refine val_none fun q => hc ?_
    obtain ⟨h1, h2, h3⟩ := (find_word h).1 (find_fst _ q)
    obtain ⟨h4, h5⟩ := cellWord_inj h3
    rw [← h4] at h1 h2 h5
    exact ⟨h1, h2, h5⟩

/-- The slots' change at one place. -/
theorem val_changed {H K : AHeap} (hH : ∀ s ∈ H.slots, 0 ≤ s.gen) (hK : ∀ s ∈ K.slots, 0 ≤ s.gen) {i : Nat} {s : ASlot} (hs : K.slots = H.slots.set i s) (hi : i < H.slots.length) (x : AWord) :
    K.val x = if x = cellWord i s.gen ∧ s.lives = true then some s.c else if (∃ γ, x = cellWord i γ) then none else H.val x := by
  have hlen : K.slots.length = H.slots.length := by rw [hs, List.length_set]
  by_cases hx : ∃ γ, x = cellWord i γ
  · obtain ⟨γ, rfl⟩ := hx
    rw [val_word hK, hlen, slot_set hs hi, if_pos rfl]
    by_cases hc : s.lives = true ∧ γ = s.gen
    · rw [if_pos ⟨hi, hc⟩, if_pos ⟨by rw [hc.2], hc.1⟩]
    · rw [if_neg (fun q => hc q.2), if_neg (fun q => hc ⟨q.2, (cellWord_inj q.1).2⟩), if_pos ⟨γ, rfl⟩]
  · rw [if_neg (fun q => hx ⟨_, q.1⟩), if_neg hx]
    have key : ∀ j, K.find x = (0, j) ↔ H.find x = (0, j) := by
      intro j
      rw [find_word hK, find_word hH, hlen]
      by_cases hj : i = j
      · subst hj
        exact ⟨fun q => absurd ⟨_, q.2.2⟩ hx, fun q => absurd ⟨_, q.2.2⟩ hx⟩
      · rw [slot_set hs hi, if_neg hj]
    by_cases h1 : (H.find x).1 = 0
    · have e1 := find_fst x h1
      have hij : i ≠ (H.find x).2 := by
        intro q
        have := ((find_word hH).1 e1).2.2
        rw [← q] at this
        exact hx ⟨_, this⟩
      rw [val_some ((key _).2 e1), val_some e1, slot_set hs hi, if_neg hij]
    · rw [val_none h1, val_none fun q => h1 (by rw [(key _).1 (find_fst x q)])]

theorem dead_changed {H K : AHeap} {i : Nat} {s : ASlot} (hs : K.slots = H.slots.set i s) (hi : i < H.slots.length) (hg : (H.slot i).gen ≤ s.gen) {x : AWord} (hx : Dead H x) : Dead K x := by
  obtain ⟨j, γ, rfl, hj, hγ⟩ := hx
  refine ⟨j, γ, rfl, by rw [hs, List.length_set]; exact hj, ?_⟩
  rw [slot_set hs hi]
  split
  · rename_i e; subst e; omega
  · exact hγ

/-! The calls. -/
theorem val_pre {H : AHeap} {B : Int} (h : H.Ok B) : (∀ s ∈ H.pre.slots, 0 ≤ s.gen) ∧ (∀ x, H.pre.val x = H.val x) ∧ (H.pre.slot H.next).lives = false ∧ ∀ x, Dead H x → Dead H.pre x := by
  have hg : ∀ s ∈ H.slots, 0 ≤ s.gen := fun s hs => (h.gens s hs).1
  unfold AHeap.pre AHeap.next
  cases hl : H.free.getLast? with
  | some i =>
    refine ⟨hg, fun x => rfl, ?_, fun x hx => hx⟩
    exact (h.dead i (List.mem_of_getLast? hl)).2
  | none =>
    simp only [Option.getD_none]
    have hK : ∀ s ∈ (H.slots ++ [(⟨.zero, 0, false⟩ : ASlot)]), 0 ≤ s.gen := by
      intro s hs
      rcases List.mem_append.1 hs with hs | hs
      · exact hg s hs
      · simp at hs; subst hs; exact Int.le_refl _
    have hslot : ∀ j, j < H.slots.length → ({ H with slots := H.slots ++ [⟨.zero, 0, false⟩] } : AHeap).slot j = H.slot j := by
      intro j hj
      simp [AHeap.slot, List.getD, List.getElem?_append, hj]
    have hlast : ({ H with slots := H.slots ++ [⟨.zero, 0, false⟩] } : AHeap).slot H.slots.length = ⟨.zero, 0, false⟩ := by simp [AHeap.slot, List.getD]
    refine ⟨hK, fun x => ?_, by rw [hlast], ?_⟩
    · have key : ∀ j, ({ H with slots := H.slots ++ [⟨.zero, 0, false⟩] } : AHeap).find x = (0, j) ↔ H.find x = (0, j) := by
        intro j
        rw [find_word hK, find_word hg]
        simp only [List.length_append, List.length_singleton]
        by_cases hj : j < H.slots.length
        · rw [hslot j hj]
          exact ⟨fun q => ⟨hj, q.2⟩, fun q => ⟨by omega, q.2⟩⟩
        · constructor
          · rintro ⟨h1, h2, _⟩
            have : j = H.slots.length := by omega
            subst this
            rw [hlast] at h2; cases h2
          · rintro ⟨h1, _⟩; omega
      by_cases h1 : (H.find x).1 = 0
      · have e1 := find_fst x h1
        rw [val_some ((key _).2 e1), val_some e1, hslot _ ((find_word hg).1 e1).1]
      · rw [val_none h1, val_none fun q => h1 (by rw [(key _).1 (find_fst x q)])]
    · rintro x ⟨j, γ, rfl, hj, hγ⟩
      refine ⟨j, γ, rfl, by simp; omega, ?_⟩
      rw [hslot j hj]; exact hγ

theorem owned_alloc {H : AHeap} {B : Int} (h : H.Ok B) (hB : 0 ≤ B) {E : List (AWord × ACell)} {G : List AWord} (o : Owned H E G) {c : ACell} (hc : c.ok = true) (hr : H.live < H.room) :
    getA (H.give c).1 E = none ∧ (∀ g ∈ G, g ≠ (H.give c).1) ∧ Owned (H.give c).2 (E ++ [((H.give c).1, c)]) G := by
  have hok := h.give hB (ACell.ok_len hc) hr
  obtain ⟨hl, _, _⟩ := give_live h c
  rw [AHeap.give_mid h] at hok hl ⊢
  simp only at hok hl ⊢
  obtain ⟨p1, p2, p3, p4⟩ := val_pre h
  have hn := AHeap.next_lt h
  have hnone : getA (cellWord H.next (H.pre.slot H.next).gen) E = none := by
    rw [o.has, ← p2, val_word p1, if_neg (by rw [p3]; simp)]
  have hK : ∀ s ∈ ({ H.mid c with most := max H.most (H.live + 1) } : AHeap).slots, 0 ≤ s.gen := fun s hs => (hok.gens s hs).1
  have hne : ∀ g ∈ G, g ≠ cellWord H.next (H.pre.slot H.next).gen := by
    intro g hg e
    obtain ⟨j, γ, e2, hj, hγ⟩ := p4 _ (o.gone g hg)
    rw [e] at e2
    obtain ⟨h1, h2⟩ := cellWord_inj e2
    rw [h1] at h2
    omega
  refine ⟨hnone, hne, ?_, ?_, ?_, ?_⟩
  · intro x
    rw [val_changed (H := H.pre) p1 hK (i := H.next) (s := ⟨c, (H.pre.slot H.next).gen, true⟩) rfl hn, getA_append, o.has, ← p2]
    by_cases hx : x = cellWord H.next (H.pre.slot H.next).gen
    · subst hx
      rw [p2, ← o.has, hnone]
      simp [getA]
    · rw [if_neg (fun q => hx q.1)]
      have e1 : getA x [(cellWord H.next (H.pre.slot H.next).gen, c)] = none := by simp [getA, hx]
      rw [e1, Option.or_none]
      by_cases hγ : ∃ γ, x = cellWord H.next γ
      · rw [if_pos hγ]
        obtain ⟨γ, rfl⟩ := hγ
        rw [val_word p1, if_neg (by rw [p3]; simp)]
      · rw [if_neg hγ]
  · rw [List.map_append, List.nodup_append]
    refine ⟨o.nodup, by simp, ?_⟩
    intro a ha b hb
    simp at hb
    subst hb
    obtain ⟨q, hq, rfl⟩ := List.mem_map.1 ha
    exact getA_none.1 hnone q hq
  · have := o.len
    rw [List.length_append, List.length_singleton]
    omega
  · intro g hg
    exact dead_changed (H := H.pre) (i := H.next) (s := ⟨c, (H.pre.slot H.next).gen, true⟩) rfl hn (Int.le_refl _) (p4 _ (o.gone g hg))

theorem owned_drop {H : AHeap} {B : Int} (h : H.Ok B) {E : List (AWord × ACell)} {G : List AWord} (o : Owned H E G) {y : AWord} {i : Nat} (hf : H.find y = (0, i)) : Owned (H.freed i) (delA y E) (y :: G) := by
  have hg : ∀ s ∈ H.slots, 0 ≤ s.gen := fun s hs => (h.gens s hs).1
  obtain ⟨hi, hl, hy⟩ := (find_word hg).1 hf
  have hok := h.freed hi hl
  have hK : ∀ s ∈ (H.freed i).slots, 0 ≤ s.gen := fun s hs => (hok.gens s hs).1
  have hsome : getA y E = some (H.slot i).c := by rw [o.has, val_some hf]
  refine ⟨?_, ?_, ?_, ?_⟩
  · intro x
    rw [val_changed hg hK (i := i) (s := ⟨.zero, (H.slot i).gen + 1, false⟩) rfl hi, if_neg (fun q => Bool.noConfusion q.2), getA_delA o.nodup]
    by_cases hx : y = x
    · subst hx
      rw [if_pos rfl, if_pos ⟨_, hy⟩]
    · rw [if_neg hx, o.has]
      by_cases hγ : ∃ γ, x = cellWord i γ
      · rw [if_pos hγ]
        obtain ⟨γ, rfl⟩ := hγ
        rw [val_word hg, if_neg]
        rintro ⟨_, _, q⟩
        exact hx (by rw [hy, q])
      · rw [if_neg hγ]
  · exact (delA_sub.map _).nodup o.nodup
  · have h1 := delA_len hsome
    have h2 := o.len
    rw [freed_live]
    omega
  · intro g hgm
    rcases List.mem_cons.1 hgm with rfl | hgm
    · refine ⟨i, (H.slot i).gen, hy, by simp [AHeap.freed]; exact hi, ?_⟩
      rw [slot_set (H := H) (K := H.freed i) (i := i) rfl hi, if_pos rfl]
      show _ < (H.slot i).gen + 1
      omega
    · exact dead_changed (i := i) (s := ⟨.zero, (H.slot i).gen + 1, false⟩) rfl hi (by show (H.slot i).gen ≤ (H.slot i).gen + 1; omega) (o.gone g hgm)

theorem owned_renew {H : AHeap} {B : Int} (h : H.Ok B) {E : List (AWord × ACell)} {G : List AWord} (o : Owned H E G) {y : AWord} {i : Nat} (hf : H.find y = (0, i)) {c : ACell} (hc : c.ok = true) :
    getA (cellWord y.n (y.g + 1)) (delA y E) = none ∧ (∀ g ∈ y :: G, g ≠ cellWord y.n (y.g + 1)) ∧ Owned (H.renewed i c) (delA y E ++ [(cellWord y.n (y.g + 1), c)]) (y :: G) := by
  have hg : ∀ s ∈ H.slots, 0 ≤ s.gen := fun s hs => (h.gens s hs).1
  obtain ⟨hi, hl, hy⟩ := (find_word hg).1 hf
  have hok := h.renewed hi hl (ACell.ok_len hc)
  have hK : ∀ s ∈ (H.renewed i c).slots, 0 ≤ s.gen := fun s hs => (hok.gens s hs).1
  have hsome : getA y E = some (H.slot i).c := by rw [o.has, val_some hf]
  have hyn : cellWord y.n (y.g + 1) = cellWord i ((H.slot i).gen + 1) := by rw [hy]; rfl
  rw [hyn]
  have hnone : getA (cellWord i ((H.slot i).gen + 1)) (delA y E) = none := by
    rw [getA_delA o.nodup]
    split
    · rfl
    · rw [o.has, val_word hg, if_neg]
      rintro ⟨_, _, q⟩; omega
  refine ⟨hnone, ?_, ?_, ?_, ?_, ?_⟩
  · intro g hgm e
    rcases List.mem_cons.1 hgm with rfl | hgm
    · rw [hy] at e
      have := (cellWord_inj e).2
      omega
    · obtain ⟨j, γ, e2, hj, hγ⟩ := o.gone g hgm
      rw [e] at e2
      obtain ⟨h1, h2⟩ := cellWord_inj e2
      rw [h1] at h2
      omega
  · intro x
    rw [val_changed hg hK (i := i) (s := ⟨c, (H.slot i).gen + 1, true⟩) rfl hi, getA_append]
    by_cases hx : x = cellWord i ((H.slot i).gen + 1)
    · subst hx
      rw [hnone]
      simp [getA]
    · rw [if_neg (fun q => hx q.1)]
      have e1 : getA x [(cellWord i ((H.slot i).gen + 1), c)] = none := by simp [getA, hx]
      rw [e1, Option.or_none, getA_delA o.nodup]
      by_cases hyx : y = x
      · subst hyx
        rw [if_pos rfl, if_pos ⟨_, hy⟩]
      · rw [if_neg hyx, o.has]
        by_cases hγ : ∃ γ, x = cellWord i γ
        · rw [if_pos hγ]
          obtain ⟨γ, rfl⟩ := hγ
          rw [val_word hg, if_neg]
          rintro ⟨_, _, q⟩
          exact hyx (by rw [hy, q])
        · rw [if_neg hγ]
  · rw [List.map_append, List.nodup_append]
    refine ⟨(delA_sub.map _).nodup o.nodup, by simp, ?_⟩
    intro a ha b hb
    simp at hb
    subst hb
    obtain ⟨q, hq, rfl⟩ := List.mem_map.1 ha
    exact getA_none.1 hnone q hq
  · have h1 := delA_len hsome
    have h2 := o.len
    rw [List.length_append, List.length_singleton]
    have h3 : (H.renewed i c).live = H.live := by simp [AHeap.renewed, AHeap.live]
    rw [h3]
    omega
  · intro g hgm
    rcases List.mem_cons.1 hgm with rfl | hgm
    · refine ⟨i, (H.slot i).gen, hy, by simp [AHeap.renewed]; exact hi, ?_⟩
      rw [slot_set (H := H) (K := H.renewed i c) (i := i) rfl hi, if_pos rfl]
      show _ < (H.slot i).gen + 1
      omega
    · exact dead_changed (i := i) (s := ⟨c, (H.slot i).gen + 1, true⟩) rfl hi (by show (H.slot i).gen ≤ (H.slot i).gen + 1; omega) (o.gone g hgm)

theorem getA_putA {K α : Type} {x y : K} {v : α} : ∀ {l : List (K × α)}, getA y (putA x v l) = if x = y then some v else getA y l
  | [] => by
    by_cases h : x = y
    · simp [putA, getA, h]
    · simp [putA, getA, h, Ne.symm h]
  | p :: l => by
    by_cases h : x = p.1
    · subst h
      by_cases hy : p.1 = y
      · subst hy; simp [putA, getA]
      · simp [putA, getA, hy, Ne.symm hy]
    · simp only [putA, h, if_false]
      by_cases hy : y = p.1
      · subst hy
        simp [getA, h]
      · simp only [getA, hy, if_false]
        exact getA_putA

theorem putA_keys {K α : Type} {x : K} {v u : α} {l : List (K × α)} (h : getA x l = some u) : (putA x v l).map Prod.fst = l.map Prod.fst := by
  rcases lookA_spec x l 0 with ⟨_, h2, _⟩ | ⟨j, p, _, h4, h5, _, _, h6⟩
  · rw [h2] at h; cases h
  · rw [h6, List.map_set]
    apply List.ext_getElem?
    intro i
    rw [List.getElem?_set]
    split
    · rename_i e
      subst e
      obtain ⟨hlt, he⟩ := List.getElem?_eq_some_iff.1 h4
      simp [hlt, he, h5]
    · rfl

theorem owned_set {H : AHeap} {B : Int} (h : H.Ok B) {E : List (AWord × ACell)} {G : List AWord} (o : Owned H E G) {y : AWord} {j : Nat} (hf : H.find y = (0, j)) (c : ACell) (hc : c.ws.length = (H.slot j).c.ws.length) :
    Owned { H with slots := H.slots.set j { H.slot j with c := c } } (putA y c E) G := by
  have hg : ∀ s ∈ H.slots, 0 ≤ s.gen := fun s hs => (h.gens s hs).1
  obtain ⟨hi, hl, hy⟩ := (find_word hg).1 hf
  have hsome : getA y E = some (H.slot j).c := by rw [o.has, val_some hf]
  have hK : ∀ s ∈ ({ H with slots := H.slots.set j { H.slot j with c := c } } : AHeap).slots, 0 ≤ s.gen := by
    intro s hs
    rcases List.mem_or_eq_of_mem_set hs with hs | rfl
    · exact hg s hs
    · exact (show 0 ≤ (H.slot j).gen from hg _ (AHeap.slot_mem hi))
  have hkeys := putA_keys (v := c) hsome
  refine ⟨?_, by rw [hkeys]; exact o.nodup, ?_, ?_⟩
  · intro x
    rw [val_changed hg hK (i := j) (s := { H.slot j with c := c }) rfl hi, getA_putA]
    by_cases hx : y = x
    · subst hx
      rw [if_pos rfl, if_pos ⟨hy, hl⟩]
    · rw [if_neg hx, if_neg (fun q => hx (by rw [hy]; exact q.1.symm)), o.has]
      by_cases hγ : ∃ γ, x = cellWord j γ
      · rw [if_pos hγ]
        obtain ⟨γ, rfl⟩ := hγ
        rw [val_word hg, if_neg]
        rintro ⟨_, _, q⟩
        exact hx (by rw [hy, q])
      · rw [if_neg hγ]
  · have := congrArg List.length hkeys
    simp only [List.length_map] at this
    rw [this, o.len]
    simp [AHeap.live]
  · intro g hgm
    exact dead_changed (i := j) (s := { H.slot j with c := c }) rfl hi (Int.le_refl _) (o.gone g hgm)

end Go.Proofs.Ytciciaikajdenaa
