/- HeapOrder's plain law: what the heap is, step by step. -/
import Derived.Test.YtciciaikajdenaaK1
set_option linter.unusedSimpArgs false
namespace Go.Proofs.Ytciciaikajdenaa

def sA : ASlot := ⟨kArr, 0, true⟩
def sD : ASlot := ⟨.zero, 1, false⟩
def sR : ASlot := ⟨kArr, 1, true⟩

def hoA (n k : Nat) : AHeap := ⟨2 * n, k, List.replicate k sA, []⟩
def hoC (n : Nat) (gs : List Nat) (k : Nat) : AHeap := ⟨2 * n, n, (List.range n).map (fun i => if i ∈ gs.take k then sD else if i ∈ gs then sR else sA), gs.take k⟩
def hoB (n : Nat) (gs : List Nat) : AHeap := hoC n gs gs.length

theorem hoA_alloc {n k : Nat} (h : k < n) : (hoA n k).alloc kArr = ((cellWord k 0, 0), hoA n (k + 1)) := by
  unfold AHeap.alloc
  rw [kArr_ok]
  have h1 : ¬ (hoA n k).room ≤ (hoA n k).live := by simp [hoA, AHeap.live]; omega
  simp only [Bool.true_eq_false, if_false, if_neg h1]
  simp [AHeap.give, hoA, AHeap.live, sA, List.replicate_succ']
  omega

theorem hoA_zero (n : Nat) : AHeap.new (2 * n) = hoA n 0 := by simp [AHeap.new, hoA]

theorem hoA_ok {n : Nat} (hn : n ≤ 400) : ∀ {k : Nat}, k ≤ n → (hoA n k).Ok 1
  | 0, _ => by rw [← hoA_zero]; exact AHeap.new_ok _ (by omega) (by omega) _
  | k + 1, h => by
    have h0 := hoA_ok hn (k := k) (by omega)
    have h1 := h0.give (by decide) (c := kArr) (by decide) (by simp [hoA, AHeap.live]; omega)
    have e := hoA_alloc (n := n) (k := k) (by omega)
    unfold AHeap.alloc at e
    rw [kArr_ok] at e
    have h2 : ¬ (hoA n k).room ≤ (hoA n k).live := by simp [hoA, AHeap.live]; omega
    simp only [Bool.true_eq_false, if_false, if_neg h2, Prod.mk.injEq] at e
    rwa [e.2] at h1

theorem hoB_nil (n : Nat) : hoA n n = hoB n [] := by
  simp only [hoA, hoB, hoC, List.take_nil, List.not_mem_nil, if_false]
  congr 1
  apply List.ext_getElem <;> simp

theorem hoC_len (n : Nat) (gs : List Nat) (k : Nat) : (hoC n gs k).slots.length = n := by simp [hoC]
theorem hoC_slot {n i : Nat} (gs : List Nat) (k : Nat) (h : i < n) : (hoC n gs k).slot i = if i ∈ gs.take k then sD else if i ∈ gs then sR else sA := by
  simp [AHeap.slot, hoC, List.getD, h]

theorem hoB_slot {n i : Nat} (gs : List Nat) (h : i < n) : (hoB n gs).slot i = if i ∈ gs then sD else sA := by
  unfold hoB
  rw [hoC_slot _ _ h, List.take_length]
  split <;> rfl

theorem find_cell {H : AHeap} {i : Nat} {g : Int} (hg : 0 ≤ g) (h : i < H.slots.length) : H.find (cellWord i g) = if (H.slot i).lives = true ∧ (H.slot i).gen = g then (0, i) else (230, 0) := by
  unfold AHeap.find
  rw [cellWord_ok i g (by omega) hg]
  rw [show (cellWord (i : Int) g).n.toNat = i by simp [cellWord], AHeap.slot_get h]
  rw [if_neg (by simp [cellWord]), if_neg (by simp [cellWord]; omega)]
  by_cases hc : (H.slot i).lives = true ∧ (H.slot i).gen = g
  · simp [cellWord, hc]
  · rw [if_neg hc]
    exact if_neg hc

theorem hoB_freed {n i : Nat} (gs : List Nat) (h : i < n) (hi : i ∉ gs) : (hoB n gs).freed i = hoB n (gs ++ [i]) := by
  unfold AHeap.freed
  rw [hoB_slot _ h, if_neg hi]
  simp only [hoB, hoC, List.take_length]
  congr 1
  apply List.ext_getElem
  · simp
  · intro j h1 h2
    simp only [List.length_map, List.length_range, List.length_set] at h1 h2
    rw [List.getElem_set]
    by_cases e : i = j
    · subst e
      simp [sD, sA]
    · have e' : ¬ j = i := fun q => e q.symm
      simp only [if_neg e, List.getElem_map, List.getElem_range, List.mem_append, List.mem_singleton, e', or_false]

theorem hoB_drop {n i : Nat} (gs : List Nat) (h : i < n) : (hoB n gs).drop (cellWord i 0) = if i ∈ gs then ((.zero, 230), hoB n gs) else ((kArr, 0), hoB n (gs ++ [i])) := by
  unfold AHeap.drop
  rw [find_cell (by decide) (by unfold hoB; rw [hoC_len]; exact h), hoB_slot _ h]
  by_cases hi : i ∈ gs
  · simp [hi, sD]
  · simp only [hi, if_false]
    simp only [sA, and_self, if_true, ne_eq, not_true_eq_false, if_false]
    rw [hoB_slot _ h, hoB_freed gs h hi]
    simp [hi, sA]

theorem gens_one {n k : Nat} (gs : List Nat) : ∀ s ∈ (hoC n gs k).slots, 0 ≤ s.gen ∧ s.gen ≤ 1 := by
  intro s hs
  simp only [hoC, List.mem_map] at hs
  obtain ⟨i, _, rfl⟩ := hs
  split
  · decide
  · split <;> decide

theorem hoB_ok {n i : Nat} {gs : List Nat} (h : i < n) (hi : i ∉ gs) (ok : (hoB n gs).Ok 1) : (hoB n (gs ++ [i])).Ok 1 := by
  have h1 := ok.freed (i := i) (by unfold hoB; rw [hoC_len]; exact h) (by rw [hoB_slot _ h, if_neg hi]; rfl)
  rw [hoB_freed _ h hi] at h1
  exact { h1 with gens := gens_one _ }

theorem hoC_alloc {n k : Nat} {gs : List Nat} (hk : k < gs.length) (hd : gs.Nodup) (hb : ∀ g ∈ gs, g < n) (hl : gs.length ≤ n) : (hoC n gs (k + 1)).alloc kArr = ((cellWord (gs[k] : Nat) 1, 0), hoC n gs k) ∧ (hoC n gs (k + 1)).live < (hoC n gs (k + 1)).room := by
  have ht : gs.take (k + 1) = gs.take k ++ [gs[k]] := by rw [List.take_add_one, List.getElem?_eq_getElem hk]; rfl
  have hm : gs[k] ∈ gs := List.getElem_mem hk
  have hgn := hb _ hm
  have hnk : gs[k] ∉ gs.take k := by
    intro q
    obtain ⟨j, hj, e⟩ := List.mem_iff_getElem.1 q
    simp only [List.length_take] at hj
    rw [List.getElem_take] at e
    have := (List.getElem_inj hd).1 e
    omega
  have hlen : (gs.take (k + 1)).length = k + 1 := by rw [List.length_take]; omega
  have hlive : (hoC n gs (k + 1)).live = (n : Int) - (k + 1 : Nat) := by unfold AHeap.live; rw [hoC_len]; simp only [hoC]; rw [hlen]
  have hroom : (hoC n gs (k + 1)).live < (hoC n gs (k + 1)).room := by rw [hlive]; simp only [hoC]; omega
  refine ⟨?_, hroom⟩
  unfold AHeap.alloc
  rw [kArr_ok]
  simp only [Bool.true_eq_false, if_false, if_neg (Int.not_le.2 hroom)]
  have hlast : (hoC n gs (k + 1)).free.getLast? = some gs[k] := by simp only [hoC]; rw [ht]; exact List.getLast?_concat
  unfold AHeap.give
  rw [hlast]
  simp only
  rw [hoC_slot _ _ hgn, if_pos (by rw [ht]; exact List.mem_append_right _ (List.mem_singleton.2 rfl)), hlive]
  have e1 : (hoC n gs (k + 1)).free.dropLast = gs.take k := by simp only [hoC]; rw [ht]; exact List.dropLast_concat
  rw [e1]
  simp only [sD, Prod.mk.injEq, true_and]
  unfold hoC
  congr 1
  · show max (n : Int) _ = n
    omega
  · apply List.ext_getElem
    · simp
    · intro j h1 h2
      simp only [List.length_map, List.length_range, List.length_set] at h1 h2
      rw [List.getElem_set]
      by_cases e : gs[k] = j
      · subst e
        simp [hnk, hm, sR]
      · have e' : ¬ j = gs[k] := fun q => e q.symm
        simp only [if_neg e, List.getElem_map, List.getElem_range, ht, List.mem_append, List.mem_singleton, e', or_false]

theorem hoC_ok {n k : Nat} {gs : List Nat} (hk : k < gs.length) (hd : gs.Nodup) (hb : ∀ g ∈ gs, g < n) (hl : gs.length ≤ n) (ok : (hoC n gs (k + 1)).Ok 1) : (hoC n gs k).Ok 1 := by
  obtain ⟨e, hr⟩ := hoC_alloc hk hd hb hl
  have h1 := ok.give (by decide) (c := kArr) (by decide) hr
  unfold AHeap.alloc at e
  rw [kArr_ok] at e
  simp only [Bool.true_eq_false, if_false, if_neg (Int.not_le.2 hr), Prod.mk.injEq] at e
  rwa [e.2] at h1

theorem hoC_live (n : Nat) (gs : List Nat) : (hoC n gs 0).live = n := by unfold AHeap.live; rw [hoC_len]; simp [hoC]
theorem hoC_most (n : Nat) (gs : List Nat) (k : Nat) : (hoC n gs k).most = n := rfl
theorem hoC_full (gs : List Nat) : (hoC 0 gs 0).alloc kArr = ((.zero, 7), hoC 0 gs 0) := by
  unfold AHeap.alloc
  rw [kArr_ok, hoC_live]
  rfl
theorem hoC_last {n : Nat} (hn : 0 < n) (gs : List Nat) : ((hoC n gs 0).alloc kArr).1 = (cellWord n 0, 0) := by
  unfold AHeap.alloc
  rw [kArr_ok, hoC_live]
  have h1 : ¬ (hoC n gs 0).room ≤ (n : Int) := by simp only [hoC]; omega
  simp only [Bool.true_eq_false, if_false, if_neg h1]
  unfold AHeap.give
  rw [show (hoC n gs 0).free.getLast? = none by simp [hoC]]
  simp only
  rw [hoC_len]

end Go.Proofs.Ytciciaikajdenaa
