/- find, and at with a call of what it is handed. -/
import Derived.Test.YtciciaikajdenaaW4
namespace Go.Proofs.Ytciciaikajdenaa
open Go.RowKit

section
variable {W0 w : World} {L : List HProp} {p : Nat} {H : AHeap}

theorem below_box {w w' : World} {o : Obj} (h : Below (w.alloc o).heap.size (w.alloc o) w') : Below w.heap.size w w' :=
  ((Below.refl _ _).alloc (Nat.le_refl _) _).trans (h.mono (by simp))

theorem below_drewN {B : Nat} {w : World} (n : Nat) : Below B w (w.drewN n) := ⟨rfl, rfl, rfl, Nat.le_refl _, fun _ _ => rfl⟩

/-- A block known before reads as before. -/
theorem old_cells {w w' : World} {p : Nat} {A : Array Value} (hb : Below w.heap.size w w') (hc : ∀ o, w.cell? ⟨p, o, none⟩ = A[o]?) (h0 : 0 < A.size) : ∀ o, w'.cell? ⟨p, o, none⟩ = A[o]? := fun o => by
  rw [hb.cell (p := ⟨p, o, none⟩), hc]
  exact World.block_lt_of_cell? w ⟨p, 0, none⟩ ((hc 0).trans (Array.getElem?_eq_getElem h0))

/-- A new block reads as it was made, behind a call that makes memory alone. -/
theorem box_cells {w w' : World} {A : Array Value} {T : TypeId} (hb : Below (w.alloc (.cells A T)).heap.size (w.alloc (.cells A T)) w') : ∀ o, w'.cell? ⟨w.heap.size, o, none⟩ = A[o]? := fun o => by
  rw [hb.cell (p := ⟨w.heap.size, o, none⟩) (by simp), World.cell?_alloc_new]

theorem find_kind (x : AWord) (hk : x.k ≠ 5 ∨ x.ok = false) :
    Calls Try.prog 115 #[.pointer (some ⟨p, 0, none⟩), wv x] w fun e w' => e = .returned (.tuple #[.pointer none, .int .i64 2]) ∧ Below w.heap.size w w' := by
  have HW := Lib.hid (fun w => word_c x w)
  unfold wv at *
  by_cases h5 : x.k = 5
  · have ho := hk.resolve_left (by simp [h5])
    have HO := Lib.hid ho
    clear ho hk
    have hb : (x.k != 5) = false := by simp [h5]
    have HH := Lib.hid h5
    clear h5
    go_enter Try.func115, Try.ntmps115
    go_wp2_with (go_at_call 72; refine (HW.out _).mono ?_; rintro e w' ⟨rfl, hb2⟩; rw [HO.out])
    go_ret2
    exact ⟨rfl, below_box hb2⟩
  · have hb : (x.k != 5) = true := by simp [h5]
    clear hk
    go_enter Try.func115, Try.ntmps115
    go_wp2
    go_ret2
    exact ⟨rfl, (Below.refl _ _).alloc (Nat.le_refl _) _⟩

theorem find_none (h : St W0 w (heapAt p H :: L)) (x : AWord) (hk : x.k = 5) (ho : x.ok = true) (hn : (H.slots.length : Int) ≤ x.n) :
    Calls Try.prog 115 #[.pointer (some ⟨p, 0, none⟩), wv x] w fun e w' => e = .returned (.tuple #[.pointer none, .int .i64 4]) ∧ Below w.heap.size w w' := by
  obtain ⟨a, cap, f, fcap, hc, h1, h2⟩ := h.heap_cells
  clear h
  have HW := Lib.hid (fun w => word_c x w)
  unfold wv at *
  have HO := Lib.hid ho
  have hb : (x.k != 5) = false := by simp [hk]
  have HC := Lib.hid hc
  clear ho hk h2 hc
  unfold maxLen at h1
  go_enter Try.func115, Try.ntmps115
  go_wp2_with (go_at_call 72; refine (HW.out _).mono ?_; rintro e w' ⟨rfl, hb2⟩; rw [HO.out]; have hb3 := below_box hb2; have hc := old_cells hb3 HC.out (by simp); have hbx := box_cells hb2)
  go_quiet (fail)
  go_wp2
  go_ret2
  exact ⟨rfl, hb3.trans (below_drewN _)⟩

theorem flat_slot {sv : List (ASlot × Value)} {i : Nat} {s : ASlot} {v : Value} (hs : sv[i]? = some (s, v)) :
    ∀ j, j < 5 → (sv.flatMap slotCells)[i * 5 + j]? = (slotCells (s, v))[j]? := fun j hj => flat_get slotCells_len sv i j (s, v) hs hj

/-- The cells of the i-th slot. -/
theorem slot_cells {b : Nat} {rest : List Value} {sv : List (ASlot × Value)} {i : Nat} {s : ASlot} {v : Value} {T : TypeId} (h : St W0 w (cellsB b (sv.flatMap slotCells ++ rest).toArray T :: L)) (hs : sv[i]? = some (s, v)) :
    w.cell? ⟨b, i * 5, none⟩ = some (.int .u8 s.c.k) ∧ w.cell? ⟨b, i * 5 + 1, none⟩ = some (.int .i64 s.c.n) ∧ w.cell? ⟨b, i * 5 + 2, none⟩ = some v ∧ w.cell? ⟨b, i * 5 + 3, none⟩ = some (.int .i64 s.gen) ∧ w.cell? ⟨b, i * 5 + 4, none⟩ = some (.bool s.lives) := by
  have hl : i < sv.length := (List.getElem?_eq_some_iff.1 hs).1
  have key : ∀ j, j < 5 → w.cell? ⟨b, i * 5 + j, none⟩ = (slotCells (s, v))[j]? := by
    intro j hj
    rw [h.cell, List.getElem?_toArray, List.getElem?_append_left, flat_slot hs j hj]
    rw [flat_len slotCells_len]; omega
  exact ⟨key 0 (by omega), key 1 (by omega), key 2 (by omega), key 3 (by omega), key 4 (by omega)⟩

/-- The parts of the heap that a word's cell is found by. -/
theorem St.heap_slots {vs vf : Value} {sv : List (ASlot × Value)} (h : St W0 w (heapL p H vs vf sv ++ L)) (hn : 0 < sv.length) :
    ∃ b cap rest, vs = .slice (some ⟨b, 0, none⟩) sv.length cap ∧ sv.length ≤ cap ∧ cap ≤ maxLen ∧ cap * 5 ≤ sv.length * 5 + rest.length ∧
      St W0 w (cellsB b (sv.flatMap slotCells ++ rest).toArray 124 :: cellsB p #[.int .i64 H.room, .int .i64 H.most, vs, vf] 109 :: ownS 3 1 vf H.free.length (intsV H.free) :: slotsW sv :: L) := by
  have h1 := h.pull 1
  obtain ⟨hl, hc⟩ := St.own_cases (L := cellsB p #[.int .i64 H.room, .int .i64 H.most, vs, vf] 109 :: ownS 3 1 vf H.free.length (intsV H.free) :: slotsW sv :: L) h1
  rcases hc with ⟨_, e, _⟩ | ⟨b, cap, rest, e, h2, h3, h4, s⟩
  · omega
  · exact ⟨b, cap, rest, e, h2, h3, by rw [hl] at h4; exact h4, s⟩

theorem find_slot {b cap : Nat} {vf : Value} {sv : List (ASlot × Value)} {rest : List Value} (x : AWord) (hk : x.k = 5) (ho : x.ok = true) {i : Nat} (hn : x.n = i) {s : ASlot} {v : Value} (hs : sv[i]? = some (s, v)) (_hmax : sv.length ≤ maxLen)
    (h : St W0 w (cellsB b (sv.flatMap slotCells ++ rest).toArray 124 :: cellsB p #[.int .i64 H.room, .int .i64 H.most, .slice (some ⟨b, 0, none⟩) sv.length cap, vf] 109 :: L)) (yes : Bool) (hyes : (s.lives && s.gen == x.g) = yes) :
    Calls Try.prog 115 #[.pointer (some ⟨p, 0, none⟩), wv x] w fun e w' => e = .returned (.tuple (if yes then #[.pointer (some ⟨b, i * 5, none⟩), .int .i64 0] else #[.pointer none, .int .i64 230])) ∧ Below w.heap.size w w' := by
  have hl : i < sv.length := (List.getElem?_eq_some_iff.1 hs).1
  have HC := Lib.hid (h.pull 1).cell
  have HS := Lib.hid (slot_cells h hs)
  have HB := Lib.hid h.lt
  clear h hs
  obtain ⟨k, n, str, g⟩ := x
  simp only at hk hn hyes
  subst hk hn
  have HW := Lib.hid (fun w => word_c ⟨5, i, str, g⟩ w)
  have HO := Lib.hid ho
  unfold wv
  unfold maxLen at _hmax
  clear ho
  have HY := Lib.hid hyes
  clear hyes
  go_enter Try.func115, Try.ntmps115
  go_wp2_with (go_at_call 72; refine (HW.out _).mono ?_; rintro e w' ⟨rfl, hb2⟩; rw [HO.out]; have hb3 := below_box hb2; have hc := old_cells hb3 HC.out (by simp); have hbx := box_cells hb2)
  go_quiet (fail)
  go_wp2
  go_quiet (fail)
  go_wp2
  have c2 : w'.cell? ⟨b, i * 5 + 4, none⟩ = some (.bool s.lives) := (hb3.cell (p := ⟨b, i * 5 + 4, none⟩) HB.out).trans HS.out.2.2.2.2
  have c1 : w'.cell? ⟨b, i * 5 + 3, none⟩ = some (.int .i64 s.gen) := (hb3.cell (p := ⟨b, i * 5 + 3, none⟩) HB.out).trans HS.out.2.2.2.1
  have HY2 := HY.out
  clear HY
  generalize s.lives = lv at c2 HY2
  cases lv
  · obtain rfl : false = yes := by simpa using HY2
    clear HY2
    go_quiet (fail)
    go_wp2
    go_ret2
    exact ⟨rfl, hb3.trans (below_drewN _)⟩
  · cases yes
    · have hne : (s.gen == g) = false := by simpa using HY2
      clear HY2
      go_quiet (fail)
      go_wp2
      go_ret2
      exact ⟨rfl, hb3.trans (below_drewN _)⟩
    · have hne : (s.gen == g) = true := by simpa using HY2
      clear HY2
      go_quiet (fail)
      go_wp2
      go_ret2
      exact ⟨rfl, hb3.trans (below_drewN _)⟩

theorem find_nil (x : AWord) (w : World) :
    Calls Try.prog 115 #[.pointer none, wv x] w fun e w' => e = .returned (.tuple #[.pointer none, .int .i64 1]) ∧ Below w.heap.size w w' := by
  unfold wv
  go_enter Try.func115, Try.ntmps115
  go_wp2
  go_ret2
  exact ⟨rfl, (Below.refl _ _).alloc (Nat.le_refl _) _⟩

theorem sv_get {sv : List (ASlot × Value)} (e : sv.map Prod.fst = H.slots) {i : Nat} (hi : i < H.slots.length) : ∃ v, sv[i]? = some (H.slot i, v) := by
  have hl : i < sv.length := by rw [sv_len e]; exact hi
  refine ⟨sv[i].2, ?_⟩
  rw [List.getElem?_eq_getElem hl]
  have : sv[i].1 = H.slot i := by
    have h1 := AHeap.slot_get hi
    rw [← e, List.getElem?_map, List.getElem?_eq_getElem hl] at h1
    simpa using h1
  rw [← this]

/-- A word that finds nothing. -/
theorem find_bad (h : St W0 w (heapAt p H :: L)) (x : AWord) {k : Int} (hk : (H.find x).1 = k) (h0 : k ≠ 0) (hmax : H.slots.length ≤ maxLen) :
    Calls Try.prog 115 #[.pointer (some ⟨p, 0, none⟩), wv x] w fun e w' => e = .returned (.tuple #[.pointer none, .int .i64 k]) ∧ Below w.heap.size w w' := by
  unfold AHeap.find at hk
  split at hk
  · rename_i h1
    subst hk
    exact find_kind x h1
  · rename_i h1
    simp only [not_or, ne_eq, Decidable.not_not, Bool.not_eq_false] at h1
    split at hk
    · rename_i h2; subst hk; exact find_none h x h1.1 h1.2 h2
    · rename_i h2
      have hn : 0 ≤ x.n := by
        have := h1.2
        unfold AWord.ok at this
        simp [h1.1] at this
        exact this.1.1
      have hi : x.n.toNat < H.slots.length := by omega
      rw [AHeap.slot_get hi] at hk
      obtain ⟨vs, vf, sv, e, h⟩ := h.heap_open
      obtain ⟨v, hs⟩ := sv_get e hi
      obtain ⟨b, cap, rest, rfl, c1, c2, c3, s⟩ := h.heap_slots (by rw [sv_len e]; omega)
      simp only at hk
      split at hk
      · exact absurd hk.symm h0
      · rename_i h3
        subst hk
        exact find_slot x h1.1 h1.2 (by omega) hs (by rw [sv_len e]; exact hmax) s false (by
          cases hl : (H.slot x.n.toNat).lives
          · rfl
          · simp only [Bool.true_and, beq_eq_false_iff_ne]; exact fun q => h3 ⟨hl, q⟩)

/-- A word that finds the cell i. -/
theorem find_good {b cap : Nat} {vf : Value} {sv : List (ASlot × Value)} {rest : List Value} (e : sv.map Prod.fst = H.slots) (x : AWord) {i : Nat} (hk : H.find x = (0, i)) (hmax : H.slots.length ≤ maxLen)
    (h : St W0 w (cellsB b (sv.flatMap slotCells ++ rest).toArray 124 :: cellsB p #[.int .i64 H.room, .int .i64 H.most, .slice (some ⟨b, 0, none⟩) sv.length cap, vf] 109 :: L)) :
    Calls Try.prog 115 #[.pointer (some ⟨p, 0, none⟩), wv x] w fun e w' => e = .returned (.tuple #[.pointer (some ⟨b, i * 5, none⟩), .int .i64 0]) ∧ Below w.heap.size w w' := by
  have hz := AHeap.find_zero (H := H) (w := x) (by rw [hk])
  rw [hk] at hz
  obtain ⟨h1, h2, h3, h4, h5, h6, h7⟩ := hz
  obtain ⟨v, hs⟩ := sv_get e h5
  exact find_slot x h1 h2 h4 hs (by rw [sv_len e]; exact hmax) h true (by simp only at h6 h7; rw [h6, h7]; simp)

theorem at_bad {w : World} {q : Value} {x : AWord} {k : Int} (hk : (k == 0) = false) (f : Value)
    (hf : ∀ w', Below w.heap.size w w' → Calls Try.prog 115 #[q, wv x] w' fun e w'' => e = .returned (.tuple #[.pointer none, .int .i64 k]) ∧ Below w'.heap.size w' w'') :
    Calls Try.prog 76 #[q, wv x, f] w fun e w' => e = .returned (.int .i64 k) ∧ Below w.heap.size w w' := by
  have HF := Lib.hid (hf _ ((Below.refl _ _).alloc (Nat.le_refl _) (.cells #[Value.int .u8 x.k, .int .i64 x.n, .string x.s, .int .i64 x.g] 36)))
  have hk' : (k != 0) = true := by simp [bne, hk]
  clear hf
  unfold wv at *
  go_enter Try.func76, Try.ntmps76
  go_wp2_with (go_at_call 115; refine HF.out.mono ?_; rintro e w' ⟨rfl, hb⟩)
  go_ret
  exact ⟨rfl, below_box hb⟩

set_option maxRecDepth 100000 in
theorem at_good77 {w : World} {q : Value} {x : AWord} {ptr : Value} {t : Value} {R : Value → World → Prop}
    (hf : ∀ w', Below w.heap.size w w' → Calls Try.prog 115 #[q, wv x] w' fun e w'' => e = .returned (.tuple #[ptr, .int .i64 0]) ∧ Below w'.heap.size w' w'')
    (hc : ∀ w', Below w.heap.size w w' → Calls Try.prog 77 #[t, ptr] w' fun e w'' => ∃ v, e = .returned v ∧ R v w'') :
    Calls Try.prog 76 #[q, wv x, .func (.func 77) #[t] #[]] w fun e w' => ∃ v, e = .returned v ∧ R v w' := by
  have HF := Lib.hid (hf _ ((Below.refl _ _).alloc (Nat.le_refl _) (.cells #[Value.int .u8 x.k, .int .i64 x.n, .string x.s, .int .i64 x.g] 36)))
  have HC := Lib.hid hc
  clear hf hc
  unfold wv at *
  go_enter Try.func76, Try.ntmps76
  go_wp2_with (first
    | (go_at_call 115; refine HF.out.mono ?_; rintro e w' ⟨rfl, hb⟩; have HB := Lib.hid (below_box hb); clear hb)
    | (go_at_call 77; refine (HC.out _ HB.out).mono ?_; rintro e w' ⟨r, rfl, hr⟩; have HR := Lib.hid hr; clear hr))
  go_ret
  exact ⟨_, rfl, HR.out⟩

set_option maxRecDepth 100000 in
theorem at_good79 {w : World} {q : Value} {x : AWord} {ptr : Value} {t u v : Value} {R : Value → World → Prop}
    (hf : ∀ w', Below w.heap.size w w' → Calls Try.prog 115 #[q, wv x] w' fun e w'' => e = .returned (.tuple #[ptr, .int .i64 0]) ∧ Below w'.heap.size w' w'')
    (hc : ∀ w', Below w.heap.size w w' → Calls Try.prog 79 #[ptr, t, u, v] w' fun e w'' => ∃ v, e = .returned v ∧ R v w'') :
    Calls Try.prog 76 #[q, wv x, .func (.func 79) #[] #[t, u, v]] w fun e w' => ∃ v, e = .returned v ∧ R v w' := by
  have HF := Lib.hid (hf _ ((Below.refl _ _).alloc (Nat.le_refl _) (.cells #[Value.int .u8 x.k, .int .i64 x.n, .string x.s, .int .i64 x.g] 36)))
  have HC := Lib.hid hc
  clear hf hc
  unfold wv at *
  go_enter Try.func76, Try.ntmps76
  go_wp2_with (first
    | (go_at_call 115; refine HF.out.mono ?_; rintro e w' ⟨rfl, hb⟩; have HB := Lib.hid (below_box hb); clear hb)
    | (go_at_call 79; refine (HC.out _ HB.out).mono ?_; rintro e w' ⟨r, rfl, hr⟩; have HR := Lib.hid hr; clear hr))
  go_ret
  exact ⟨_, rfl, HR.out⟩

set_option maxRecDepth 100000 in
theorem at_good80 {w : World} {q : Value} {x : AWord} {ptr : Value} {t u v : Value} {R : Value → World → Prop}
    (hf : ∀ w', Below w.heap.size w w' → Calls Try.prog 115 #[q, wv x] w' fun e w'' => e = .returned (.tuple #[ptr, .int .i64 0]) ∧ Below w'.heap.size w' w'')
    (hc : ∀ w', Below w.heap.size w w' → Calls Try.prog 80 #[ptr, t, u, v] w' fun e w'' => ∃ v, e = .returned v ∧ R v w'') :
    Calls Try.prog 76 #[q, wv x, .func (.func 80) #[] #[t, u, v]] w fun e w' => ∃ v, e = .returned v ∧ R v w' := by
  have HF := Lib.hid (hf _ ((Below.refl _ _).alloc (Nat.le_refl _) (.cells #[Value.int .u8 x.k, .int .i64 x.n, .string x.s, .int .i64 x.g] 36)))
  have HC := Lib.hid hc
  clear hf hc
  unfold wv at *
  go_enter Try.func76, Try.ntmps76
  go_wp2_with (first
    | (go_at_call 115; refine HF.out.mono ?_; rintro e w' ⟨rfl, hb⟩; have HB := Lib.hid (below_box hb); clear hb)
    | (go_at_call 80; refine (HC.out _ HB.out).mono ?_; rintro e w' ⟨r, rfl, hr⟩; have HR := Lib.hid hr; clear hr))
  go_ret
  exact ⟨_, rfl, HR.out⟩

set_option maxRecDepth 100000 in
theorem at_good81 {w : World} {q : Value} {x : AWord} {ptr : Value} {t : Value} {R : Value → World → Prop}
    (hf : ∀ w', Below w.heap.size w w' → Calls Try.prog 115 #[q, wv x] w' fun e w'' => e = .returned (.tuple #[ptr, .int .i64 0]) ∧ Below w'.heap.size w' w'')
    (hc : ∀ w', Below w.heap.size w w' → Calls Try.prog 81 #[ptr, t] w' fun e w'' => ∃ v, e = .returned v ∧ R v w'') :
    Calls Try.prog 76 #[q, wv x, .func (.func 81) #[] #[t]] w fun e w' => ∃ v, e = .returned v ∧ R v w' := by
  have HF := Lib.hid (hf _ ((Below.refl _ _).alloc (Nat.le_refl _) (.cells #[Value.int .u8 x.k, .int .i64 x.n, .string x.s, .int .i64 x.g] 36)))
  have HC := Lib.hid hc
  clear hf hc
  unfold wv at *
  go_enter Try.func76, Try.ntmps76
  go_wp2_with (first
    | (go_at_call 115; refine HF.out.mono ?_; rintro e w' ⟨rfl, hb⟩; have HB := Lib.hid (below_box hb); clear hb)
    | (go_at_call 81; refine (HC.out _ HB.out).mono ?_; rintro e w' ⟨r, rfl, hr⟩; have HR := Lib.hid hr; clear hr))
  go_ret
  exact ⟨_, rfl, HR.out⟩

end

end Go.Proofs.Ytciciaikajdenaa
