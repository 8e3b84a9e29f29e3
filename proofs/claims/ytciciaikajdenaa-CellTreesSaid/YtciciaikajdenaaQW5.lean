/- find, and at with a call of what it is handed. -/
import Derived.RegionTactic
import Derived.BigRegion
import Derived.Test.YtciciaikajdenaaQHModel
namespace Go.Proofs.Ytciciaikajdenaa
open Go.RowKit

section
variable {W0 w : World} {L : List HProp} {p : Nat} {H : AHeap}

theorem below_box {w w' : World} {o : Obj} (h : Below (w.alloc o).heap.size (w.alloc o) w') : Below w.heap.size w w' :=
  ((Below.refl _ _).alloc (Nat.le_refl _) _).trans (h.mono (by simp))

theorem below_drewN {B : Nat} {w : World} (n : Nat) : Below B w (w.drewN n) := ⟨rfl, rfl, rfl, Nat.le_refl _, fun _ _ => rfl⟩

/-- A block known before reads as before. -/
theorem old_cells {w w' : World} {p : Nat} {A : Array Value} (hb : Below w.heap.size w w') (hc : ∀ o, w.cell? ⟨p, o, none⟩ = A[o]?) (h0 : 0 < A.size) : ∀ o, w'.cell? ⟨p, o, none⟩ = A[o]? := fun o => by
  rw [hb.cell (p := ⟨p, o, none⟩), hc]
  exact World.block_lt_of_cell? w ⟨p, 0, none⟩ ((hc 0).trans (Array.getElem?_eq_getElem h0))

/-- A new block reads as it was made, behind a call that makes memory alone. -/
theorem box_cells {w w' : World} {A : Array Value} {T : TypeId} (hb : Below (w.alloc (.cells A T)).heap.size (w.alloc (.cells A T)) w') : ∀ o, w'.cell? ⟨w.heap.size, o, none⟩ = A[o]? := fun o => by
  rw [hb.cell (p := ⟨w.heap.size, o, none⟩) (by simp), World.cell?_alloc_new]

theorem find_kind (x : AWord) (hk : x.k ≠ 5 ∨ x.ok = false) :
    Calls Try.prog 115 #[.pointer (some ⟨p, 0, none⟩), wv x] w fun e w' => e = .returned (.tuple #[.pointer none, .int .i64 2]) ∧ Below w.heap.size w w' := by
  have HW := Lib.hid (fun w => word_c x w)
  unfold wv at *
  by_cases h5 : x.k = 5
  · have ho := hk.resolve_left (by simp [h5])
    have HO := Lib.hid ho
    clear ho hk
    have hb : (x.k != 5) = false := by simp [h5]
    have HH := Lib.hid h5
    clear h5
    go_enter Try.func115, Try.ntmps115
    go_wp2_with (go_at_call 72; refine (HW.out _).mono ?_; rintro e w' ⟨rfl, hb2⟩; rw [HO.out])
    go_ret2
    exact ⟨rfl, below_box hb2⟩
  · have hb : (x.k != 5) = true := by simp [h5]
    clear hk
    go_enter Try.func115, Try.ntmps115
    go_wp2
    go_ret2
    exact ⟨rfl, (Below.refl _ _).alloc (Nat.le_refl _) _⟩

theorem find_none (h : St W0 w (heapAt p H :: L)) (x : AWord) (hk : x.k = 5) (ho : x.ok = true) (hn : (H.slots.length : Int) ≤ x.n) :
    Calls Try.prog 115 #[.pointer (some ⟨p, 0, none⟩), wv x] w fun e w' => e = .returned (.tuple #[.pointer none, .int .i64 4]) ∧ Below w.heap.size w w' := by
  obtain ⟨a, cap, f, fcap, hc, h1, h2⟩ := h.heap_cells
  clear h
  have HW := Lib.hid (fun w => word_c x w)
  unfold wv at *
  have HO := Lib.hid ho
  have hb : (x.k != 5) = false := by simp [hk]
  have HC := Lib.hid hc
  clear ho hk h2 hc
  unfold maxLen at h1
  go_enter Try.func115, Try.ntmps115
  go_wp2_with (go_at_call 72; refine (HW.out _).mono ?_; rintro e w' ⟨rfl, hb2⟩; rw [HO.out]; have hb3 := below_box hb2; have hc := old_cells hb3 HC.out (by simp); have hbx := box_cells hb2)
  go_quiet (fail)
  go_wp2
  go_ret2
  exact ⟨rfl, hb3.trans (below_drewN _)⟩

theorem flat_slot {sv : List (ASlot × Value)} {i : Nat} {s : ASlot} {v : Value} (hs : sv[i]? = some (s, v)) :
    ∀ j, j < 5 → (sv.flatMap slotCells)[i * 5 + j]? = (slotCells (s, v))[j]? := fun j hj => flat_get slotCells_len sv i j (s, v) hs hj

/-- The cells of the i-th slot. -/
theorem slot_cells {b : Nat} {rest : List Value} {sv : List (ASlot × Value)} {i : Nat} {s : ASlot} {v : Value} {T : TypeId} (h : St W0 w (cellsB b (sv.flatMap slotCells ++ rest).toArray T :: L)) (hs : sv[i]? = some (s, v)) :
    w.cell? ⟨b, i * 5, none⟩ = some (.int .u8 s.c.k) ∧ w.cell? ⟨b, i * 5 + 1, none⟩ = some (.int .i64 s.c.n) ∧ w.cell? ⟨b, i * 5 + 2, none⟩ = some v ∧ w.cell? ⟨b, i * 5 + 3, none⟩ = some (.int .i64 s.gen) ∧ w.cell? ⟨b, i * 5 + 4, none⟩ = some (.bool s.lives) := by
  have hl : i < sv.length := (List.getElem?_eq_some_iff.1 hs).1
  have key : ∀ j, j < 5 → w.cell? ⟨b, i * 5 + j, none⟩ = (slotCells (s, v))[j]? := by
    intro j hj
    rw [h.cell, List.getElem?_toArray, List.getElem?_append_left, flat_slot hs j hj]
    rw [flat_len slotCells_len]; omega
  exact ⟨key 0 (by omega), key 1 (by omega), key 2 (by omega), key 3 (by omega), key 4 (by omega)⟩

/-- The parts of the heap that a word's cell is found by. -/
theorem St.heap_slots {vs vf : Value} {sv : List (ASlot × Value)} (h : St W0 w (heapL p H vs vf sv ++ L)) (hn : 0 < sv.length) :
    ∃ b cap rest, vs = .slice (some ⟨b, 0, none⟩) sv.length cap ∧ sv.length ≤ cap ∧ cap ≤ maxLen ∧ cap * 5 ≤ sv.length * 5 + rest.length ∧
      St W0 w (cellsB b (sv.flatMap slotCells ++ rest).toArray 124 :: cellsB p #[.int .i64 H.room, .int .i64 H.most, vs, vf] 109 :: ownS 3 1 vf H.free.length (intsV H.free) :: slotsW sv :: L) := by
  have h1 := h.pull 1
  obtain ⟨hl, hc⟩ := St.own_cases (L := cellsB p #[.int .i64 H.room, .int .i64 H.most, vs, vf] 109 :: ownS 3 1 vf H.free.length (intsV H.free) :: slotsW sv :: L) h1
  rcases hc with ⟨_, e, _⟩ | ⟨b, cap, rest, e, h2, h3, h4, s⟩
  · omega
  · exact ⟨b, cap, rest, e, h2, h3, by rw [hl] at h4; exact h4, s⟩

theorem find_slot {b cap : Nat} {vf : Value} {sv : List (ASlot × Value)} {rest : List Value} (x : AWord) (hk : x.k = 5) (ho : x.ok = true) {i : Nat} (hn : x.n = i) {s : ASlot} {v : Value} (hs : sv[i]? = some (s, v)) (_hmax : sv.length ≤ maxLen)
    (h : St W0 w (cellsB b (sv.flatMap slotCells ++ rest).toArray 124 :: cellsB p #[.int .i64 H.room, .int .i64 H.most, .slice (some ⟨b, 0, none⟩) sv.length cap, vf] 109 :: L)) (yes : Bool) (hyes : (s.lives && s.gen == x.g) = yes) :
    Calls Try.prog 115 #[.pointer (some ⟨p, 0, none⟩), wv x] w fun e w' => e = .returned (.tuple (if yes then #[.pointer (some ⟨b, i * 5, none⟩), .int .i64 0] else #[.pointer none, .int .i64 230])) ∧ Below w.heap.size w w' := by
  have hl : i < sv.length := (List.getElem?_eq_some_iff.1 hs).1
  have HC := Lib.hid (h.pull 1).cell
  have HS := Lib.hid (slot_cells h hs)
  have HB := Lib.hid h.lt
  clear h hs
  obtain ⟨k, n, str, g⟩ := x
  simp only at hk hn hyes
  subst hk hn
  have HW := Lib.hid (fun w => word_c ⟨5, i, str, g⟩ w)
  have HO := Lib.hid ho
  unfold wv
  unfold maxLen at _hmax
  clear ho
  have HY := Lib.hid hyes
  clear hyes
  go_enter Try.func115, Try.ntmps115
  go_wp2_with (go_at_call 72; refine (HW.out _).mono ?_; rintro e w' ⟨rfl, hb2⟩; rw [HO.out]; have hb3 := below_box hb2; have hc := old_cells hb3 HC.out (by simp); have hbx := box_cells hb2)
  go_quiet (fail)
  go_wp2
  go_quiet (fail)
  go_wp2
  have c2 : w'.cell? ⟨b, i * 5 + 4, none⟩ = some (.bool s.lives) := (hb3.cell (p := ⟨b, i * 5 + 4, none⟩) HB.out).trans HS.out.2.2.2.2
  have c1 : w'.cell? ⟨b, i * 5 + 3, none⟩ = some (.int .i64 s.gen) := (hb3.cell (p := ⟨b, i * 5 + 3, none⟩) HB.out).trans HS.out.2.2.2.1
  have HY2 := HY.out
  clear HY
  generalize s.lives = lv at c2 HY2
  cases lv
  · obtain rfl : false = yes := by simpa using HY2
    clear HY2
    go_quiet (fail)
    go_wp2
    go_ret2
    exact ⟨rfl, hb3.trans (below_drewN _)⟩
  · cases yes
    · have hne : (s.gen == g) = false := by simpa using HY2
      clear HY2
      go_quiet (fail)
      go_wp2
      go_ret2
      exact ⟨rfl, hb3.trans (below_drewN _)⟩
    · have hne : (s.gen == g) = true := by simpa using HY2
      clear HY2
      go_quiet (fail)
      go_wp2
      go_ret2
      exact ⟨rfl, hb3.trans (below_drewN _)⟩

theorem find_nil (x : AWord) (w : World) :
    Calls Try.prog 115 #[.pointer none, wv x] w fun e w' => e = .returned (.tuple #[.pointer none, .int .i64 1]) ∧ Below w.heap.size w w' := by
  unfold wv
  go_enter Try.func115, Try.ntmps115
  go_wp2
  go_ret2
  exact ⟨rfl, (Below.refl _ _).alloc (Nat.le_refl _) _⟩

theorem sv_get {sv : List (ASlot × Value)} (e : sv.map Prod.fst = H.slots) {i : Nat} (hi : i < H.slots.length) : ∃ v, sv[i]? = some (H.slot i, v) := by
  have hl : i < sv.length := by rw [sv_len e]; exact hi
  refine ⟨sv[i].2, ?_⟩
  rw [List.getElem?_eq_getElem hl]
  have : sv[i].1 = H.slot i := by
    have h1 := AHeap.slot_get hi
    rw [← e, List.getElem?_map, List.getElem?_eq_getElem hl] at h1
    simpa using h1
  rw [← this]

/-- A word that finds nothing. -/
theorem find_bad (h : St W0 w (heapAt p H :: L)) (x : AWord) {k : Int} (hk : (H.find x).1 = k) (h0 : k ≠ 0) (hmax : H.slots.length ≤ maxLen) :
    Calls Try.prog 115 #[.pointer (some ⟨p, 0, none⟩), wv x] w fun e w' => e = .returned (.tuple #[.pointer none, .int .i64 k]) ∧ Below w.heap.size w w' := by
  unfold AHeap.find at hk
  split at hk
  · rename_i h1
    subst hk
    exact find_kind x h1
  · rename_i h1
    simp only [not_or, ne_eq, Decidable.not_not, Bool.not_eq_false] at h1
    split at hk
    · rename_i h2; subst hk; exact find_none h x h1.1 h1.2 h2
    · rename_i h2
      have hn : 0 ≤ x.n := by
        have := h1.2
        unfold AWord.ok at this
        simp [h1.1] at this
        exact this.1.1
      have hi : x.n.toNat < H.slots.length := by omega
      rw [AHeap.slot_get hi] at hk
      obtain ⟨vs, vf, sv, e, h⟩ := h.heap_open
      obtain ⟨v, hs⟩ := sv_get e hi
      obtain ⟨b, cap, rest, rfl, c1, c2, c3, s⟩ := h.heap_slots (by rw [sv_len e]; omega)
      simp only at hk
      split at hk
      · exact absurd hk.symm h0
      · rename_i h3
        subst hk
        exact find_slot x h1.1 h1.2 (by omega) hs (by rw [sv_len e]; exact hmax) s false (by
          cases hl : (H.slot x.n.toNat).lives
          · rfl
          · simp only [Bool.true_and, beq_eq_false_iff_ne]; exact fun q => h3 ⟨hl, q⟩)

/-- A word that finds the cell i. -/
theorem find_good {b cap : Nat} {vf : Value} {sv : List (ASlot × Value)} {rest : List Value} (e : sv.map Prod.fst = H.slots) (x : AWord) {i : Nat} (hk : H.find x = (0, i)) (hmax : H.slots.length ≤ maxLen)
    (h : St W0 w (cellsB b (sv.flatMap slotCells ++ rest).toArray 124 :: cellsB p #[.int .i64 H.room, .int .i64 H.most, .slice (some ⟨b, 0, none⟩) sv.length cap, vf] 109 :: L)) :
    Calls Try.prog 115 #[.pointer (some ⟨p, 0, none⟩), wv x] w fun e w' => e = .returned (.tuple #[.pointer (some ⟨b, i * 5, none⟩), .int .i64 0]) ∧ Below w.heap.size w w' := by
  have hz := AHeap.find_zero (H := H) (w := x) (by rw [hk])
  rw [hk] at hz
  obtain ⟨h1, h2, h3, h4, h5, h6, h7⟩ := hz
  obtain ⟨v, hs⟩ := sv_get e h5
  exact find_slot x h1 h2 h4 hs (by rw [sv_len e]; exact hmax) h true (by simp only at h6 h7; rw [h6, h7]; simp)

theorem at_bad {w : World} {q : Value} {x : AWord} {k : Int} (hk : (k == 0) = false) (f : Value)
    (hf : ∀ w', Below w.heap.size w w' → Calls Try.prog 115 #[q, wv x] w' fun e w'' => e = .returned (.tuple #[.pointer none, .int .i64 k]) ∧ Below w'.heap.size w' w'') :
    Calls Try.prog 76 #[q, wv x, f] w fun e w' => e = .returned (.int .i64 k) ∧ Below w.heap.size w w' := by
  have HF := Lib.hid (hf _ ((Below.refl _ _).alloc (Nat.le_refl _) (.cells #[Value.int .u8 x.k, .int .i64 x.n, .string x.s, .int .i64 x.g] 36)))
  have hk' : (k != 0) = true := by simp [bne, hk]
  clear hf
  unfold wv at *
  go_enter Try.func76, Try.ntmps76
  go_wp2_with (go_at_call 115; refine HF.out.mono ?_; rintro e w' ⟨rfl, hb⟩)
  go_ret
  exact ⟨rfl, below_box hb⟩

set_option maxRecDepth 100000 in
theorem at_good77 {w : World} {q : Value} {x : AWord} {ptr : Value} {t : Value} {R : Value → World → Prop}
    (hf : ∀ w', Below w.heap.size w w' → Calls Try.prog 115 #[q, wv x] w' fun e w'' => e = .returned (.tuple #[ptr, .int .i64 0]) ∧ Below w'.heap.size w' w'')
    (hc : ∀ w', Below w.heap.size w w' → Calls Try.prog 77 #[t, ptr] w' fun e w'' => ∃ v, e = .returned v ∧ R v w'') :
    Calls Try.prog 76 #[q, wv x, .func (.func 77) #[t] #[]] w fun e w' => ∃ v, e = .returned v ∧ R v w' := by
  have HF := Lib.hid (hf _ ((Below.refl _ _).alloc (Nat.le_refl _) (.cells #[Value.int .u8 x.k, .int .i64 x.n, .string x.s, .int .i64 x.g] 36)))
  have HC := Lib.hid hc
  clear hf hc
  unfold wv at *
  go_enter Try.func76, Try.ntmps76
  go_wp2_with (first
    | (go_at_call 115; refine HF.out.mono ?_; rintro e w' ⟨rfl, hb⟩; have HB := Lib.hid (below_box hb); clear hb)
    | (go_at_call 77; refine (HC.out _ HB.out).mono ?_; rintro e w' ⟨r, rfl, hr⟩; have HR := Lib.hid hr; clear hr))
  go_ret
  exact ⟨_, rfl, HR.out⟩

set_option maxRecDepth 100000 in
theorem at_good79 {w : World} {q : Value} {x : AWord} {ptr : Value} {t u v : Value} {R : Value → World → Prop}
    (hf : ∀ w', Below w.heap.size w w' → Calls Try.prog 115 #[q, wv x] w' fun e w'' => e = .returned (.tuple #[ptr, .int .i64 0]) ∧ Below w'.heap.size w' w'')
    (hc : ∀ w', Below w.heap.size w w' → Calls Try.prog 79 #[ptr, t, u, v] w' fun e w'' => ∃ v, e = .returned v ∧ R v w'') :
    Calls Try.prog 76 #[q, wv x, .func (.func 79) #[] #[t, u, v]] w fun e w' => ∃ v, e = .returned v ∧ R v w' := by
  have HF := Lib.hid (hf _ ((Below.refl _ _).alloc (Nat.le_refl _) (.cells #[Value.int .u8 x.k, .int .i64 x.n, .string x.s, .int .i64 x.g] 36)))
  have HC := Lib.hid hc
  clear hf hc
  unfold wv at *
  go_enter Try.func76, Try.ntmps76
  go_wp2_with (first
    | (go_at_call 115; refine HF.out.mono ?_; rintro e w' ⟨rfl, hb⟩; have HB := Lib.hid (below_box hb); clear hb)
    | (go_at_call 79; refine (HC.out _ HB.out).mono ?_; rintro e w' ⟨r, rfl, hr⟩; have HR := Lib.hid hr; clear hr))
  go_ret
  exact ⟨_, rfl, HR.out⟩

set_option maxRecDepth 100000 in
theorem at_good80 {w : World} {q : Value} {x : AWord} {ptr : Value} {t u v : Value} {R : Value → World → Prop}
    (hf : ∀ w', Below w.heap.size w w' → Calls Try.prog 115 #[q, wv x] w' fun e w'' => e = .returned (.tuple #[ptr, .int .i64 0]) ∧ Below w'.heap.size w' w'')
    (hc : ∀ w', Below w.heap.size w w' → Calls Try.prog 80 #[ptr, t, u, v] w' fun e w'' => ∃ v, e = .returned v ∧ R v w'') :
    Calls Try.prog 76 #[q, wv x, .func (.func 80) #[] #[t, u, v]] w fun e w' => ∃ v, e = .returned v ∧ R v w' := by
  have HF := Lib.hid (hf _ ((Below.refl _ _).alloc (Nat.le_refl _) (.cells #[Value.int .u8 x.k, .int .i64 x.n, .string x.s, .int .i64 x.g] 36)))
  have HC := Lib.hid hc
  clear hf hc
  unfold wv at *
  go_enter Try.func76, Try.ntmps76
  go_wp2_with (first
    | (go_at_call 115; refine HF.out.mono ?_; rintro e w' ⟨rfl, hb⟩; have HB := Lib.hid (below_box hb); clear hb)
    | (go_at_call 80; refine (HC.out _ HB.out).mono ?_; rintro e w' ⟨r, rfl, hr⟩; have HR := Lib.hid hr; clear hr))
  go_ret
  exact ⟨_, rfl, HR.out⟩

set_option maxRecDepth 100000 in
theorem at_good81 {w : World} {q : Value} {x : AWord} {ptr : Value} {t : Value} {R : Value → World → Prop}
    (hf : ∀ w', Below w.heap.size w w' → Calls Try.prog 115 #[q, wv x] w' fun e w'' => e = .returned (.tuple #[ptr, .int .i64 0]) ∧ Below w'.heap.size w' w'')
    (hc : ∀ w', Below w.heap.size w w' → Calls Try.prog 81 #[ptr, t] w' fun e w'' => ∃ v, e = .returned v ∧ R v w'') :
    Calls Try.prog 76 #[q, wv x, .func (.func 81) #[] #[t]] w fun e w' => ∃ v, e = .returned v ∧ R v w' := by
  have HF := Lib.hid (hf _ ((Below.refl _ _).alloc (Nat.le_refl _) (.cells #[Value.int .u8 x.k, .int .i64 x.n, .string x.s, .int .i64 x.g] 36)))
  have HC := Lib.hid hc
  clear hf hc
  unfold wv at *
  go_enter Try.func76, Try.ntmps76
  go_wp2_with (first
    | (go_at_call 115; refine HF.out.mono ?_; rintro e w' ⟨rfl, hb⟩; have HB := Lib.hid (below_box hb); clear hb)
    | (go_at_call 81; refine (HC.out _ HB.out).mono ?_; rintro e w' ⟨r, rfl, hr⟩; have HR := Lib.hid hr; clear hr))
  go_ret
  exact ⟨_, rfl, HR.out⟩

end

end Go.Proofs.Ytciciaikajdenaa
/- take, Get. -/
namespace Go.Proofs.Ytciciaikajdenaa
open Go.RowKit

def TakePost (W0 : World) (bt b : Nat) (c : ACell) (flat : Array Value) (M : List HProp) (v : Value) (w' : World) : Prop :=
  v = .int .i64 0 ∧ ∃ v', St W0 w' (wordsOwn v' c.ws :: cellsB bt #[.int .u8 c.k, .int .i64 c.n, v'] 118 :: cellsB b flat 124 :: M)

set_option maxRecDepth 100000 in
theorem take_c {W0 w : World} {bt b i : Nat} {x0 x1 x2 v : Value} {s : ASlot} {sv : List (ASlot × Value)} {rest : List Value} {M : List HProp}
    (h : St W0 w (cellsB bt #[x0, x1, x2] 118 :: cellsB b (sv.flatMap slotCells ++ rest).toArray 124 :: M)) (hs : sv[i]? = some (s, v))
    (hm : s.c.ws.length ≤ 1000000) (hr : rd w 4 v s.c.ws.length (flatW s.c.ws)) :
    Calls Try.prog 77 #[.pointer (some ⟨bt, 0, none⟩), .pointer (some ⟨b, i * 5, none⟩)] w fun e w' => ∃ r, e = .returned r ∧ TakePost W0 bt b s.c (sv.flatMap slotCells ++ rest).toArray M r w' := by
  obtain ⟨c0, c1, c2, _, _⟩ := slot_cells (h.pull 1) hs
  have HC := Lib.hid (copied_c s.c v w hm hr)
  have HH := Lib.hid h
  unfold cv at HC
  clear h hm hr hs
  go_enter Try.func77, Try.ntmps77
  go_wp2_with (go_at_call 82; refine HC.out.mono ?_; rintro e w1 ⟨v', rfl, k⟩; obtain ⟨a', cap', rfl, _⟩ := St.own_form k; have S1 := HH.out.chain k; have d := (S1.pull 1).cell; have f := (S1.pull 1).free; have HS := Lib.hid S1; clear S1 k; simp only [cv])
  go_ret
  have S2 := (((HS.out.pull 1).set 0 (.int .u8 s.c.k)).set 1 (.int .i64 s.c.n)).set 2 (.slice a' s.c.ws.length cap')
  exact ⟨_, rfl, rfl, _, S2.push 1⟩

theorem St.heap_back {W0 w : World} {L : List HProp} {p : Nat} {H : AHeap} {b cap : Nat} {vf : Value} {sv : List (ASlot × Value)} {rest : List Value} (e : sv.map Prod.fst = H.slots)
    (c1 : sv.length ≤ cap) (c2 : cap ≤ maxLen) (c3 : cap * 5 ≤ sv.length * 5 + rest.length)
    (h : St W0 w (cellsB b (sv.flatMap slotCells ++ rest).toArray 124 :: cellsB p #[.int .i64 H.room, .int .i64 H.most, .slice (some ⟨b, 0, none⟩) sv.length cap, vf] 109 :: ownS 3 1 vf H.free.length (intsV H.free) :: slotsW sv :: L)) :
    St W0 w (heapAt p H :: L) := by
  have h1 := h.own_mk (n := sv.length) (cap := cap) (sz := 5) (flat_len slotCells_len sv) c1 c2 (by rw [flat_len slotCells_len]; exact c3)
  exact St.heap_close e (h1.push 1)

def GetPost (W0 : World) (L : List HProp) (p : Nat) (H : AHeap) (x : AWord) (e : Ending) (w' : World) : Prop :=
  ∃ v, e = .returned (.tuple #[.agg #[.int .u8 (H.get x).1.k, .int .i64 (H.get x).1.n, v], .int .i64 (H.get x).2]) ∧ St W0 w' (wordsOwn v (H.get x).1.ws :: heapAt p H :: L)

set_option maxRecDepth 100000 in
theorem get_c {W0 w : World} {L : List HProp} {p : Nat} {H : AHeap} {B : Int} (h : St W0 w (heapAt p H :: L)) (ok : H.Ok B) (x : AWord) :
    Calls Try.prog 22 #[.pointer (some ⟨p, 0, none⟩), wv x] w fun e w' => GetPost W0 L p H x e w' := by
  have hmax : H.slots.length ≤ maxLen := by have := ok.few; have := ok.room1; unfold maxLen; omega
  have s0 := ((h.allocC #[Value.int .u8 x.k, .int .i64 x.n, .string x.s, .int .i64 x.g] 36).allocC #[Value.int .u8 0, .int .i64 0, .slice none 0 0] 34).allocC #[Value.int .u8 0, .int .i64 0, .slice none 0 0] 118
  simp only [World.size_alloc] at s0
  by_cases hk : (H.find x).1 = 0
  · obtain ⟨vs, vf, sv, e, hO⟩ := (s0.pull 3).heap_open
    obtain ⟨i, hi⟩ : ∃ i, H.find x = (0, i) := ⟨(H.find x).2, Prod.ext hk rfl⟩
    have hz := AHeap.find_zero hk
    rw [hi] at hz
    simp only at hz
    obtain ⟨v, hs⟩ := sv_get e hz.2.2.2.2.1
    obtain ⟨b, cap, rest, rfl, c1, c2, c3, s⟩ := hO.heap_slots (by rw [sv_len e]; exact Nat.lt_of_le_of_lt (Nat.zero_le _) hz.2.2.2.2.1)
    have hw : (H.slot i).c.ws.length ≤ 1000000 := Nat.le_trans (ok.words _ (AHeap.slot_mem hz.2.2.2.2.1)) (by omega)
    have AT := Lib.hid (at_good77 (w := (((w.alloc (.cells #[Value.int .u8 x.k, .int .i64 x.n, .string x.s, .int .i64 x.g] 36)).alloc (.cells #[Value.int .u8 0, .int .i64 0, .slice none 0 0] 34)).alloc (.cells #[Value.int .u8 0, .int .i64 0, .slice none 0 0] 118)))
      (fun w' hb => find_good e x hi hmax (s.mono hb)) (fun w' hb => take_c ((s.mono hb).pull 4) hs hw (((s.mono hb).pull 3).slots_rd hs)))
    unfold GetPost
    have hg : H.get x = ((H.slot i).c, 0) := by unfold AHeap.get; rw [hi]; rfl
    rw [hg]
    clear h s0 hO s ok hg hi hw hz hk hmax
    have HE := Lib.hid e
    have HS := Lib.hid (And.intro c1 (And.intro c2 c3))
    clear c1 c2 c3 hs e
    unfold wv at *
    go_enter Try.func22, Try.ntmps22
    go_wp2_with (go_at_call 76; refine AT.out.mono ?_; rintro e2 w2 ⟨_, rfl, rfl, v', S⟩; obtain ⟨a', cap', rfl, _⟩ := St.own_form S; have d := (S.pull 1).cell; have r := (S.pull 6).cell; have rf := (S.pull 6).free; have SS := Lib.hid S; clear S)
    have S2 := (((SS.out.pull 6).set 0 (.int .u8 (H.slot i).c.k)).set 1 (.int .i64 (H.slot i).c.n)).set 2 (.slice a' (H.slot i).c.ws.length cap')
    have d2 := S2.cell
    refine bodyPost_ret (v := .tuple #[.agg #[.int .u8 (H.slot i).c.k, .int .i64 (H.slot i).c.n, .slice a' (H.slot i).c.ws.length cap'], .int .i64 0]) (by simp [results, Try.results22, go_sem, d2]) rfl ⟨_, rfl, ?_⟩
    have S3 := St.heap_back HE.out HS.out.1 HS.out.2.1 HS.out.2.2 (S2.tail.push 5).tail
    exact ((S3.pull 1).pull 2).tail
  · obtain ⟨k, hk'⟩ : ∃ k, (H.find x).1 = k := ⟨_, rfl⟩
    have hg : H.get x = (.zero, k) := by unfold AHeap.get; rw [if_neg hk, hk']
    have k0 : k ≠ 0 := fun q => hk (hk'.trans q)
    have AT := Lib.hid (at_bad (q := .pointer (some ⟨p, 0, none⟩)) (x := x) (k := k) (w := (((w.alloc (.cells #[Value.int .u8 x.k, .int .i64 x.n, .string x.s, .int .i64 x.g] 36)).alloc (.cells #[Value.int .u8 0, .int .i64 0, .slice none 0 0] 34)).alloc (.cells #[Value.int .u8 0, .int .i64 0, .slice none 0 0] 118)))
      (beq_eq_false_iff_ne.2 k0) (.func (.func 77) #[.pointer (some ⟨w.heap.size + 1 + 1, 0, none⟩)] #[]) (fun w' hb => find_bad ((s0.pull 3).mono hb) x hk' k0 hmax))
    have HS := Lib.hid s0
    unfold GetPost
    rw [hg]
    clear h s0 ok hg hk hk' k0
    unfold wv at *
    go_enter Try.func22, Try.ntmps22
    go_wp2_with (go_at_call 76; refine AT.out.mono ?_; rintro e2 w2 ⟨rfl, hb⟩; have S := HS.out.mono hb; have d := S.cell; have r := (S.pull 1).cell; have rf := (S.pull 1).free; have SS := Lib.hid S; clear S hb)
    have S2 := (((SS.out.pull 1).set 0 (.int .u8 0)).set 1 (.int .i64 0)).set 2 (.slice none 0 0)
    have d2 := S2.cell
    refine bodyPost_ret (v := .tuple #[.agg #[.int .u8 0, .int .i64 0, .slice none 0 0], .int .i64 k]) (by simp [results, Try.results22, go_sem, d2]) rfl ⟨_, rfl, ?_⟩
    exact S2.tail.tail.tail.own_nil

end Go.Proofs.Ytciciaikajdenaa
/- Set. -/
namespace Go.Proofs.Ytciciaikajdenaa
open Go.RowKit

def SetPost (W0 : World) (pi px po b : Nat) (i : Int) (x : AWord) (flat : Array Value) (sv : List (ASlot × Value)) (M : List HProp) (old : AWord) (k : Int) (v : Value) (w' : World) : Prop :=
  v = .int .i64 k ∧ St W0 w' (cellsB pi #[.int .i64 i] 3 :: cellsB px #[.int .u8 x.k, .int .i64 x.n, .string x.s, .int .i64 x.g] 36 :: cellsB po #[.int .u8 old.k, .int .i64 old.n, .string old.s, .int .i64 old.g] 36 :: cellsB b flat 124 :: slotsW sv :: M)

theorem flat_set4 (x : AWord) (r : List Value) : ∀ (ws : List AWord) (n : Nat), n < ws.length →
    ((((flatW ws ++ r).set (n * 4) (.int .u8 x.k)).set (n * 4 + 1) (.int .i64 x.n)).set (n * 4 + 2) (.string x.s)).set (n * 4 + 3) (.int .i64 x.g) = flatW (ws.set n x) ++ r
  | [], n, h => by simp at h
  | y :: ws, 0, _ => by simp [flatW, wcells]
  | y :: ws, n + 1, h => by
    have ih := flat_set4 x r ws n (by simpa using h)
    have e : ∀ z : List AWord, flatW (y :: z) ++ r = .int .u8 y.k :: .int .i64 y.n :: .string y.s :: .int .i64 y.g :: (flatW z ++ r) := fun z => by simp [flatW, wcells]
    rw [e, List.set_cons_succ, e, ← ih]
    have a0 : (n + 1) * 4 = n * 4 + 1 + 1 + 1 + 1 := by omega
    have a1 : (n + 1) * 4 + 1 = n * 4 + 1 + 1 + 1 + 1 + 1 := by omega
    have a2 : (n + 1) * 4 + 2 = n * 4 + 2 + 1 + 1 + 1 + 1 := by omega
    have a3 : (n + 1) * 4 + 3 = n * 4 + 3 + 1 + 1 + 1 + 1 := by omega
    rw [a3, a2, a1, a0]
    rfl

theorem keep_cell {w w' : World} (hb : Below w.heap.size w w') {a : Addr} {v : Value} (h : w.cell? a = some v) : w'.cell? a = some v := by
  rw [hb.cell (World.block_lt_of_cell? w a h)]; exact h

section
variable {W0 w : World} {pi px po b j : Nat} {i : Int} {x : AWord} {s : ASlot} {v : Value} {sv : List (ASlot × Value)} {rest : List Value} {M : List HProp}

set_option maxRecDepth 100000 in
set_option maxHeartbeats 400000 in
theorem set1_range (h : St W0 w (cellsB pi #[.int .i64 i] 3 :: cellsB px #[.int .u8 x.k, .int .i64 x.n, .string x.s, .int .i64 x.g] 36 :: cellsB po #[.int .u8 0, .int .i64 0, .string ⟨#[]⟩, .int .i64 0] 36 :: cellsB b (sv.flatMap slotCells ++ rest).toArray 124 :: slotsW sv :: M))
    (hs : sv[j]? = some (s, v)) (hi : i < 0 ∨ (s.c.ws.length : Int) ≤ i) :
    Calls Try.prog 80 #[.pointer (some ⟨b, j * 5, none⟩), .pointer (some ⟨pi, 0, none⟩), .pointer (some ⟨px, 0, none⟩), .pointer (some ⟨po, 0, none⟩)] w
      fun e w' => ∃ r, e = .returned r ∧ SetPost W0 pi px po b i x (sv.flatMap slotCells ++ rest).toArray sv M .zero 5 r w' := by
  obtain ⟨a, cap, rfl, _⟩ := St.own_form ((h.pull 4).slots_take hs)
  obtain ⟨_, _, c2, _, _⟩ := slot_cells (h.pull 3) hs
  have d0 := h.cell
  have HH := Lib.hid h
  clear h hs
  by_cases hi0 : i < 0
  · have hd : decide (i < 0) = true := by simpa using hi0
    clear hi
    go_enter Try.func80, Try.ntmps80
    go_wp2
    go_quiet (fail)
    go_wp2
    go_ret
    exact ⟨_, rfl, rfl, HH.out.drewN _⟩
  · have hge : (s.c.ws.length : Int) ≤ i := hi.resolve_left hi0
    have hd : decide (i < 0) = false := by simpa using hi0
    clear hi hi0
    go_enter Try.func80, Try.ntmps80
    go_wp2
    go_quiet (fail)
    go_wp2
    go_ret
    exact ⟨_, rfl, rfl, HH.out.drewN _⟩

set_option maxRecDepth 100000 in
set_option maxHeartbeats 400000 in
theorem set1_arg (h : St W0 w (cellsB pi #[.int .i64 i] 3 :: cellsB px #[.int .u8 x.k, .int .i64 x.n, .string x.s, .int .i64 x.g] 36 :: cellsB po #[.int .u8 0, .int .i64 0, .string ⟨#[]⟩, .int .i64 0] 36 :: cellsB b (sv.flatMap slotCells ++ rest).toArray 124 :: slotsW sv :: M))
    (hs : sv[j]? = some (s, v)) (hi : 0 ≤ i) (hi' : i < s.c.ws.length) (hx : x.ok = false) :
    Calls Try.prog 80 #[.pointer (some ⟨b, j * 5, none⟩), .pointer (some ⟨pi, 0, none⟩), .pointer (some ⟨px, 0, none⟩), .pointer (some ⟨po, 0, none⟩)] w
      fun e w' => ∃ r, e = .returned r ∧ SetPost W0 pi px po b i x (sv.flatMap slotCells ++ rest).toArray sv M .zero 2 r w' := by
  obtain ⟨a, cap, rfl, _⟩ := St.own_form ((h.pull 4).slots_take hs)
  obtain ⟨_, _, c2, _, _⟩ := slot_cells (h.pull 3) hs
  have d0 := h.cell
  have d1 := (h.pull 1).cell
  have HH := Lib.hid h
  have HW := Lib.hid (fun w => word_c x w)
  have HX := Lib.hid hx
  clear h hs hx
  unfold wv at HW
  have hd : decide (i < 0) = false := by simpa using hi
  have hd2 : decide ((s.c.ws.length : Int) ≤ i) = false := by simpa using hi'
  go_enter Try.func80, Try.ntmps80
  go_wp2
  go_quiet (fail)
  go_wp2_with (go_at_call 72; refine (HW.out _).mono ?_; rintro e w' ⟨rfl, hb2⟩; rw [HX.out])
  go_ret
  exact ⟨_, rfl, rfl, (HH.out.drewN _).mono hb2⟩

set_option maxRecDepth 100000 in
set_option maxHeartbeats 400000 in
theorem set1_ok (h : St W0 w (cellsB pi #[.int .i64 i] 3 :: cellsB px #[.int .u8 x.k, .int .i64 x.n, .string x.s, .int .i64 x.g] 36 :: cellsB po #[.int .u8 0, .int .i64 0, .string ⟨#[]⟩, .int .i64 0] 36 :: cellsB b (sv.flatMap slotCells ++ rest).toArray 124 :: slotsW sv :: M))
    (hs : sv[j]? = some (s, v)) (hi : 0 ≤ i) (hi' : i < s.c.ws.length) (hx : x.ok = true) :
    Calls Try.prog 80 #[.pointer (some ⟨b, j * 5, none⟩), .pointer (some ⟨pi, 0, none⟩), .pointer (some ⟨px, 0, none⟩), .pointer (some ⟨po, 0, none⟩)] w
      fun e w' => ∃ r, e = .returned r ∧ SetPost W0 pi px po b i x (sv.flatMap slotCells ++ rest).toArray (sv.set j ({ s with c := s.c.put i.toNat x }, v)) M (s.c.ws.getD i.toNat .zero) 0 r w' := by
  obtain ⟨n, rfl⟩ := Int.eq_ofNat_of_zero_le hi
  have hn : n < s.c.ws.length := by omega
  have hj : j < sv.length := (List.getElem?_eq_some_iff.1 hs).1
  have ht := (h.pull 4).slots_take hs
  obtain ⟨hl, hc⟩ := St.own_cases ht
  obtain ⟨bw, cap, wr, rfl, k1, k2, k3, t⟩ := hc.resolve_left (fun q => by have := q.2.1; omega)
  obtain ⟨y, hy⟩ : ∃ y, s.c.ws[n]? = some y := ⟨_, List.getElem?_eq_getElem hn⟩
  obtain ⟨f0, f1, f2, f3⟩ := rd_word (St.own_rd ht) hy
  have fw := t.free
  obtain ⟨_, _, c2, _, _⟩ := slot_cells (h.pull 3) hs
  have d0 := h.cell
  have d1 := (h.pull 1).cell
  have d2 := (h.pull 2).cell
  have e2 := (h.pull 2).free
  have HT := Lib.hid t
  have HW := Lib.hid (fun w => word_c x w)
  have HX := Lib.hid hx
  clear h hx ht
  simp only [Nat.zero_add] at c2 f0 f1 f2 f3
  unfold wv at HW
  have hd : decide ((n : Int) < 0) = false := by simp
  have hd2 : decide ((s.c.ws.length : Int) ≤ (n : Int)) = false := by simpa using hi'
  go_enter Try.func80, Try.ntmps80
  go_wp2
  go_quiet (fail)
  go_wp2_with (go_at_call 72; refine (HW.out _).mono ?_; rintro e w' ⟨rfl, hb2⟩; rw [HX.out]; have hb := (below_drewN _).trans hb2; have T := (HT.out.drewN _).mono hb2; clear hb2; replace f0 := keep_cell hb f0; replace f1 := keep_cell hb f1; replace f2 := keep_cell hb f2; replace f3 := keep_cell hb f3; replace c2 := keep_cell hb c2; clear fw d0 d1 d2 e2; have fw := T.free; have d0 := (T.pull 2).cell; have d1 := (T.pull 3).cell; have d2 := (T.pull 4).cell; have e2 := (T.pull 4).free; have n1 := ((T.pull 4).pull 1).ne.symm; have n2 := ((T.pull 4).pull 3).ne.symm; have n3 := ((T.pull 4).pull 4).ne.symm; have n4 := ((T.pull 4).pull 5).ne.symm; have TT := Lib.hid T; clear T hb)
  go_region
  go_wp2
  go_ret
  have T2 := ((((TT.out.pull 4).set 0 (.int .u8 y.k)).set 1 (.int .i64 y.n)).set 2 (.string y.s)).set 3 (.int .i64 y.g)
  have T3 := ((((T2.pull 1).set (n * 4) (.int .u8 x.k)).set (n * 4 + 1) (.int .i64 x.n)).set (n * 4 + 2) (.string x.s)).set (n * 4 + 3) (.int .i64 x.g)
  simp only [List.setIfInBounds_toArray] at T3
  rw [flat_set4 x wr s.c.ws n hn] at T3
  have hw : (flatW (s.c.ws.set n x)).length = s.c.ws.length * 4 := by rw [flatW_len, List.length_set]
  have T4 := T3.own_mk (n := s.c.ws.length) (cap := cap) (sz := 4) hw k1 k2 (by rw [hw]; rw [hl] at k3; exact k3)
  have hlen : (s.c.put n x).ws.length = s.c.ws.length := by simp [ACell.put]
  have T5 := (T4.pull 2).pull 1
  have hy' : s.c.ws.getD (n : Int).toNat .zero = y := by simp [List.getD, hy]
  rw [hy']
  have T6 := St.slots_set (s := { s with c := s.c.put n x }) (v := .slice (some ⟨bw, 0, none⟩) s.c.ws.length cap) (sv := sv) (i := j) (w := _) (W0 := W0) (L := _) (by
    show St W0 _ (ownS 36 4 _ (s.c.put n x).ws.length _ :: _)
    rw [hlen]; exact T5) hj
  exact ⟨_, rfl, rfl, ((T6.push 4).push 2).drew⟩
end

end Go.Proofs.Ytciciaikajdenaa
/- Set. -/
namespace Go.Proofs.Ytciciaikajdenaa
open Go.RowKit

theorem flat_set_same {α : Type} {f : α → List Value} : ∀ {l : List α} {i : Nat} {x y : α}, l[i]? = some x → f y = f x → (l.set i y).flatMap f = l.flatMap f
  | [], i, x, y, h, _ => by simp at h
  | a :: l, 0, x, y, h, e => by simp at h; subst h; simp [e]
  | a :: l, i + 1, x, y, h, e => by simp [flat_set_same (l := l) (i := i) (by simpa using h) e]

theorem slots_map_set {sv : List (ASlot × Value)} {H : AHeap} (e : sv.map Prod.fst = H.slots) (i : Nat) (s : ASlot) (v : Value) : (sv.set i (s, v)).map Prod.fst = H.slots.set i s := by
  rw [List.map_set, e]

def SetCPost (W0 : World) (L : List HProp) (p : Nat) (r : (AWord × Int) × AHeap) (e : Ending) (w' : World) : Prop :=
  e = .returned (.tuple #[wv r.1.1, .int .i64 r.1.2]) ∧ St W0 w' (heapAt p r.2 :: L)

theorem AHeap.Ok.max {H : AHeap} {B : Int} (ok : H.Ok B) : H.slots.length ≤ maxLen := by have := ok.few; have := ok.room1; unfold maxLen; omega

/-- The end of Set, whatever the closure did. -/
def SetMid (W0 : World) (n : Nat) (L : List HProp) (p : Nat) (i : Int) (x y : AWord) (r : (AWord × Int) × AHeap) (e : Ending) (w' : World) : Prop :=
  e = .returned (.int .i64 r.1.2) ∧ St W0 w' (cellsB (n + 4) #[.int .u8 r.1.1.k, .int .i64 r.1.1.n, .string r.1.1.s, .int .i64 r.1.1.g] 36 :: cellsB (n + 3) #[.int .u8 0, .int .i64 0, .string ⟨#[]⟩, .int .i64 0] 36 ::
    cellsB (n + 2) #[.int .u8 y.k, .int .i64 y.n, .string y.s, .int .i64 y.g] 36 :: cellsB (n + 1) #[.int .i64 i] 3 :: cellsB n #[.int .u8 x.k, .int .i64 x.n, .string x.s, .int .i64 x.g] 36 :: heapAt p r.2 :: L)

def setWorld (w : World) (i : Int) (x y : AWord) : World := ((((w.alloc (.cells #[Value.int .u8 x.k, .int .i64 x.n, .string x.s, .int .i64 x.g] 36)).alloc (.cells #[Value.int .i64 i] 3)).alloc (.cells #[Value.int .u8 y.k, .int .i64 y.n, .string y.s, .int .i64 y.g] 36)).alloc (.cells #[Value.int .u8 0, .int .i64 0, .string ⟨#[]⟩, .int .i64 0] 36)).alloc (.cells #[Value.int .u8 0, .int .i64 0, .string ⟨#[]⟩, .int .i64 0] 36)

theorem set_mid {W0 w : World} {L : List HProp} {p : Nat} {H : AHeap} {B : Int} (h : St W0 w (heapAt p H :: L)) (ok : H.Ok B) (x : AWord) (i : Int) (y : AWord) :
    Calls Try.prog 76 #[.pointer (some ⟨p, 0, none⟩), wv x, .func (.func 80) #[] #[.pointer (some ⟨w.heap.size + 1, 0, none⟩), .pointer (some ⟨w.heap.size + 2, 0, none⟩), .pointer (some ⟨w.heap.size + 4, 0, none⟩)]] (setWorld w i x y)
      fun e w' => SetMid W0 w.heap.size L p i x y (H.set x i y) e w' := by
  have s0 := ((((h.allocC #[Value.int .u8 x.k, .int .i64 x.n, .string x.s, .int .i64 x.g] 36).allocC #[Value.int .i64 i] 3).allocC #[Value.int .u8 y.k, .int .i64 y.n, .string y.s, .int .i64 y.g] 36).allocC #[Value.int .u8 0, .int .i64 0, .string ⟨#[]⟩, .int .i64 0] 36).allocC #[Value.int .u8 0, .int .i64 0, .string ⟨#[]⟩, .int .i64 0] 36
  simp only [World.size_alloc, Nat.add_assoc, Nat.reduceAdd] at s0
  by_cases hk : (H.find x).1 = 0
  · obtain ⟨j, hj⟩ : ∃ j, H.find x = (0, j) := ⟨(H.find x).2, Prod.ext hk rfl⟩
    obtain ⟨vs, vf, sv, e, hO⟩ := (s0.pull 5).heap_open
    have hz := AHeap.find_zero hk
    rw [hj] at hz
    simp only at hz
    have hlt := hz.2.2.2.2.1
    obtain ⟨v, hs⟩ := sv_get e hlt
    obtain ⟨b, cap, rest, rfl, c1, c2, c3, s⟩ := hO.heap_slots (by rw [sv_len e]; exact Nat.lt_of_le_of_lt (Nat.zero_le _) hlt)
    -- [b, p, own, slotsW, old, res, y, i, x, L]
    have order : ∀ w', Below (setWorld w i x y).heap.size (setWorld w i x y) w' → St W0 w' (cellsB (w.heap.size + 1) #[.int .i64 i] 3 :: cellsB (w.heap.size + 2) #[.int .u8 y.k, .int .i64 y.n, .string y.s, .int .i64 y.g] 36 :: cellsB (w.heap.size + 4) #[.int .u8 0, .int .i64 0, .string ⟨#[]⟩, .int .i64 0] 36 :: cellsB b (sv.flatMap slotCells ++ rest).toArray 124 :: slotsW sv :: cellsB p #[.int .i64 H.room, .int .i64 H.most, .slice (some ⟨b, 0, none⟩) sv.length cap, vf] 109 :: ownS 3 1 vf H.free.length (intsV H.free) :: cellsB (w.heap.size + 3) #[.int .u8 0, .int .i64 0, .string ⟨#[]⟩, .int .i64 0] 36 :: cellsB w.heap.size #[.int .u8 x.k, .int .i64 x.n, .string x.s, .int .i64 x.g] 36 :: L) := by
      intro w' hb
      have t := s.mono hb
      -- b first, then slotsW behind, then the boxes
      exact ((((t.pull 3).pull 1).pull 4).pull 6).pull 7
    have back : ∀ {w' : World} {sv' : List (ASlot × Value)} {H' : AHeap} {old : AWord}, sv'.map Prod.fst = H'.slots → sv'.length = sv.length → sv'.flatMap slotCells = sv.flatMap slotCells → H'.room = H.room → H'.most = H.most → H'.free = H.free →
        St W0 w' (cellsB (w.heap.size + 1) #[.int .i64 i] 3 :: cellsB (w.heap.size + 2) #[.int .u8 y.k, .int .i64 y.n, .string y.s, .int .i64 y.g] 36 :: cellsB (w.heap.size + 4) #[.int .u8 old.k, .int .i64 old.n, .string old.s, .int .i64 old.g] 36 :: cellsB b (sv.flatMap slotCells ++ rest).toArray 124 :: slotsW sv' :: cellsB p #[.int .i64 H.room, .int .i64 H.most, .slice (some ⟨b, 0, none⟩) sv.length cap, vf] 109 :: ownS 3 1 vf H.free.length (intsV H.free) :: cellsB (w.heap.size + 3) #[.int .u8 0, .int .i64 0, .string ⟨#[]⟩, .int .i64 0] 36 :: cellsB w.heap.size #[.int .u8 x.k, .int .i64 x.n, .string x.s, .int .i64 x.g] 36 :: L) →
        St W0 w' (cellsB (w.heap.size + 4) #[.int .u8 old.k, .int .i64 old.n, .string old.s, .int .i64 old.g] 36 :: cellsB (w.heap.size + 3) #[.int .u8 0, .int .i64 0, .string ⟨#[]⟩, .int .i64 0] 36 :: cellsB (w.heap.size + 2) #[.int .u8 y.k, .int .i64 y.n, .string y.s, .int .i64 y.g] 36 :: cellsB (w.heap.size + 1) #[.int .i64 i] 3 :: cellsB w.heap.size #[.int .u8 x.k, .int .i64 x.n, .string x.s, .int .i64 x.g] 36 :: heapAt p H' :: L) := by
      intro w' sv' H' old e1 e2 e3 e4 e5 e6 T
      rw [← e3, ← e2, ← e4, ← e5, ← e6] at T
      have T2 := St.heap_back e1 (by rw [e2]; exact c1) c2 (by rw [e2]; exact c3) ((((T.pull 4).pull 6).pull 6).pull 6)
      exact ((((T2.pull 5).pull 2).pull 3).pull 5).pull 5
    have hf : ∀ w', Below (setWorld w i x y).heap.size (setWorld w i x y) w' → Calls Try.prog 115 #[.pointer (some ⟨p, 0, none⟩), wv x] w' fun e w'' => e = .returned (.tuple #[.pointer (some ⟨b, j * 5, none⟩), .int .i64 0]) ∧ Below w'.heap.size w' w'' :=
      fun w' hb => find_good e x hj ok.max (s.mono hb)
    by_cases hr : i < 0 ∨ ((H.slot j).c.ws.length : Int) ≤ i
    · have hg : H.set x i y = ((.zero, 5), H) := by unfold AHeap.set; rw [hj]; simp only [ne_eq, not_true_eq_false, if_false, hr, if_true]
      rw [hg]
      refine (at_good80 hf (fun w' hb => set1_range (order w' hb) hs hr)).mono ?_
      rintro e' w' ⟨_, rfl, rfl, T⟩
      exact ⟨rfl, back (old := .zero) e rfl rfl rfl rfl rfl T⟩
    · have hr' := hr
      simp only [not_or, Int.not_lt, Int.not_le] at hr'
      cases hy : y.ok
      · have hg : H.set x i y = ((.zero, 2), H) := by unfold AHeap.set; rw [hj]; simp only [ne_eq, not_true_eq_false, if_false, hr, hy, if_true]
        rw [hg]
        refine (at_good80 hf (fun w' hb => set1_arg (order w' hb) hs hr'.1 hr'.2 hy)).mono ?_
        rintro e' w' ⟨_, rfl, rfl, T⟩
        exact ⟨rfl, back (old := .zero) e rfl rfl rfl rfl rfl T⟩
      · have hg : H.set x i y = (((H.slot j).c.ws.getD i.toNat .zero, 0), { H with slots := H.slots.set j { H.slot j with c := (H.slot j).c.put i.toNat y } }) := by
          unfold AHeap.set; rw [hj]; simp only [ne_eq, not_true_eq_false, if_false, hr, hy, Bool.true_eq_false]
        rw [hg]
        refine (at_good80 hf (fun w' hb => set1_ok (order w' hb) hs hr'.1 hr'.2 hy)).mono ?_
        rintro e' w' ⟨_, rfl, rfl, T⟩
        exact ⟨rfl, back (slots_map_set e j _ v) (by simp) (flat_set_same hs rfl) rfl rfl rfl T⟩
  · obtain ⟨k, hk'⟩ : ∃ k, (H.find x).1 = k := ⟨_, rfl⟩
    have k0 : k ≠ 0 := fun q => hk (hk'.trans q)
    have hg : H.set x i y = ((.zero, k), H) := by unfold AHeap.set; rw [if_pos hk, hk']
    rw [hg]
    refine (at_bad (w := setWorld w i x y) (x := x) (beq_eq_false_iff_ne.2 k0) _ (fun w' hb => find_bad ((s0.pull 5).mono hb) x hk' k0 ok.max)).mono ?_
    rintro e w' ⟨rfl, hb⟩
    exact ⟨rfl, s0.mono hb⟩

set_option maxRecDepth 100000 in
theorem set_c {W0 w : World} {L : List HProp} {p : Nat} {H : AHeap} {B : Int} (h : St W0 w (heapAt p H :: L)) (ok : H.Ok B) (x : AWord) (i : Int) (y : AWord) :
    Calls Try.prog 27 #[.pointer (some ⟨p, 0, none⟩), wv x, .int .i64 i, wv y] w fun e w' => SetCPost W0 L p (H.set x i y) e w' := by
  have M := Lib.hid (set_mid h ok x i y)
  unfold SetCPost
  generalize H.set x i y = r at *
  clear h ok
  unfold wv setWorld at *
  go_enter Try.func27, Try.ntmps27
  go_wp2_with (go_at_call 76; refine M.out.mono ?_; rintro e2 w2 ⟨rfl, S⟩; have d0 := S.cell; have d1 := (S.pull 1).cell; have f1 := (S.pull 1).free; have SS := Lib.hid S; clear S)
  simp only [Nat.add_assoc, Nat.reduceAdd]
  have S2 := ((((SS.out.pull 1).set 0 (.int .u8 r.1.1.k)).set 1 (.int .i64 r.1.1.n)).set 2 (.string r.1.1.s)).set 3 (.int .i64 r.1.1.g)
  have d2 := S2.cell
  refine bodyPost_ret (v := .tuple #[.agg #[.int .u8 r.1.1.k, .int .i64 r.1.1.n, .string r.1.1.s, .int .i64 r.1.1.g], .int .i64 r.1.2]) (by simp [results, Try.results27, go_sem, d2]) rfl ⟨rfl, ?_⟩
  exact S2.tail.tail.tail.tail.tail

end Go.Proofs.Ytciciaikajdenaa
