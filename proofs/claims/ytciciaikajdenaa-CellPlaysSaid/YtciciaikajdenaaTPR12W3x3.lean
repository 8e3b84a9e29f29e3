/- The heap of package heap in memory; Live, Left, Most, New. -/
import Derived.Test.YtciciaikajdenaaTPR12N1x3
namespace Go.Proofs.Ytciciaikajdenaa
open Go.RowKit

/-- A slot's five cells, its words' slice beside it. -/
def slotCells (x : ASlot × Value) : List Value := [.int .u8 x.1.c.k, .int .i64 x.1.c.n, x.2, .int .i64 x.1.gen, .bool x.1.lives]
def slotOwn (x : ASlot × Value) : HProp := ownS 36 4 x.2 x.1.c.ws.length (flatW x.1.c.ws)
def intsV (l : List Nat) : List Value := l.map fun (i : Nat) => Value.int .i64 (i : Int)
theorem slotCells_len (x : ASlot × Value) : (slotCells x).length = 5 := rfl

/-- All slots' words. -/
def slotsW (sv : List (ASlot × Value)) : HProp := starL (sv.map slotOwn)

def heapL (p : Nat) (H : AHeap) (vs vf : Value) (sv : List (ASlot × Value)) : List HProp :=
  [cellsB p #[.int .i64 H.room, .int .i64 H.most, vs, vf] 109, ownS 124 5 vs sv.length (sv.flatMap slotCells), ownS 3 1 vf H.free.length (intsV H.free), slotsW sv]

def heapAt (p : Nat) (H : AHeap) : HProp := fun f => ∃ (vs vf : Value) (sv : List (ASlot × Value)), sv.map Prod.fst = H.slots ∧ starL (heapL p H vs vf sv) f

section
variable {W0 w : World} {L : List HProp} {p : Nat} {H : AHeap}

theorem St.heap_open (h : St W0 w (heapAt p H :: L)) : ∃ vs vf sv, sv.map Prod.fst = H.slots ∧ St W0 w (heapL p H vs vf sv ++ L) := by
  obtain ⟨vs, h⟩ := h.ex
  obtain ⟨vf, h⟩ := h.ex
  obtain ⟨sv, h⟩ := h.ex
  obtain ⟨e, h⟩ := h.pure
  exact ⟨vs, vf, sv, e, h.flat⟩

theorem St.heap_close {vs vf : Value} {sv : List (ASlot × Value)} (e : sv.map Prod.fst = H.slots) (h : St W0 w (heapL p H vs vf sv ++ L)) : St W0 w (heapAt p H :: L) :=
  h.unflat.head fun _ s => ⟨vs, vf, sv, e, s⟩

theorem sv_len {sv : List (ASlot × Value)} (e : sv.map Prod.fst = H.slots) : sv.length = H.slots.length := by rw [← e]; simp

/-- What a reader of the heap's own four cells wants. -/
theorem St.heap_cells (h : St W0 w (heapAt p H :: L)) : ∃ a cap f fcap, (∀ o, w.cell? ⟨p, o, none⟩ = #[Value.int .i64 H.room, .int .i64 H.most, .slice a H.slots.length cap, .slice f H.free.length fcap][o]?) ∧ H.slots.length ≤ maxLen ∧ H.free.length ≤ maxLen := by
  obtain ⟨vs, vf, sv, e, h⟩ := h.heap_open
  have hc := h.cell
  have h1 := (h.pull 1).own_cases
  have h2 := (h.pull 2).own_cases
  rw [sv_len e] at h1
  obtain ⟨a, cap, rfl, ha⟩ : ∃ a cap, vs = .slice a H.slots.length cap ∧ H.slots.length ≤ maxLen := by
    rcases h1.2 with ⟨⟨_, rfl⟩, e, _⟩ | ⟨b, cap, r, rfl, h3, h4, _⟩
    · exact ⟨_, _, by rw [e], by rw [e]; exact Nat.zero_le _⟩
    · exact ⟨_, _, rfl, Nat.le_trans h3 h4⟩
  obtain ⟨f, fcap, rfl, hf⟩ : ∃ a cap, vf = .slice a H.free.length cap ∧ H.free.length ≤ maxLen := by
    rcases h2.2 with ⟨⟨_, rfl⟩, e, _⟩ | ⟨b, cap, r, rfl, h3, h4, _⟩
    · exact ⟨_, _, by rw [e], by rw [e]; exact Nat.zero_le _⟩
    · exact ⟨_, _, rfl, Nat.le_trans h3 h4⟩
  exact ⟨a, cap, f, fcap, hc, ha, hf⟩

theorem erase_perm {α : Type} {sv : List α} {i : Nat} {x : α} (hs : sv[i]? = some x) : sv.Perm (x :: sv.eraseIdx i) := by
  induction sv generalizing i with
  | nil => simp at hs
  | cons a l ih =>
    cases i with
    | zero => simp at hs; subst hs; exact .refl _
    | succ i => exact ((ih (by simpa using hs)).cons a).trans (.swap _ _ _)

theorem St.slots_take {sv : List (ASlot × Value)} {i : Nat} {s : ASlot} {v : Value} (h : St W0 w (slotsW sv :: L)) (hs : sv[i]? = some (s, v)) : St W0 w (ownS 36 4 v s.c.ws.length (flatW s.c.ws) :: slotsW (sv.eraseIdx i) :: L) := by
  have h1 := St.flat (L := sv.map slotOwn) h
  have h2 := h1.perm (((erase_perm hs).map slotOwn).append_right L)
  simp only [List.map_cons, List.cons_append] at h2
  exact (((St.unflat (L := slotOwn (s, v) :: (sv.eraseIdx i).map slotOwn) (M := L) h2).flat).conv fun f s => starL_cons (fun _ y => y) (fun _ t => starL_unflat t) s)

theorem St.slots_join {sv tv : List (ASlot × Value)} {x : ASlot × Value} (h : St W0 w (slotOwn x :: slotsW sv :: L)) (p : tv.Perm (x :: sv)) : St W0 w (slotsW tv :: L) := by
  have h1 : St W0 w (slotOwn x :: (sv.map slotOwn ++ L)) := h.conv fun f s => starL_cons (fun _ y => y) (fun _ t => starL_flat t) s
  have h2 := h1.perm (M := tv.map slotOwn ++ L) ((p.map slotOwn).symm.append_right L)
  exact St.unflat (L := tv.map slotOwn) h2

theorem set_perm {α : Type} {sv : List α} {i : Nat} {x : α} (hi : i < sv.length) : (sv.set i x).Perm (x :: sv.eraseIdx i) := by
  have h1 : (sv.set i x)[i]? = some x := by simp [hi]
  have h2 := erase_perm h1
  rwa [List.eraseIdx_set_eq] at h2

theorem St.slots_set {sv : List (ASlot × Value)} {i : Nat} {s : ASlot} {v : Value} (h : St W0 w (ownS 36 4 v s.c.ws.length (flatW s.c.ws) :: slotsW (sv.eraseIdx i) :: L)) (hi : i < sv.length) : St W0 w (slotsW (sv.set i (s, v)) :: L) :=
  St.slots_join (x := (s, v)) h (set_perm hi)

theorem St.slots_snoc {sv : List (ASlot × Value)} {s : ASlot} {v : Value} (h : St W0 w (ownS 36 4 v s.c.ws.length (flatW s.c.ws) :: slotsW sv :: L)) : St W0 w (slotsW (sv ++ [(s, v)]) :: L) :=
  St.slots_join (x := (s, v)) h (List.perm_append_comm (l₁ := sv) (l₂ := [(s, v)]))

theorem St.slots_nil (h : St W0 w L) : St W0 w (slotsW [] :: L) :=
  h.conv fun f s => ⟨fun _ => none, f, trivial, s, fun _ => .inl rfl, (fun _ _ e => by cases e), Le.refl _⟩

theorem St.slots_rd {sv : List (ASlot × Value)} {i : Nat} {s : ASlot} {v : Value} (h : St W0 w (slotsW sv :: L)) (hs : sv[i]? = some (s, v)) : rd w 4 v s.c.ws.length (flatW s.c.ws) :=
  St.own_rd (h.slots_take hs)

theorem live_c (h : St W0 w (heapAt p H :: L)) :
    Calls Try.prog 33 #[.pointer (some ⟨p, 0, none⟩)] w fun e w' => e = .returned (.int .i64 H.live) ∧ ∃ n, w' = w.drewN n := by
  obtain ⟨a, cap, f, fcap, hc, h1, h2⟩ := h.heap_cells
  clear h
  unfold maxLen at h1 h2
  unfold AHeap.live
  go_enter Try.func33, Try.ntmps33
  go_wp2
  go_quiet (fail)
  go_wp2
  go_ret
  exact ⟨rfl, _, rfl⟩

theorem left_c {B : Int} (h : St W0 w (heapAt p H :: L)) (ok : H.Ok B) :
    Calls Try.prog 35 #[.pointer (some ⟨p, 0, none⟩)] w fun e w' => e = .returned (.int .i64 (H.room - H.live)) ∧ ∃ n, w' = w.drewN n := by
  have HL := Lib.hid (fun n => live_c (h.drewN n))
  obtain ⟨a, cap, f, fcap, hc, h1, h2⟩ := h.heap_cells
  have r0 := ok.room0
  have r1 := ok.room1
  have l0 : 0 ≤ H.live := by rw [ok.live_eq]; omega
  have l1 : H.live ≤ 100000 := by rw [ok.live_eq]; have := countLive_le H.slots; have := ok.few; omega
  clear h ok
  go_enter Try.func35, Try.ntmps35
  go_wp2
  go_quiet ((go_at_call 33; exact Calls.quiet_of (HL.out _)))
  go_wp2
  go_ret
  exact ⟨rfl, _, rfl⟩

theorem most_c (h : St W0 w (heapAt p H :: L)) :
    Calls Try.prog 36 #[.pointer (some ⟨p, 0, none⟩)] w fun e w' => e = .returned (.int .i64 H.most) ∧ w' = w := by
  obtain ⟨a, cap, f, fcap, hc, h1, h2⟩ := h.heap_cells
  clear h
  go_enter Try.func36, Try.ntmps36
  go_wp2
  go_ret
  exact ⟨rfl, rfl⟩

end
end Go.Proofs.Ytciciaikajdenaa
/- New, copied. -/
namespace Go.Proofs.Ytciciaikajdenaa
open Go.RowKit

def NewPost (room : Int) (w : World) (e : Ending) (w' : World) : Prop :=
  ∃ p, e = .returned (.tuple #[.pointer (some ⟨p, 0, none⟩), .int .i64 0]) ∧ St w w' [heapAt p (AHeap.new room)]

theorem new_ok (room : Int) (w : World) (h0 : 0 ≤ room) (h1 : room ≤ 100000) : Calls Try.prog 15 #[.int .i64 room] w (NewPost room w) := by
  go_enter Try.func15, Try.ntmps15
  go_wp2
  go_ret2
  refine ⟨_, rfl, ?_⟩
  have s := (St.refl w).allocC #[Value.int .i64 room, .int .i64 0, .slice none 0 0, .slice none 0 0] 109
  refine St.heap_close (L := []) (sv := []) (vs := .slice none 0 0) (vf := .slice none 0 0) rfl ?_
  exact ((((s.slots_nil.push 1).own_nil (T := 3) (sz := 1)).push 1).own_nil (T := 124) (sz := 5)).push 1

theorem new_bad (room : Int) (w : World) (h : room < 0 ∨ 100000 < room) : Calls Try.prog 15 #[.int .i64 room] w fun e w' => e = .returned (.tuple #[.pointer none, .int .i64 2]) ∧ w' = w := by
  rcases h with h | h
  · go_enter Try.func15, Try.ntmps15
    go_wp2
    go_ret2
    exact ⟨rfl, rfl⟩
  · have h' : ¬ room < 0 := by omega
    go_enter Try.func15, Try.ntmps15
    go_wp2
    go_ret2
    exact ⟨rfl, rfl⟩

theorem info36 : (Try.prog.info? 36).map (fun i => (i.zero, i.size, i.bytes)) = some (some (.agg #[.int .u8 0, .int .i64 0, .string ⟨#[]⟩, .int .i64 0]), 4, 40) := by kernel_rfl

def wordsOwn (v : Value) (ws : List AWord) : HProp := ownS 36 4 v ws.length (flatW ws)

def CopiedPost (c : ACell) (w : World) (e : Ending) (w' : World) : Prop := ∃ v, e = .returned (cv c v) ∧ St w w' [wordsOwn v c.ws]

theorem one_flatW (ws : List AWord) : ∀ u ∈ flatW ws, u.oneCell' = true := by
  intro u hu
  unfold flatW at hu
  obtain ⟨x, _, hx⟩ := List.mem_flatMap.1 hu
  simp [wcells] at hx
  rcases hx with rfl | rfl | rfl | rfl <;> rfl

set_option maxRecDepth 100000 in
set_option maxHeartbeats 400000 in
theorem copied_some (c : ACell) (a : Option Addr) (cap : Nat) (w : World) (hm : c.ws.length ≤ 1000000) (h : rd w 4 (.slice a c.ws.length cap) c.ws.length (flatW c.ws)) :
    Calls Try.prog 82 #[cv c (.slice a c.ws.length cap)] w fun e w' => CopiedPost c w e w' := by
  have s0 := ((St.refl w).allocC #[Value.int .u8 c.k, .int .i64 c.n, .slice a c.ws.length cap] 34).allocC #[Value.int .u8 0, .int .i64 0, .slice none 0 0] 34
  simp only [World.size_alloc] at s0
  obtain ⟨i, hi, hz0, hz1, hz2⟩ := info_parts info36
  have A := Lib.hid fun o rest ops Q x => wpList_append_st (P := Try.prog) (o := o) (rest := rest) (ops := ops) (Q := Q) (a := x) (s0.own_nil (T := 36) (sz := 4)) (h.st s0) (one_flatW _) hi hz0 hz1 hz2 rfl (by unfold maxLen; omega) (by omega) Try.underlying32
  clear s0 h hi hz0 hz1 hz2
  unfold cv
  go_enter Try.func82, Try.ntmps82
  go_wp2_with (at_builtin; refine A.out _ _ _ _ _ _ _ rfl rfl rfl rfl ?_; intro v' w1 S1 _; obtain ⟨a', cap', rfl, hcap⟩ := S1.own_form; have c1 := (S1.pull 2).cell; have f1 := (S1.pull 2).free; have c2 := (S1.pull 1).cell; have f2 := (S1.pull 1).free; simp only [Nat.zero_add, List.nil_append] at hcap S1; have S2 := Lib.hid S1; clear S1)
  have S3 := ((((((((S2.out.own_cut).pull 2).set 2 (.slice a' c.ws.length cap')).set 2 (.slice a' c.ws.length c.ws.length)).pull 2).set 0 (.int .u8 c.k)).set 1 (.int .i64 c.n)).set 2 (.slice a' c.ws.length c.ws.length))
  have c3 := S3.cell
  refine bodyPost_ret (v := cv c (.slice a' c.ws.length c.ws.length)) (by simp [results, Try.results82, go_sem, c3, cv]) rfl ⟨_, rfl, ?_⟩
  exact (S3.pull 2).fst

theorem copied_c (c : ACell) (v : Value) (w : World) (hm : c.ws.length ≤ 1000000) (h : rd w 4 v c.ws.length (flatW c.ws)) :
    Calls Try.prog 82 #[cv c v] w fun e w' => CopiedPost c w e w' := by
  rcases h.2 with ⟨⟨_, _, rfl⟩, e⟩ | ⟨b, off, cap, rfl, _⟩
  · have h' := copied_some c _ _ w hm (by rw [e] at h ⊢; exact h)
    rw [e] at h'; exact h'
  · exact copied_some c _ _ w hm h

end Go.Proofs.Ytciciaikajdenaa
/- find, and at with a call of what it is handed. -/
namespace Go.Proofs.Ytciciaikajdenaa
open Go.RowKit

section
variable {W0 w : World} {L : List HProp} {p : Nat} {H : AHeap}

theorem below_box {w w' : World} {o : Obj} (h : Below (w.alloc o).heap.size (w.alloc o) w') : Below w.heap.size w w' :=
  ((Below.refl _ _).alloc (Nat.le_refl _) _).trans (h.mono (by simp))

theorem below_drewN {B : Nat} {w : World} (n : Nat) : Below B w (w.drewN n) := ⟨rfl, rfl, rfl, Nat.le_refl _, fun _ _ => rfl⟩

/-- A block known before reads as before. -/
theorem old_cells {w w' : World} {p : Nat} {A : Array Value} (hb : Below w.heap.size w w') (hc : ∀ o, w.cell? ⟨p, o, none⟩ = A[o]?) (h0 : 0 < A.size) : ∀ o, w'.cell? ⟨p, o, none⟩ = A[o]? := fun o => by
  rw [hb.cell (p := ⟨p, o, none⟩), hc]
  exact World.block_lt_of_cell? w ⟨p, 0, none⟩ ((hc 0).trans (Array.getElem?_eq_getElem h0))

/-- A new block reads as it was made, behind a call that makes memory alone. -/
theorem box_cells {w w' : World} {A : Array Value} {T : TypeId} (hb : Below (w.alloc (.cells A T)).heap.size (w.alloc (.cells A T)) w') : ∀ o, w'.cell? ⟨w.heap.size, o, none⟩ = A[o]? := fun o => by
  rw [hb.cell (p := ⟨w.heap.size, o, none⟩) (by simp), World.cell?_alloc_new]

theorem find_kind (x : AWord) (hk : x.k ≠ 5 ∨ x.ok = false) :
    Calls Try.prog 115 #[.pointer (some ⟨p, 0, none⟩), wv x] w fun e w' => e = .returned (.tuple #[.pointer none, .int .i64 2]) ∧ Below w.heap.size w w' := by
  have HW := Lib.hid (fun w => word_c x w)
  unfold wv at *
  by_cases h5 : x.k = 5
  · have ho := hk.resolve_left (by simp [h5])
    have HO := Lib.hid ho
    clear ho hk
    have hb : (x.k != 5) = false := by simp [h5]
    have HH := Lib.hid h5
    clear h5
    go_enter Try.func115, Try.ntmps115
    go_wp2_with (go_at_call 72; refine (HW.out _).mono ?_; rintro e w' ⟨rfl, hb2⟩; rw [HO.out])
    go_ret2
    exact ⟨rfl, below_box hb2⟩
  · have hb : (x.k != 5) = true := by simp [h5]
    clear hk
    go_enter Try.func115, Try.ntmps115
    go_wp2
    go_ret2
    exact ⟨rfl, (Below.refl _ _).alloc (Nat.le_refl _) _⟩

theorem find_none (h : St W0 w (heapAt p H :: L)) (x : AWord) (hk : x.k = 5) (ho : x.ok = true) (hn : (H.slots.length : Int) ≤ x.n) :
    Calls Try.prog 115 #[.pointer (some ⟨p, 0, none⟩), wv x] w fun e w' => e = .returned (.tuple #[.pointer none, .int .i64 4]) ∧ Below w.heap.size w w' := by
  obtain ⟨a, cap, f, fcap, hc, h1, h2⟩ := h.heap_cells
  clear h
  have HW := Lib.hid (fun w => word_c x w)
  unfold wv at *
  have HO := Lib.hid ho
  have hb : (x.k != 5) = false := by simp [hk]
  have HC := Lib.hid hc
  clear ho hk h2 hc
  unfold maxLen at h1
  go_enter Try.func115, Try.ntmps115
  go_wp2_with (go_at_call 72; refine (HW.out _).mono ?_; rintro e w' ⟨rfl, hb2⟩; rw [HO.out]; have hb3 := below_box hb2; have hc := old_cells hb3 HC.out (by simp); have hbx := box_cells hb2)
  go_quiet (fail)
  go_wp2
  go_ret2
  exact ⟨rfl, hb3.trans (below_drewN _)⟩

theorem flat_slot {sv : List (ASlot × Value)} {i : Nat} {s : ASlot} {v : Value} (hs : sv[i]? = some (s, v)) :
    ∀ j, j < 5 → (sv.flatMap slotCells)[i * 5 + j]? = (slotCells (s, v))[j]? := fun j hj => flat_get slotCells_len sv i j (s, v) hs hj

/-- The cells of the i-th slot. -/
theorem slot_cells {b : Nat} {rest : List Value} {sv : List (ASlot × Value)} {i : Nat} {s : ASlot} {v : Value} {T : TypeId} (h : St W0 w (cellsB b (sv.flatMap slotCells ++ rest).toArray T :: L)) (hs : sv[i]? = some (s, v)) :
    w.cell? ⟨b, i * 5, none⟩ = some (.int .u8 s.c.k) ∧ w.cell? ⟨b, i * 5 + 1, none⟩ = some (.int .i64 s.c.n) ∧ w.cell? ⟨b, i * 5 + 2, none⟩ = some v ∧ w.cell? ⟨b, i * 5 + 3, none⟩ = some (.int .i64 s.gen) ∧ w.cell? ⟨b, i * 5 + 4, none⟩ = some (.bool s.lives) := by
  have hl : i < sv.length := (List.getElem?_eq_some_iff.1 hs).1
  have key : ∀ j, j < 5 → w.cell? ⟨b, i * 5 + j, none⟩ = (slotCells (s, v))[j]? := by
    intro j hj
    rw [h.cell, List.getElem?_toArray, List.getElem?_append_left, flat_slot hs j hj]
    rw [flat_len slotCells_len]; omega
  exact ⟨key 0 (by omega), key 1 (by omega), key 2 (by omega), key 3 (by omega), key 4 (by omega)⟩

/-- The parts of the heap that a word's cell is found by. -/
theorem St.heap_slots {vs vf : Value} {sv : List (ASlot × Value)} (h : St W0 w (heapL p H vs vf sv ++ L)) (hn : 0 < sv.length) :
    ∃ b cap rest, vs = .slice (some ⟨b, 0, none⟩) sv.length cap ∧ sv.length ≤ cap ∧ cap ≤ maxLen ∧ cap * 5 ≤ sv.length * 5 + rest.length ∧
      St W0 w (cellsB b (sv.flatMap slotCells ++ rest).toArray 124 :: cellsB p #[.int .i64 H.room, .int .i64 H.most, vs, vf] 109 :: ownS 3 1 vf H.free.length (intsV H.free) :: slotsW sv :: L) := by
  have h1 := h.pull 1
  obtain ⟨hl, hc⟩ := St.own_cases (L := cellsB p #[.int .i64 H.room, .int .i64 H.most, vs, vf] 109 :: ownS 3 1 vf H.free.length (intsV H.free) :: slotsW sv :: L) h1
  rcases hc with ⟨_, e, _⟩ | ⟨b, cap, rest, e, h2, h3, h4, s⟩
  · omega
  · exact ⟨b, cap, rest, e, h2, h3, by rw [hl] at h4; exact h4, s⟩

theorem find_slot {b cap : Nat} {vf : Value} {sv : List (ASlot × Value)} {rest : List Value} (x : AWord) (hk : x.k = 5) (ho : x.ok = true) {i : Nat} (hn : x.n = i) {s : ASlot} {v : Value} (hs : sv[i]? = some (s, v)) (_hmax : sv.length ≤ maxLen)
    (h : St W0 w (cellsB b (sv.flatMap slotCells ++ rest).toArray 124 :: cellsB p #[.int .i64 H.room, .int .i64 H.most, .slice (some ⟨b, 0, none⟩) sv.length cap, vf] 109 :: L)) (yes : Bool) (hyes : (s.lives && s.gen == x.g) = yes) :
    Calls Try.prog 115 #[.pointer (some ⟨p, 0, none⟩), wv x] w fun e w' => e = .returned (.tuple (if yes then #[.pointer (some ⟨b, i * 5, none⟩), .int .i64 0] else #[.pointer none, .int .i64 230])) ∧ Below w.heap.size w w' := by
  have hl : i < sv.length := (List.getElem?_eq_some_iff.1 hs).1
  have HC := Lib.hid (h.pull 1).cell
  have HS := Lib.hid (slot_cells h hs)
  have HB := Lib.hid h.lt
  clear h hs
  obtain ⟨k, n, str, g⟩ := x
  simp only at hk hn hyes
  subst hk hn
  have HW := Lib.hid (fun w => word_c ⟨5, i, str, g⟩ w)
  have HO := Lib.hid ho
  unfold wv
  unfold maxLen at _hmax
  clear ho
  have HY := Lib.hid hyes
  clear hyes
  go_enter Try.func115, Try.ntmps115
  go_wp2_with (go_at_call 72; refine (HW.out _).mono ?_; rintro e w' ⟨rfl, hb2⟩; rw [HO.out]; have hb3 := below_box hb2; have hc := old_cells hb3 HC.out (by simp); have hbx := box_cells hb2)
  go_quiet (fail)
  go_wp2
  go_quiet (fail)
  go_wp2
  have c2 : w'.cell? ⟨b, i * 5 + 4, none⟩ = some (.bool s.lives) := (hb3.cell (p := ⟨b, i * 5 + 4, none⟩) HB.out).trans HS.out.2.2.2.2
  have c1 : w'.cell? ⟨b, i * 5 + 3, none⟩ = some (.int .i64 s.gen) := (hb3.cell (p := ⟨b, i * 5 + 3, none⟩) HB.out).trans HS.out.2.2.2.1
  have HY2 := HY.out
  clear HY
  generalize s.lives = lv at c2 HY2
  cases lv
  · obtain rfl : false = yes := by simpa using HY2
    clear HY2
    go_quiet (fail)
    go_wp2
    go_ret2
    exact ⟨rfl, hb3.trans (below_drewN _)⟩
  · cases yes
    · have hne : (s.gen == g) = false := by simpa using HY2
      clear HY2
      go_quiet (fail)
      go_wp2
      go_ret2
      exact ⟨rfl, hb3.trans (below_drewN _)⟩
    · have hne : (s.gen == g) = true := by simpa using HY2
      clear HY2
      go_quiet (fail)
      go_wp2
      go_ret2
      exact ⟨rfl, hb3.trans (below_drewN _)⟩

theorem sv_get {sv : List (ASlot × Value)} (e : sv.map Prod.fst = H.slots) {i : Nat} (hi : i < H.slots.length) : ∃ v, sv[i]? = some (H.slot i, v) := by
  have hl : i < sv.length := by rw [sv_len e]; exact hi
  refine ⟨sv[i].2, ?_⟩
  rw [List.getElem?_eq_getElem hl]
  have : sv[i].1 = H.slot i := by
    have h1 := AHeap.slot_get hi
    rw [← e, List.getElem?_map, List.getElem?_eq_getElem hl] at h1
    simpa using h1
  rw [← this]

/-- A word that finds nothing. -/
theorem find_bad (h : St W0 w (heapAt p H :: L)) (x : AWord) {k : Int} (hk : (H.find x).1 = k) (h0 : k ≠ 0) (hmax : H.slots.length ≤ maxLen) :
    Calls Try.prog 115 #[.pointer (some ⟨p, 0, none⟩), wv x] w fun e w' => e = .returned (.tuple #[.pointer none, .int .i64 k]) ∧ Below w.heap.size w w' := by
  unfold AHeap.find at hk
  split at hk
  · rename_i h1
    subst hk
    exact find_kind x h1
  · rename_i h1
    simp only [not_or, ne_eq, Decidable.not_not, Bool.not_eq_false] at h1
    split at hk
    · rename_i h2; subst hk; exact find_none h x h1.1 h1.2 h2
    · rename_i h2
      have hn : 0 ≤ x.n := by
        have := h1.2
        unfold AWord.ok at this
        simp [h1.1] at this
        exact this.1.1
      have hi : x.n.toNat < H.slots.length := by omega
      rw [AHeap.slot_get hi] at hk
      obtain ⟨vs, vf, sv, e, h⟩ := h.heap_open
      obtain ⟨v, hs⟩ := sv_get e hi
      obtain ⟨b, cap, rest, rfl, c1, c2, c3, s⟩ := h.heap_slots (by rw [sv_len e]; omega)
      simp only at hk
      split at hk
      · exact absurd hk.symm h0
      · rename_i h3
        subst hk
        exact find_slot x h1.1 h1.2 (by omega) hs (by rw [sv_len e]; exact hmax) s false (by
          cases hl : (H.slot x.n.toNat).lives
          · rfl
          · simp only [Bool.true_and, beq_eq_false_iff_ne]; exact fun q => h3 ⟨hl, q⟩)

/-- A word that finds the cell i. -/
theorem find_good {b cap : Nat} {vf : Value} {sv : List (ASlot × Value)} {rest : List Value} (e : sv.map Prod.fst = H.slots) (x : AWord) {i : Nat} (hk : H.find x = (0, i)) (hmax : H.slots.length ≤ maxLen)
    (h : St W0 w (cellsB b (sv.flatMap slotCells ++ rest).toArray 124 :: cellsB p #[.int .i64 H.room, .int .i64 H.most, .slice (some ⟨b, 0, none⟩) sv.length cap, vf] 109 :: L)) :
    Calls Try.prog 115 #[.pointer (some ⟨p, 0, none⟩), wv x] w fun e w' => e = .returned (.tuple #[.pointer (some ⟨b, i * 5, none⟩), .int .i64 0]) ∧ Below w.heap.size w w' := by
  have hz := AHeap.find_zero (H := H) (w := x) (by rw [hk])
  rw [hk] at hz
  obtain ⟨h1, h2, h3, h4, h5, h6, h7⟩ := hz
  obtain ⟨v, hs⟩ := sv_get e h5
  exact find_slot x h1 h2 h4 hs (by rw [sv_len e]; exact hmax) h true (by simp only at h6 h7; rw [h6, h7]; simp)

theorem at_bad {w : World} {q : Value} {x : AWord} {k : Int} (hk : (k == 0) = false) (f : Value)
    (hf : ∀ w', Below w.heap.size w w' → Calls Try.prog 115 #[q, wv x] w' fun e w'' => e = .returned (.tuple #[.pointer none, .int .i64 k]) ∧ Below w'.heap.size w' w'') :
    Calls Try.prog 76 #[q, wv x, f] w fun e w' => e = .returned (.int .i64 k) ∧ Below w.heap.size w w' := by
  have HF := Lib.hid (hf _ ((Below.refl _ _).alloc (Nat.le_refl _) (.cells #[Value.int .u8 x.k, .int .i64 x.n, .string x.s, .int .i64 x.g] 36)))
  have hk' : (k != 0) = true := by simp [bne, hk]
  clear hf
  unfold wv at *
  go_enter Try.func76, Try.ntmps76
  go_wp2_with (go_at_call 115; refine HF.out.mono ?_; rintro e w' ⟨rfl, hb⟩)
  go_ret
  exact ⟨rfl, below_box hb⟩

set_option maxRecDepth 100000 in
theorem at_good77 {w : World} {q : Value} {x : AWord} {ptr : Value} {t : Value} {R : Value → World → Prop}
    (hf : ∀ w', Below w.heap.size w w' → Calls Try.prog 115 #[q, wv x] w' fun e w'' => e = .returned (.tuple #[ptr, .int .i64 0]) ∧ Below w'.heap.size w' w'')
    (hc : ∀ w', Below w.heap.size w w' → Calls Try.prog 77 #[t, ptr] w' fun e w'' => ∃ v, e = .returned v ∧ R v w'') :
    Calls Try.prog 76 #[q, wv x, .func (.func 77) #[t] #[]] w fun e w' => ∃ v, e = .returned v ∧ R v w' := by
  have HF := Lib.hid (hf _ ((Below.refl _ _).alloc (Nat.le_refl _) (.cells #[Value.int .u8 x.k, .int .i64 x.n, .string x.s, .int .i64 x.g] 36)))
  have HC := Lib.hid hc
  clear hf hc
  unfold wv at *
  go_enter Try.func76, Try.ntmps76
  go_wp2_with (first
    | (go_at_call 115; refine HF.out.mono ?_; rintro e w' ⟨rfl, hb⟩; have HB := Lib.hid (below_box hb); clear hb)
    | (go_at_call 77; refine (HC.out _ HB.out).mono ?_; rintro e w' ⟨r, rfl, hr⟩; have HR := Lib.hid hr; clear hr))
  go_ret
  exact ⟨_, rfl, HR.out⟩

set_option maxRecDepth 100000 in
theorem at_good79 {w : World} {q : Value} {x : AWord} {ptr : Value} {t u v : Value} {R : Value → World → Prop}
    (hf : ∀ w', Below w.heap.size w w' → Calls Try.prog 115 #[q, wv x] w' fun e w'' => e = .returned (.tuple #[ptr, .int .i64 0]) ∧ Below w'.heap.size w' w'')
    (hc : ∀ w', Below w.heap.size w w' → Calls Try.prog 79 #[ptr, t, u, v] w' fun e w'' => ∃ v, e = .returned v ∧ R v w'') :
    Calls Try.prog 76 #[q, wv x, .func (.func 79) #[] #[t, u, v]] w fun e w' => ∃ v, e = .returned v ∧ R v w' := by
  have HF := Lib.hid (hf _ ((Below.refl _ _).alloc (Nat.le_refl _) (.cells #[Value.int .u8 x.k, .int .i64 x.n, .string x.s, .int .i64 x.g] 36)))
  have HC := Lib.hid hc
  clear hf hc
  unfold wv at *
  go_enter Try.func76, Try.ntmps76
  go_wp2_with (first
    | (go_at_call 115; refine HF.out.mono ?_; rintro e w' ⟨rfl, hb⟩; have HB := Lib.hid (below_box hb); clear hb)
    | (go_at_call 79; refine (HC.out _ HB.out).mono ?_; rintro e w' ⟨r, rfl, hr⟩; have HR := Lib.hid hr; clear hr))
  go_ret
  exact ⟨_, rfl, HR.out⟩

end

end Go.Proofs.Ytciciaikajdenaa
