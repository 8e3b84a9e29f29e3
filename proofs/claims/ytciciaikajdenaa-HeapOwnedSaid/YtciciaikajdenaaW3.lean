/- The heap of package heap in memory; Live, Left, Most, New. -/
import Derived.Test.YtciciaikajdenaaW2
namespace Go.Proofs.Ytciciaikajdenaa
open Go.RowKit

/-- A slot's five cells, its words' slice beside it. -/
def slotCells (x : ASlot × Value) : List Value := [.int .u8 x.1.c.k, .int .i64 x.1.c.n, x.2, .int .i64 x.1.gen, .bool x.1.lives]
def slotOwn (x : ASlot × Value) : HProp := ownS 36 4 x.2 x.1.c.ws.length (flatW x.1.c.ws)
def intsV (l : List Nat) : List Value := l.map fun (i : Nat) => Value.int .i64 (i : Int)
theorem slotCells_len (x : ASlot × Value) : (slotCells x).length = 5 := rfl

/-- All slots' words. -/
def slotsW (sv : List (ASlot × Value)) : HProp := starL (sv.map slotOwn)

def heapL (p : Nat) (H : AHeap) (vs vf : Value) (sv : List (ASlot × Value)) : List HProp :=
  [cellsB p #[.int .i64 H.room, .int .i64 H.most, vs, vf] 109, ownS 124 5 vs sv.length (sv.flatMap slotCells), ownS 3 1 vf H.free.length (intsV H.free), slotsW sv]

def heapAt (p : Nat) (H : AHeap) : HProp := fun f => ∃ (vs vf : Value) (sv : List (ASlot × Value)), sv.map Prod.fst = H.slots ∧ starL (heapL p H vs vf sv) f

section
variable {W0 w : World} {L : List HProp} {p : Nat} {H : AHeap}

theorem St.heap_open (h : St W0 w (heapAt p H :: L)) : ∃ vs vf sv, sv.map Prod.fst = H.slots ∧ St W0 w (heapL p H vs vf sv ++ L) := by
  obtain ⟨vs, h⟩ := h.ex
  obtain ⟨vf, h⟩ := h.ex
  obtain ⟨sv, h⟩ := h.ex
  obtain ⟨e, h⟩ := h.pure
  exact ⟨vs, vf, sv, e, h.flat⟩

theorem St.heap_close {vs vf : Value} {sv : List (ASlot × Value)} (e : sv.map Prod.fst = H.slots) (h : St W0 w (heapL p H vs vf sv ++ L)) : St W0 w (heapAt p H :: L) :=
  h.unflat.head fun _ s => ⟨vs, vf, sv, e, s⟩

theorem sv_len {sv : List (ASlot × Value)} (e : sv.map Prod.fst = H.slots) : sv.length = H.slots.length := by rw [← e]; simp

/-- What a reader of the heap's own four cells wants. -/
theorem St.heap_cells (h : St W0 w (heapAt p H :: L)) : ∃ a cap f fcap, (∀ o, w.cell? ⟨p, o, none⟩ = #[Value.int .i64 H.room, .int .i64 H.most, .slice a H.slots.length cap, .slice f H.free.length fcap][o]?) ∧ H.slots.length ≤ maxLen ∧ H.free.length ≤ maxLen := by
  obtain ⟨vs, vf, sv, e, h⟩ := h.heap_open
  have hc := h.cell
  have h1 := (h.pull 1).own_cases
  have h2 := (h.pull 2).own_cases
  rw [sv_len e] at h1
  obtain ⟨a, cap, rfl, ha⟩ : ∃ a cap, vs = .slice a H.slots.length cap ∧ H.slots.length ≤ maxLen := by
    rcases h1.2 with ⟨⟨_, rfl⟩, e, _⟩ | ⟨b, cap, r, rfl, h3, h4, _⟩
    · exact ⟨_, _, by rw [e], by rw [e]; exact Nat.zero_le _⟩
    · exact ⟨_, _, rfl, Nat.le_trans h3 h4⟩
  obtain ⟨f, fcap, rfl, hf⟩ : ∃ a cap, vf = .slice a H.free.length cap ∧ H.free.length ≤ maxLen := by
    rcases h2.2 with ⟨⟨_, rfl⟩, e, _⟩ | ⟨b, cap, r, rfl, h3, h4, _⟩
    · exact ⟨_, _, by rw [e], by rw [e]; exact Nat.zero_le _⟩
    · exact ⟨_, _, rfl, Nat.le_trans h3 h4⟩
  exact ⟨a, cap, f, fcap, hc, ha, hf⟩

theorem erase_perm {α : Type} {sv : List α} {i : Nat} {x : α} (hs : sv[i]? = some x) : sv.Perm (x :: sv.eraseIdx i) := by
  induction sv generalizing i with
  | nil => simp at hs
  | cons a l ih =>
    cases i with
    | zero => simp at hs; subst hs; exact .refl _
    | succ i => exact ((ih (by simpa using hs)).cons a).trans (.swap _ _ _)

theorem St.slots_take {sv : List (ASlot × Value)} {i : Nat} {s : ASlot} {v : Value} (h : St W0 w (slotsW sv :: L)) (hs : sv[i]? = some (s, v)) : St W0 w (ownS 36 4 v s.c.ws.length (flatW s.c.ws) :: slotsW (sv.eraseIdx i) :: L) := by
  have h1 := St.flat (L := sv.map slotOwn) h
  have h2 := h1.perm (((erase_perm hs).map slotOwn).append_right L)
  simp only [List.map_cons, List.cons_append] at h2
  exact (((St.unflat (L := slotOwn (s, v) :: (sv.eraseIdx i).map slotOwn) (M := L) h2).flat).conv fun f s => starL_cons (fun _ y => y) (fun _ t => starL_unflat t) s)

theorem St.slots_join {sv tv : List (ASlot × Value)} {x : ASlot × Value} (h : St W0 w (slotOwn x :: slotsW sv :: L)) (p : tv.Perm (x :: sv)) : St W0 w (slotsW tv :: L) := by
  have h1 : St W0 w (slotOwn x :: (sv.map slotOwn ++ L)) := h.conv fun f s => starL_cons (fun _ y => y) (fun _ t => starL_flat t) s
  have h2 := h1.perm (M := tv.map slotOwn ++ L) ((p.map slotOwn).symm.append_right L)
  exact St.unflat (L := tv.map slotOwn) h2

theorem set_perm {α : Type} {sv : List α} {i : Nat} {x : α} (hi : i < sv.length) : (sv.set i x).Perm (x :: sv.eraseIdx i) := by
  have h1 : (sv.set i x)[i]? = some x := by simp [hi]
  have h2 := erase_perm h1
  rwa [List.eraseIdx_set_eq] at h2

theorem St.slots_set {sv : List (ASlot × Value)} {i : Nat} {s : ASlot} {v : Value} (h : St W0 w (ownS 36 4 v s.c.ws.length (flatW s.c.ws) :: slotsW (sv.eraseIdx i) :: L)) (hi : i < sv.length) : St W0 w (slotsW (sv.set i (s, v)) :: L) :=
  St.slots_join (x := (s, v)) h (set_perm hi)

theorem St.slots_snoc {sv : List (ASlot × Value)} {s : ASlot} {v : Value} (h : St W0 w (ownS 36 4 v s.c.ws.length (flatW s.c.ws) :: slotsW sv :: L)) : St W0 w (slotsW (sv ++ [(s, v)]) :: L) :=
  St.slots_join (x := (s, v)) h (List.perm_append_comm (l₁ := sv) (l₂ := [(s, v)]))

theorem St.slots_nil (h : St W0 w L) : St W0 w (slotsW [] :: L) :=
  h.conv fun f s => ⟨fun _ => none, f, trivial, s, fun _ => .inl rfl, (fun _ _ e => by cases e), Le.refl _⟩

theorem St.slots_rd {sv : List (ASlot × Value)} {i : Nat} {s : ASlot} {v : Value} (h : St W0 w (slotsW sv :: L)) (hs : sv[i]? = some (s, v)) : rd w 4 v s.c.ws.length (flatW s.c.ws) :=
  St.own_rd (h.slots_take hs)

theorem live_c (h : St W0 w (heapAt p H :: L)) :
    Calls Try.prog 33 #[.pointer (some ⟨p, 0, none⟩)] w fun e w' => e = .returned (.int .i64 H.live) ∧ ∃ n, w' = w.drewN n := by
  obtain ⟨a, cap, f, fcap, hc, h1, h2⟩ := h.heap_cells
  clear h
  unfold maxLen at h1 h2
  unfold AHeap.live
  go_enter Try.func33, Try.ntmps33
  go_wp2
  go_quiet (fail)
  go_wp2
  go_ret
  exact ⟨rfl, _, rfl⟩

theorem left_c {B : Int} (h : St W0 w (heapAt p H :: L)) (ok : H.Ok B) :
    Calls Try.prog 35 #[.pointer (some ⟨p, 0, none⟩)] w fun e w' => e = .returned (.int .i64 (H.room - H.live)) ∧ ∃ n, w' = w.drewN n := by
  have HL := Lib.hid (fun n => live_c (h.drewN n))
  obtain ⟨a, cap, f, fcap, hc, h1, h2⟩ := h.heap_cells
  have r0 := ok.room0
  have r1 := ok.room1
  have l0 : 0 ≤ H.live := by rw [ok.live_eq]; omega
  have l1 : H.live ≤ 100000 := by rw [ok.live_eq]; have := countLive_le H.slots; have := ok.few; omega
  clear h ok
  go_enter Try.func35, Try.ntmps35
  go_wp2
  go_quiet ((go_at_call 33; exact Calls.quiet_of (HL.out _)))
  go_wp2
  go_ret
  exact ⟨rfl, _, rfl⟩

theorem most_c (h : St W0 w (heapAt p H :: L)) :
    Calls Try.prog 36 #[.pointer (some ⟨p, 0, none⟩)] w fun e w' => e = .returned (.int .i64 H.most) ∧ w' = w := by
  obtain ⟨a, cap, f, fcap, hc, h1, h2⟩ := h.heap_cells
  clear h
  go_enter Try.func36, Try.ntmps36
  go_wp2
  go_ret
  exact ⟨rfl, rfl⟩

end
end Go.Proofs.Ytciciaikajdenaa
