/- The document's heap in memory; New, Live, Wrong. -/
import Derived.Test.YtciciaikajdenaaR2
set_option linter.unusedSimpArgs false
set_option linter.unusedVariables false
namespace Go.Proofs.Ytciciaikajdenaa
open Go.RowKit

def heapRL (p : Nat) (H : AHeap) (vs vf : Value) (sv : List (ASlot × Value)) : List HProp :=
  [cellsB p #[.int .i64 H.room, vs, vf, .int .i64 H.most] 54, ownS 114 5 vs sv.length (sv.flatMap slotCells), ownS 3 1 vf H.free.length (intsV H.free), slotsW sv]

def heapRAt (p : Nat) (H : AHeap) : HProp := fun f => ∃ (vs vf : Value) (sv : List (ASlot × Value)), sv.map Prod.fst = H.slots ∧ starL (heapRL p H vs vf sv) f

section
variable {W0 w : World} {L : List HProp} {p : Nat} {H : AHeap}

theorem St.heapR_open (h : St W0 w (heapRAt p H :: L)) : ∃ vs vf sv, sv.map Prod.fst = H.slots ∧ St W0 w (heapRL p H vs vf sv ++ L) := by
  obtain ⟨vs, h⟩ := h.ex
  obtain ⟨vf, h⟩ := h.ex
  obtain ⟨sv, h⟩ := h.ex
  obtain ⟨e, h⟩ := h.pure
  exact ⟨vs, vf, sv, e, h.flat⟩

theorem St.heapR_close {vs vf : Value} {sv : List (ASlot × Value)} (e : sv.map Prod.fst = H.slots) (h : St W0 w (heapRL p H vs vf sv ++ L)) : St W0 w (heapRAt p H :: L) :=
  h.unflat.head fun _ s => ⟨vs, vf, sv, e, s⟩

theorem St.heapR_slots {vs vf : Value} {sv : List (ASlot × Value)} (h : St W0 w (heapRL p H vs vf sv ++ L)) (hn : 0 < sv.length) :
    ∃ b cap rest, vs = .slice (some ⟨b, 0, none⟩) sv.length cap ∧ sv.length ≤ cap ∧ cap ≤ maxLen ∧ cap * 5 ≤ sv.length * 5 + rest.length ∧
      St W0 w (cellsB b (sv.flatMap slotCells ++ rest).toArray 114 :: cellsB p #[.int .i64 H.room, vs, vf, .int .i64 H.most] 54 :: ownS 3 1 vf H.free.length (intsV H.free) :: slotsW sv :: L) := by
  have h1 := h.pull 1
  obtain ⟨hl, hc⟩ := St.own_cases (L := cellsB p #[.int .i64 H.room, vs, vf, .int .i64 H.most] 54 :: ownS 3 1 vf H.free.length (intsV H.free) :: slotsW sv :: L) h1
  rcases hc with ⟨_, e, _⟩ | ⟨b, cap, rest, e, h2, h3, h4, s⟩
  · omega
  · exact ⟨b, cap, rest, e, h2, h3, by rw [hl] at h4; exact h4, s⟩

theorem St.heapR_back {b cap : Nat} {vf : Value} {sv : List (ASlot × Value)} {rest : List Value} (e : sv.map Prod.fst = H.slots)
    (c1 : sv.length ≤ cap) (c2 : cap ≤ maxLen) (c3 : cap * 5 ≤ sv.length * 5 + rest.length)
    (h : St W0 w (cellsB b (sv.flatMap slotCells ++ rest).toArray 114 :: cellsB p #[.int .i64 H.room, .slice (some ⟨b, 0, none⟩) sv.length cap, vf, .int .i64 H.most] 54 :: ownS 3 1 vf H.free.length (intsV H.free) :: slotsW sv :: L)) :
    St W0 w (heapRAt p H :: L) := by
  have h1 := h.own_mk (n := sv.length) (cap := cap) (sz := 5) (flat_len slotCells_len sv) c1 c2 (by rw [flat_len slotCells_len]; exact c3)
  exact St.heapR_close e (h1.push 1)

/-- The slots' slice, whatever the heap; and a slot's cells. -/
theorem St.heapR_view (h : St W0 w (heapRAt p H :: L)) : ∃ a cap vf, (∀ o, w.cell? ⟨p, o, none⟩ = #[Value.int .i64 H.room, .slice a H.slots.length cap, vf, .int .i64 H.most][o]?) ∧ (∃ f c, vf = .slice f H.free.length c ∧ H.free.length ≤ c) ∧ H.slots.length ≤ maxLen ∧
    ∀ k, k < H.slots.length → ∃ b, a = some ⟨b, 0, none⟩ ∧ ∃ v, w.cell? ⟨b, k * 5, none⟩ = some (.int .u8 (H.slot k).c.k) ∧ w.cell? ⟨b, k * 5 + 1, none⟩ = some (.int .i64 (H.slot k).c.n) ∧ w.cell? ⟨b, k * 5 + 2, none⟩ = some v ∧ w.cell? ⟨b, k * 5 + 3, none⟩ = some (.int .i64 (H.slot k).gen) ∧ w.cell? ⟨b, k * 5 + 4, none⟩ = some (.bool (H.slot k).lives) ∧ rd w 4 v (H.slot k).c.ws.length (flatW (H.slot k).c.ws) := by
  obtain ⟨vs, vf, sv, e, hO⟩ := h.heapR_open
  have hsl : sv.length = H.slots.length := sv_len e
  obtain ⟨f, fc, hvf, hfc⟩ := (hO.pull 2).own_form
  have h1 := (hO.pull 1).own_cases
  rw [hsl] at h1
  obtain ⟨a, cap, rfl, hmax⟩ : ∃ a cap, vs = .slice a H.slots.length cap ∧ H.slots.length ≤ maxLen := by
    rcases h1.2 with ⟨⟨_, rfl⟩, e, _⟩ | ⟨b, cap, r, rfl, h3, h4, _⟩
    · exact ⟨_, _, by rw [e], by rw [e]; exact Nat.zero_le _⟩
    · exact ⟨_, _, rfl, Nat.le_trans h3 h4⟩
  refine ⟨a, cap, vf, hO.cell, ⟨f, fc, hvf, hfc⟩, hmax, fun k hk => ?_⟩
  obtain ⟨v, hs⟩ := sv_get e hk
  obtain ⟨b, cap', rest, e2, _, _, _, s⟩ := hO.heapR_slots (by omega)
  injection e2 with e3 _ _
  obtain ⟨c0, c1, c2, c3, c4⟩ := slot_cells s hs
  exact ⟨b, e3, v, c0, c1, c2, c3, c4, St.slots_rd (s.pull 3) hs⟩

def NewPostR (room : Int) (w : World) (e : Ending) (w' : World) : Prop :=
  ∃ p, e = .returned (.tuple #[.pointer (some ⟨p, 0, none⟩), .int .i64 0]) ∧ St w w' [heapRAt p (AHeap.new room)]

theorem newR_ok (room : Int) (w : World) (h0 : 0 ≤ room) (h1 : room ≤ 100000) : Calls Try.prog 16 #[.int .i64 room] w (NewPostR room w) := by
  have h2 : ¬ room < 0 := by omega
  have h3 : ¬ 100000 < room := by omega
  go_enter Try.func16, Try.ntmps16
  go_wp2
  go_ret2
  refine ⟨_, rfl, ?_⟩
  have s := (St.refl w).allocC #[Value.int .i64 room, .slice none 0 0, .slice none 0 0, .int .i64 0] 54
  refine St.heapR_close (L := []) (sv := []) (vs := .slice none 0 0) (vf := .slice none 0 0) rfl ?_
  exact ((((s.slots_nil.push 1).own_nil (T := 3) (sz := 1)).push 1).own_nil (T := 114) (sz := 5)).push 1

theorem newR_bad (room : Int) (w : World) (h : room < 0 ∨ 100000 < room) : Calls Try.prog 16 #[.int .i64 room] w fun e w' => e = .returned (.tuple #[.pointer none, .int .i64 2]) ∧ w' = w := by
  rcases h with h | h
  · go_enter Try.func16, Try.ntmps16
    go_wp2
    go_ret2
    exact ⟨rfl, rfl⟩
  · have h' : ¬ room < 0 := by omega
    go_enter Try.func16, Try.ntmps16
    go_wp2
    go_ret2
    exact ⟨rfl, rfl⟩

theorem countLive_take {l : List ASlot} {k : Nat} {s : ASlot} (h : l[k]? = some s) : countLive (l.take (k + 1)) = countLive (l.take k) + (if s.lives then 1 else 0) := by
  rw [List.take_add_one, h]
  unfold countLive
  cases hl : s.lives <;> simp [hl]

set_option maxRecDepth 100000 in
set_option maxHeartbeats 1000000 in
theorem liveR_c {B : Int} (h : St W0 w (heapRAt p H :: L)) (ok : H.Ok B) :
    Calls Try.prog 34 #[.pointer (some ⟨p, 0, none⟩)] w fun e w' => e = .returned (.int .i64 H.live) ∧ w' = w := by
  obtain ⟨a, cap, vf, d0, _, _, key⟩ := h.heapR_view
  have hlen : H.slots.length ≤ 100000 := by have := ok.few; have := ok.room1; omega
  have hlive := ok.live_eq
  rw [hlive]
  have HK := Lib.hid key
  clear h ok key hlive
  go_enter Try.func34, Try.ntmps34
  go_wp2
  go_loopw [3, 4] (fun n i wr => ∃ k : Nat, k ≤ H.slots.length ∧ i = .int .i64 k ∧ n = .int .i64 (countLive (H.slots.take k) : Nat) ∧ wr = w) (fun _ i _ => H.slots.length - (intOf i).toNat)
  case atStart => exact ⟨0, Nat.zero_le _, rfl, rfl, rfl⟩
  case round =>
    obtain ⟨k, hk, rfl, rfl, rfl⟩ := hrel
    by_cases hlt : k < H.slots.length
    · obtain ⟨b, rfl, v, c0, c1, c2, c3, c4, _⟩ := HK.out k hlt
      have hct := countLive_take (AHeap.slot_get hlt)
      have hle := countLive_le (H.slots.take k)
      have hle2 : (H.slots.take k).length ≤ k := by simp; omega
      cases hl : (H.slot k).lives
      · rw [hl] at c4 hct
        have HC := Lib.hid hct
        clear hct hl
        go_wp2
        refine ⟨⟨k + 1, by omega, by go_num, by rw [HC.out]; simp, by first | rfl | trivial⟩, by simp [intOf]; omega⟩
      · rw [hl] at c4 hct
        have HC := Lib.hid hct
        clear hct hl
        go_wp2
        refine ⟨⟨k + 1, by omega, by go_num, by rw [HC.out]; simp, by first | rfl | trivial⟩, by simp [intOf]; omega⟩
    · have e : k = H.slots.length := by omega
      subst e
      rw [List.take_length]
      go_wp2
      go_ret
      exact ⟨rfl, rfl⟩

end
end Go.Proofs.Ytciciaikajdenaa
