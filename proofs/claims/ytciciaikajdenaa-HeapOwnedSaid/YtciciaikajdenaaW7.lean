/- Set. -/
import Derived.Test.YtciciaikajdenaaW6
import Derived.RegionTactic
import Derived.BigRegion
namespace Go.Proofs.Ytciciaikajdenaa
open Go.RowKit

def SetPost (W0 : World) (pi px po b : Nat) (i : Int) (x : AWord) (flat : Array Value) (sv : List (ASlot × Value)) (M : List HProp) (old : AWord) (k : Int) (v : Value) (w' : World) : Prop :=
  v = .int .i64 k ∧ St W0 w' (cellsB pi #[.int .i64 i] 3 :: cellsB px #[.int .u8 x.k, .int .i64 x.n, .string x.s, .int .i64 x.g] 36 :: cellsB po #[.int .u8 old.k, .int .i64 old.n, .string old.s, .int .i64 old.g] 36 :: cellsB b flat 124 :: slotsW sv :: M)

theorem flat_set4 (x : AWord) (r : List Value) : ∀ (ws : List AWord) (n : Nat), n < ws.length →
    ((((flatW ws ++ r).set (n * 4) (.int .u8 x.k)).set (n * 4 + 1) (.int .i64 x.n)).set (n * 4 + 2) (.string x.s)).set (n * 4 + 3) (.int .i64 x.g) = flatW (ws.set n x) ++ r
  | [], n, h => by simp at h
  | y :: ws, 0, _ => by simp [flatW, wcells]
  | y :: ws, n + 1, h => by
    have ih := flat_set4 x r ws n (by simpa using h)
    have e : ∀ z : List AWord, flatW (y :: z) ++ r = .int .u8 y.k :: .int .i64 y.n :: .string y.s :: .int .i64 y.g :: (flatW z ++ r) := fun z => by simp [flatW, wcells]
    rw [e, List.set_cons_succ, e, ← ih]
    have a0 : (n + 1) * 4 = n * 4 + 1 + 1 + 1 + 1 := by omega
    have a1 : (n + 1) * 4 + 1 = n * 4 + 1 + 1 + 1 + 1 + 1 := by omega
    have a2 : (n + 1) * 4 + 2 = n * 4 + 2 + 1 + 1 + 1 + 1 := by omega
    have a3 : (n + 1) * 4 + 3 = n * 4 + 3 + 1 + 1 + 1 + 1 := by omega
    rw [a3, a2, a1, a0]
    rfl

theorem keep_cell {w w' : World} (hb : Below w.heap.size w w') {a : Addr} {v : Value} (h : w.cell? a = some v) : w'.cell? a = some v := by
  rw [hb.cell (World.block_lt_of_cell? w a h)]; exact h

section
variable {W0 w : World} {pi px po b j : Nat} {i : Int} {x : AWord} {s : ASlot} {v : Value} {sv : List (ASlot × Value)} {rest : List Value} {M : List HProp}

set_option maxRecDepth 100000 in
set_option maxHeartbeats 400000 in
theorem set1_range (h : St W0 w (cellsB pi #[.int .i64 i] 3 :: cellsB px #[.int .u8 x.k, .int .i64 x.n, .string x.s, .int .i64 x.g] 36 :: cellsB po #[.int .u8 0, .int .i64 0, .string ⟨#[]⟩, .int .i64 0] 36 :: cellsB b (sv.flatMap slotCells ++ rest).toArray 124 :: slotsW sv :: M))
    (hs : sv[j]? = some (s, v)) (hi : i < 0 ∨ (s.c.ws.length : Int) ≤ i) :
    Calls Try.prog 80 #[.pointer (some ⟨b, j * 5, none⟩), .pointer (some ⟨pi, 0, none⟩), .pointer (some ⟨px, 0, none⟩), .pointer (some ⟨po, 0, none⟩)] w
      fun e w' => ∃ r, e = .returned r ∧ SetPost W0 pi px po b i x (sv.flatMap slotCells ++ rest).toArray sv M .zero 5 r w' := by
  obtain ⟨a, cap, rfl, _⟩ := St.own_form ((h.pull 4).slots_take hs)
  obtain ⟨_, _, c2, _, _⟩ := slot_cells (h.pull 3) hs
  have d0 := h.cell
  have HH := Lib.hid h
  clear h hs
  by_cases hi0 : i < 0
  · have hd : decide (i < 0) = true := by simpa using hi0
    clear hi
    go_enter Try.func80, Try.ntmps80
    go_wp2
    go_quiet (fail)
    go_wp2
    go_ret
    exact ⟨_, rfl, rfl, HH.out.drewN _⟩
  · have hge : (s.c.ws.length : Int) ≤ i := hi.resolve_left hi0
    have hd : decide (i < 0) = false := by simpa using hi0
    clear hi hi0
    go_enter Try.func80, Try.ntmps80
    go_wp2
    go_quiet (fail)
    go_wp2
    go_ret
    exact ⟨_, rfl, rfl, HH.out.drewN _⟩

set_option maxRecDepth 100000 in
set_option maxHeartbeats 400000 in
theorem set1_arg (h : St W0 w (cellsB pi #[.int .i64 i] 3 :: cellsB px #[.int .u8 x.k, .int .i64 x.n, .string x.s, .int .i64 x.g] 36 :: cellsB po #[.int .u8 0, .int .i64 0, .string ⟨#[]⟩, .int .i64 0] 36 :: cellsB b (sv.flatMap slotCells ++ rest).toArray 124 :: slotsW sv :: M))
    (hs : sv[j]? = some (s, v)) (hi : 0 ≤ i) (hi' : i < s.c.ws.length) (hx : x.ok = false) :
    Calls Try.prog 80 #[.pointer (some ⟨b, j * 5, none⟩), .pointer (some ⟨pi, 0, none⟩), .pointer (some ⟨px, 0, none⟩), .pointer (some ⟨po, 0, none⟩)] w
      fun e w' => ∃ r, e = .returned r ∧ SetPost W0 pi px po b i x (sv.flatMap slotCells ++ rest).toArray sv M .zero 2 r w' := by
  obtain ⟨a, cap, rfl, _⟩ := St.own_form ((h.pull 4).slots_take hs)
  obtain ⟨_, _, c2, _, _⟩ := slot_cells (h.pull 3) hs
  have d0 := h.cell
  have d1 := (h.pull 1).cell
  have HH := Lib.hid h
  have HW := Lib.hid (fun w => word_c x w)
  have HX := Lib.hid hx
  clear h hs hx
  unfold wv at HW
  have hd : decide (i < 0) = false := by simpa using hi
  have hd2 : decide ((s.c.ws.length : Int) ≤ i) = false := by simpa using hi'
  go_enter Try.func80, Try.ntmps80
  go_wp2
  go_quiet (fail)
  go_wp2_with (go_at_call 72; refine (HW.out _).mono ?_; rintro e w' ⟨rfl, hb2⟩; rw [HX.out])
  go_ret
  exact ⟨_, rfl, rfl, (HH.out.drewN _).mono hb2⟩

set_option maxRecDepth 100000 in
set_option maxHeartbeats 400000 in
theorem set1_ok (h : St W0 w (cellsB pi #[.int .i64 i] 3 :: cellsB px #[.int .u8 x.k, .int .i64 x.n, .string x.s, .int .i64 x.g] 36 :: cellsB po #[.int .u8 0, .int .i64 0, .string ⟨#[]⟩, .int .i64 0] 36 :: cellsB b (sv.flatMap slotCells ++ rest).toArray 124 :: slotsW sv :: M))
    (hs : sv[j]? = some (s, v)) (hi : 0 ≤ i) (hi' : i < s.c.ws.length) (hx : x.ok = true) :
    Calls Try.prog 80 #[.pointer (some ⟨b, j * 5, none⟩), .pointer (some ⟨pi, 0, none⟩), .pointer (some ⟨px, 0, none⟩), .pointer (some ⟨po, 0, none⟩)] w
      fun e w' => ∃ r, e = .returned r ∧ SetPost W0 pi px po b i x (sv.flatMap slotCells ++ rest).toArray (sv.set j ({ s with c := s.c.put i.toNat x }, v)) M (s.c.ws.getD i.toNat .zero) 0 r w' := by
  obtain ⟨n, rfl⟩ := Int.eq_ofNat_of_zero_le hi
  have hn : n < s.c.ws.length := by omega
  have hj : j < sv.length := (List.getElem?_eq_some_iff.1 hs).1
  have ht := (h.pull 4).slots_take hs
  obtain ⟨hl, hc⟩ := St.own_cases ht
  obtain ⟨bw, cap, wr, rfl, k1, k2, k3, t⟩ := hc.resolve_left (fun q => by have := q.2.1; omega)
  obtain ⟨y, hy⟩ : ∃ y, s.c.ws[n]? = some y := ⟨_, List.getElem?_eq_getElem hn⟩
  obtain ⟨f0, f1, f2, f3⟩ := rd_word (St.own_rd ht) hy
  have fw := t.free
  obtain ⟨_, _, c2, _, _⟩ := slot_cells (h.pull 3) hs
  have d0 := h.cell
  have d1 := (h.pull 1).cell
  have d2 := (h.pull 2).cell
  have e2 := (h.pull 2).free
  have HT := Lib.hid t
  have HW := Lib.hid (fun w => word_c x w)
  have HX := Lib.hid hx
  clear h hx ht
  simp only [Nat.zero_add] at c2 f0 f1 f2 f3
  unfold wv at HW
  have hd : decide ((n : Int) < 0) = false := by simp
  have hd2 : decide ((s.c.ws.length : Int) ≤ (n : Int)) = false := by simpa using hi'
  go_enter Try.func80, Try.ntmps80
  go_wp2
  go_quiet (fail)
  go_wp2_with (go_at_call 72; refine (HW.out _).mono ?_; rintro e w' ⟨rfl, hb2⟩; rw [HX.out]; have hb := (below_drewN _).trans hb2; have T := (HT.out.drewN _).mono hb2; clear hb2; replace f0 := keep_cell hb f0; replace f1 := keep_cell hb f1; replace f2 := keep_cell hb f2; replace f3 := keep_cell hb f3; replace c2 := keep_cell hb c2; clear fw d0 d1 d2 e2; have fw := T.free; have d0 := (T.pull 2).cell; have d1 := (T.pull 3).cell; have d2 := (T.pull 4).cell; have e2 := (T.pull 4).free; have n1 := ((T.pull 4).pull 1).ne.symm; have n2 := ((T.pull 4).pull 3).ne.symm; have n3 := ((T.pull 4).pull 4).ne.symm; have n4 := ((T.pull 4).pull 5).ne.symm; have TT := Lib.hid T; clear T hb)
  go_region
  go_wp2
  go_ret
  have T2 := ((((TT.out.pull 4).set 0 (.int .u8 y.k)).set 1 (.int .i64 y.n)).set 2 (.string y.s)).set 3 (.int .i64 y.g)
  have T3 := ((((T2.pull 1).set (n * 4) (.int .u8 x.k)).set (n * 4 + 1) (.int .i64 x.n)).set (n * 4 + 2) (.string x.s)).set (n * 4 + 3) (.int .i64 x.g)
  simp only [List.setIfInBounds_toArray] at T3
  rw [flat_set4 x wr s.c.ws n hn] at T3
  have hw : (flatW (s.c.ws.set n x)).length = s.c.ws.length * 4 := by rw [flatW_len, List.length_set]
  have T4 := T3.own_mk (n := s.c.ws.length) (cap := cap) (sz := 4) hw k1 k2 (by rw [hw]; rw [hl] at k3; exact k3)
  have hlen : (s.c.put n x).ws.length = s.c.ws.length := by simp [ACell.put]
  have T5 := (T4.pull 2).pull 1
  have hy' : s.c.ws.getD (n : Int).toNat .zero = y := by simp [List.getD, hy]
  rw [hy']
  have T6 := St.slots_set (s := { s with c := s.c.put n x }) (v := .slice (some ⟨bw, 0, none⟩) s.c.ws.length cap) (sv := sv) (i := j) (w := _) (W0 := W0) (L := _) (by
    show St W0 _ (ownS 36 4 _ (s.c.put n x).ws.length _ :: _)
    rw [hlen]; exact T5) hj
  exact ⟨_, rfl, rfl, ((T6.push 4).push 2).drew⟩
end

end Go.Proofs.Ytciciaikajdenaa
