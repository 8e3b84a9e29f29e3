/- take, Get. -/
import Derived.Test.YtciciaikajdenaaW5
namespace Go.Proofs.Ytciciaikajdenaa
open Go.RowKit

def TakePost (W0 : World) (bt b : Nat) (c : ACell) (flat : Array Value) (M : List HProp) (v : Value) (w' : World) : Prop :=
  v = .int .i64 0 ∧ ∃ v', St W0 w' (wordsOwn v' c.ws :: cellsB bt #[.int .u8 c.k, .int .i64 c.n, v'] 118 :: cellsB b flat 124 :: M)

set_option maxRecDepth 100000 in
theorem take_c {W0 w : World} {bt b i : Nat} {x0 x1 x2 v : Value} {s : ASlot} {sv : List (ASlot × Value)} {rest : List Value} {M : List HProp}
    (h : St W0 w (cellsB bt #[x0, x1, x2] 118 :: cellsB b (sv.flatMap slotCells ++ rest).toArray 124 :: M)) (hs : sv[i]? = some (s, v))
    (hm : s.c.ws.length ≤ 1000000) (hr : rd w 4 v s.c.ws.length (flatW s.c.ws)) :
    Calls Try.prog 77 #[.pointer (some ⟨bt, 0, none⟩), .pointer (some ⟨b, i * 5, none⟩)] w fun e w' => ∃ r, e = .returned r ∧ TakePost W0 bt b s.c (sv.flatMap slotCells ++ rest).toArray M r w' := by
  obtain ⟨c0, c1, c2, _, _⟩ := slot_cells (h.pull 1) hs
  have HC := Lib.hid (copied_c s.c v w hm hr)
  have HH := Lib.hid h
  unfold cv at HC
  clear h hm hr hs
  go_enter Try.func77, Try.ntmps77
  go_wp2_with (go_at_call 82; refine HC.out.mono ?_; rintro e w1 ⟨v', rfl, k⟩; obtain ⟨a', cap', rfl, _⟩ := St.own_form k; have S1 := HH.out.chain k; have d := (S1.pull 1).cell; have f := (S1.pull 1).free; have HS := Lib.hid S1; clear S1 k; simp only [cv])
  go_ret
  have S2 := (((HS.out.pull 1).set 0 (.int .u8 s.c.k)).set 1 (.int .i64 s.c.n)).set 2 (.slice a' s.c.ws.length cap')
  exact ⟨_, rfl, rfl, _, S2.push 1⟩

theorem St.heap_back {W0 w : World} {L : List HProp} {p : Nat} {H : AHeap} {b cap : Nat} {vf : Value} {sv : List (ASlot × Value)} {rest : List Value} (e : sv.map Prod.fst = H.slots)
    (c1 : sv.length ≤ cap) (c2 : cap ≤ maxLen) (c3 : cap * 5 ≤ sv.length * 5 + rest.length)
    (h : St W0 w (cellsB b (sv.flatMap slotCells ++ rest).toArray 124 :: cellsB p #[.int .i64 H.room, .int .i64 H.most, .slice (some ⟨b, 0, none⟩) sv.length cap, vf] 109 :: ownS 3 1 vf H.free.length (intsV H.free) :: slotsW sv :: L)) :
    St W0 w (heapAt p H :: L) := by
  have h1 := h.own_mk (n := sv.length) (cap := cap) (sz := 5) (flat_len slotCells_len sv) c1 c2 (by rw [flat_len slotCells_len]; exact c3)
  exact St.heap_close e (h1.push 1)

def GetPost (W0 : World) (L : List HProp) (p : Nat) (H : AHeap) (x : AWord) (e : Ending) (w' : World) : Prop :=
  ∃ v, e = .returned (.tuple #[.agg #[.int .u8 (H.get x).1.k, .int .i64 (H.get x).1.n, v], .int .i64 (H.get x).2]) ∧ St W0 w' (wordsOwn v (H.get x).1.ws :: heapAt p H :: L)

set_option maxRecDepth 100000 in
theorem get_c {W0 w : World} {L : List HProp} {p : Nat} {H : AHeap} {B : Int} (h : St W0 w (heapAt p H :: L)) (ok : H.Ok B) (x : AWord) :
    Calls Try.prog 22 #[.pointer (some ⟨p, 0, none⟩), wv x] w fun e w' => GetPost W0 L p H x e w' := by
  have hmax : H.slots.length ≤ maxLen := by have := ok.few; have := ok.room1; unfold maxLen; omega
  have s0 := ((h.allocC #[Value.int .u8 x.k, .int .i64 x.n, .string x.s, .int .i64 x.g] 36).allocC #[Value.int .u8 0, .int .i64 0, .slice none 0 0] 34).allocC #[Value.int .u8 0, .int .i64 0, .slice none 0 0] 118
  simp only [World.size_alloc] at s0
  by_cases hk : (H.find x).1 = 0
  · obtain ⟨vs, vf, sv, e, hO⟩ := (s0.pull 3).heap_open
    obtain ⟨i, hi⟩ : ∃ i, H.find x = (0, i) := ⟨(H.find x).2, Prod.ext hk rfl⟩
    have hz := AHeap.find_zero hk
    rw [hi] at hz
    simp only at hz
    obtain ⟨v, hs⟩ := sv_get e hz.2.2.2.2.1
    obtain ⟨b, cap, rest, rfl, c1, c2, c3, s⟩ := hO.heap_slots (by rw [sv_len e]; exact Nat.lt_of_le_of_lt (Nat.zero_le _) hz.2.2.2.2.1)
    have hw : (H.slot i).c.ws.length ≤ 1000000 := Nat.le_trans (ok.words _ (AHeap.slot_mem hz.2.2.2.2.1)) (by omega)
    have AT := Lib.hid (at_good77 (w := (((w.alloc (.cells #[Value.int .u8 x.k, .int .i64 x.n, .string x.s, .int .i64 x.g] 36)).alloc (.cells #[Value.int .u8 0, .int .i64 0, .slice none 0 0] 34)).alloc (.cells #[Value.int .u8 0, .int .i64 0, .slice none 0 0] 118)))
      (fun w' hb => find_good e x hi hmax (s.mono hb)) (fun w' hb => take_c ((s.mono hb).pull 4) hs hw (((s.mono hb).pull 3).slots_rd hs)))
    unfold GetPost
    have hg : H.get x = ((H.slot i).c, 0) := by unfold AHeap.get; rw [hi]; rfl
    rw [hg]
    clear h s0 hO s ok hg hi hw hz hk hmax
    have HE := Lib.hid e
    have HS := Lib.hid (And.intro c1 (And.intro c2 c3))
    clear c1 c2 c3 hs e
    unfold wv at *
    go_enter Try.func22, Try.ntmps22
    go_wp2_with (go_at_call 76; refine AT.out.mono ?_; rintro e2 w2 ⟨_, rfl, rfl, v', S⟩; obtain ⟨a', cap', rfl, _⟩ := St.own_form S; have d := (S.pull 1).cell; have r := (S.pull 6).cell; have rf := (S.pull 6).free; have SS := Lib.hid S; clear S)
    have S2 := (((SS.out.pull 6).set 0 (.int .u8 (H.slot i).c.k)).set 1 (.int .i64 (H.slot i).c.n)).set 2 (.slice a' (H.slot i).c.ws.length cap')
    have d2 := S2.cell
    refine bodyPost_ret (v := .tuple #[.agg #[.int .u8 (H.slot i).c.k, .int .i64 (H.slot i).c.n, .slice a' (H.slot i).c.ws.length cap'], .int .i64 0]) (by simp [results, Try.results22, go_sem, d2]) rfl ⟨_, rfl, ?_⟩
    have S3 := St.heap_back HE.out HS.out.1 HS.out.2.1 HS.out.2.2 (S2.tail.push 5).tail
    exact ((S3.pull 1).pull 2).tail
  · obtain ⟨k, hk'⟩ : ∃ k, (H.find x).1 = k := ⟨_, rfl⟩
    have hg : H.get x = (.zero, k) := by unfold AHeap.get; rw [if_neg hk, hk']
    have k0 : k ≠ 0 := fun q => hk (hk'.trans q)
    have AT := Lib.hid (at_bad (q := .pointer (some ⟨p, 0, none⟩)) (x := x) (k := k) (w := (((w.alloc (.cells #[Value.int .u8 x.k, .int .i64 x.n, .string x.s, .int .i64 x.g] 36)).alloc (.cells #[Value.int .u8 0, .int .i64 0, .slice none 0 0] 34)).alloc (.cells #[Value.int .u8 0, .int .i64 0, .slice none 0 0] 118)))
      (beq_eq_false_iff_ne.2 k0) (.func (.func 77) #[.pointer (some ⟨w.heap.size + 1 + 1, 0, none⟩)] #[]) (fun w' hb => find_bad ((s0.pull 3).mono hb) x hk' k0 hmax))
    have HS := Lib.hid s0
    unfold GetPost
    rw [hg]
    clear h s0 ok hg hk hk' k0
    unfold wv at *
    go_enter Try.func22, Try.ntmps22
    go_wp2_with (go_at_call 76; refine AT.out.mono ?_; rintro e2 w2 ⟨rfl, hb⟩; have S := HS.out.mono hb; have d := S.cell; have r := (S.pull 1).cell; have rf := (S.pull 1).free; have SS := Lib.hid S; clear S hb)
    have S2 := (((SS.out.pull 1).set 0 (.int .u8 0)).set 1 (.int .i64 0)).set 2 (.slice none 0 0)
    have d2 := S2.cell
    refine bodyPost_ret (v := .tuple #[.agg #[.int .u8 0, .int .i64 0, .slice none 0 0], .int .i64 k]) (by simp [results, Try.results22, go_sem, d2]) rfl ⟨_, rfl, ?_⟩
    exact S2.tail.tail.tail.own_nil

end Go.Proofs.Ytciciaikajdenaa
