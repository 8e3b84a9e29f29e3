/- Free. -/
import Derived.Test.YtciciaikajdenaaW9
set_option linter.unusedSimpArgs false
set_option linter.unusedVariables false
namespace Go.Proofs.Ytciciaikajdenaa
open Go.RowKit

def DropPost (W0 : World) (L : List HProp) (p : Nat) (r : (ACell × Int) × AHeap) (e : Ending) (w' : World) : Prop :=
  ∃ v, e = .returned (.tuple #[.agg #[.int .u8 r.1.1.k, .int .i64 r.1.1.n, v], .int .i64 r.1.2]) ∧ St W0 w' (wordsOwn v r.1.1.ws :: heapAt p r.2 :: L)

def freeWorld (w : World) (p : Nat) (x : AWord) : World := ((((w.alloc (.cells #[Value.pointer (some ⟨p, 0, none⟩)] 25)).alloc (.cells #[Value.int .u8 x.k, .int .i64 x.n, .string x.s, .int .i64 x.g] 36)).alloc (.cells #[Value.int .u8 0, .int .i64 0, .slice none 0 0] 34)).alloc (.cells #[Value.int .u8 0, .int .i64 0, .slice none 0 0] 118)).alloc (.cells #[Value.pointer (some ⟨w.heap.size + 3, 0, none⟩)] 116)

def DropMid (W0 : World) (n : Nat) (L : List HProp) (p : Nat) (r : (ACell × Int) × AHeap) (e : Ending) (w' : World) : Prop :=
  e = .returned (.int .i64 r.1.2) ∧ ∃ v, St W0 w' (wordsOwn v r.1.1.ws :: cellsB (n + 3) #[.int .u8 r.1.1.k, .int .i64 r.1.1.n, v] 118 :: cellsB (n + 4) #[.pointer (some ⟨n + 3, 0, none⟩)] 116 :: cellsB (n + 2) #[.int .u8 0, .int .i64 0, .slice none 0 0] 34 :: heapAt p r.2 :: L)

theorem drop_mid {W0 w : World} {L : List HProp} {p : Nat} {H : AHeap} {B : Int} (h : St W0 w (heapAt p H :: L)) (ok : H.Ok B) (hB : B < 1000000000) (x : AWord) :
    Calls Try.prog 76 #[.pointer (some ⟨p, 0, none⟩), wv x, .func (.func 79) #[] #[.pointer (some ⟨w.heap.size + 4, 0, none⟩), .pointer (some ⟨w.heap.size, 0, none⟩), .pointer (some ⟨w.heap.size + 1, 0, none⟩)]] (freeWorld w p x)
      fun e w' => DropMid W0 w.heap.size L p (H.drop x) e w' := by
  have s0 := ((((h.allocC #[Value.pointer (some ⟨p, 0, none⟩)] 25).allocC #[Value.int .u8 x.k, .int .i64 x.n, .string x.s, .int .i64 x.g] 36).allocC #[Value.int .u8 0, .int .i64 0, .slice none 0 0] 34).allocC #[Value.int .u8 0, .int .i64 0, .slice none 0 0] 118).allocC #[Value.pointer (some ⟨w.heap.size + 3, 0, none⟩)] 116
  simp only [World.size_alloc, Nat.add_assoc, Nat.reduceAdd] at s0
  by_cases hk : (H.find x).1 = 0
  · obtain ⟨j, hj⟩ : ∃ j, H.find x = (0, j) := ⟨(H.find x).2, Prod.ext hk rfl⟩
    obtain ⟨vs, vf, sv, e, hO⟩ := (s0.pull 5).heap_open
    have hz := AHeap.find_zero hk
    rw [hj] at hz
    simp only at hz
    obtain ⟨hz1, hz2, hz3, hz4, hlt, hz6, hz7⟩ := hz
    obtain ⟨v, hs⟩ := sv_get e hlt
    obtain ⟨b, cap, rest, rfl, c1, c2, c3, s⟩ := hO.heap_slots (by rw [sv_len e]; exact Nat.lt_of_le_of_lt (Nat.zero_le _) hlt)
    -- [b, p, own, slotsW, pt, bt, res, px, ph, L]
    have hf : ∀ w', Below (freeWorld w p x).heap.size (freeWorld w p x) w' → Calls Try.prog 115 #[.pointer (some ⟨p, 0, none⟩), wv x] w' fun e w'' => e = .returned (.tuple #[.pointer (some ⟨b, j * 5, none⟩), .int .i64 0]) ∧ Below w'.heap.size w' w'' :=
      fun w' hb => find_good e x hj ok.max (s.mono hb)
    have hg : H.drop x = (((H.slot j).c, 0), H.freed j) := by unfold AHeap.drop; rw [hj]; rfl
    rw [hg]
    have hfl : H.free.length ≤ 1000000 := by
      have := ok.count; have := ok.few; have := ok.room1; omega
    have hgen := ok.gens _ (AHeap.slot_mem hlt)
    refine (at_good79 hf (fun w' hb => free1_c ((((((((((s.mono hb).pull 6).pull 4).pull 4).pull 4).pull 4).pull 6).pull 7).pull 8).pull 8) hs hz4 (Nat.le_trans (ok.words _ (AHeap.slot_mem hlt)) (by omega)) hgen.1 (by omega) hfl)).mono ?_
    rintro e' w' ⟨_, rfl, rfl, v', vf', T⟩
    refine ⟨rfl, v', ?_⟩
    have hl1 : sv.length = (sv.set j (⟨.zero, (H.slot j).gen + 1, false⟩, .slice none 0 0)).length := by simp
    have hl2 : H.free.length + 1 = (H.freed j).free.length := by simp [AHeap.freed]
    rw [hl2] at T
    generalize hsv : sv.set j (⟨.zero, (H.slot j).gen + 1, false⟩, .slice none 0 0) = sv' at T hl1
    have e' : sv'.map Prod.fst = (H.freed j).slots := by rw [← hsv]; exact slots_map_set e j _ _
    rw [hl1] at T c1 c3
    have T2 := St.heap_back e' c1 c2 c3 ((((T.pull 8).pull 8).pull 8).pull 8)
    exact ((((((T2.pull 6).pull 4).pull 4).pull 4).pull 6).pull 6).tail.tail
  · obtain ⟨k, hk'⟩ : ∃ k, (H.find x).1 = k := ⟨_, rfl⟩
    have k0 : k ≠ 0 := fun q => hk (hk'.trans q)
    have hg : H.drop x = ((.zero, k), H) := by unfold AHeap.drop; rw [if_pos hk, hk']
    rw [hg]
    refine (at_bad (w := freeWorld w p x) (x := x) (beq_eq_false_iff_ne.2 k0) _ (fun w' hb => find_bad ((s0.pull 5).mono hb) x hk' k0 ok.max)).mono ?_
    rintro e w' ⟨rfl, hb⟩
    have S := s0.mono hb
    -- [pt, bt, res, px, ph, heap, L]
    exact ⟨rfl, .slice none 0 0, ((((((S.pull 5).pull 3).pull 2).pull 3).pull 5).pull 5).tail.tail.own_nil⟩

set_option maxRecDepth 100000 in
theorem drop_c {W0 w : World} {L : List HProp} {p : Nat} {H : AHeap} {B : Int} (h : St W0 w (heapAt p H :: L)) (ok : H.Ok B) (hB : B < 1000000000) (x : AWord) :
    Calls Try.prog 24 #[.pointer (some ⟨p, 0, none⟩), wv x] w fun e w' => DropPost W0 L p (H.drop x) e w' := by
  have M := Lib.hid (drop_mid h ok hB x)
  unfold DropPost
  generalize H.drop x = r at *
  clear h ok hB
  unfold wv freeWorld at *
  go_enter Try.func24, Try.ntmps24
  go_wp2_with (go_at_call 76; refine M.out.mono ?_; rintro e2 w2 ⟨rfl, v, S⟩; obtain ⟨a, cap, rfl, _⟩ := St.own_form S; have d0 := (S.pull 1).cell; have d1 := (S.pull 2).cell; have d2 := (S.pull 3).cell; have f2 := (S.pull 3).free; have SS := Lib.hid S; clear S)
  simp only [Nat.add_assoc, Nat.reduceAdd]
  have S2 := (((SS.out.pull 3).set 0 (.int .u8 r.1.1.k)).set 1 (.int .i64 r.1.1.n)).set 2 (.slice a r.1.1.ws.length cap)
  have d2 := S2.cell
  refine bodyPost_ret (v := .tuple #[.agg #[.int .u8 r.1.1.k, .int .i64 r.1.1.n, .slice a r.1.1.ws.length cap], .int .i64 r.1.2]) (by simp [results, Try.results24, go_sem, d2]) rfl ⟨_, rfl, ?_⟩
  exact (((S2.tail.pull 2).tail).pull 1).tail

end Go.Proofs.Ytciciaikajdenaa
