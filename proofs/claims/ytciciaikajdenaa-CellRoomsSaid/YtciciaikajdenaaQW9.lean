/- Free. -/
import Derived.Test.YtciciaikajdenaaQW5
import Derived.Test.YtciciaikajdenaaLb
set_option linter.unusedSimpArgs false
set_option linter.unusedVariables false
namespace Go.Proofs.Ytciciaikajdenaa
open Go.RowKit

theorem flat_set5 (y : ASlot × Value) (r : List Value) : ∀ (sv : List (ASlot × Value)) (n : Nat), n < sv.length →
    (((((sv.flatMap slotCells ++ r).set (n * 5 + 4) (.bool y.1.lives)).set (n * 5) (.int .u8 y.1.c.k)).set (n * 5 + 1) (.int .i64 y.1.c.n)).set (n * 5 + 2) y.2).set (n * 5 + 3) (.int .i64 y.1.gen) = (sv.set n y).flatMap slotCells ++ r
  | [], n, h => by simp at h
  | z :: sv, 0, _ => by simp [slotCells]
  | z :: sv, n + 1, h => by
    have ih := flat_set5 y r sv n (by simpa using h)
    have e : ∀ l : List (ASlot × Value), (z :: l).flatMap slotCells ++ r = .int .u8 z.1.c.k :: .int .i64 z.1.c.n :: z.2 :: .int .i64 z.1.gen :: .bool z.1.lives :: (l.flatMap slotCells ++ r) := fun l => by simp [slotCells]
    have a0 : (n + 1) * 5 = n * 5 + 1 + 1 + 1 + 1 + 1 := by omega
    have a1 : (n + 1) * 5 + 1 = n * 5 + 1 + 1 + 1 + 1 + 1 + 1 := by omega
    have a2 : (n + 1) * 5 + 2 = n * 5 + 2 + 1 + 1 + 1 + 1 + 1 := by omega
    have a3 : (n + 1) * 5 + 3 = n * 5 + 3 + 1 + 1 + 1 + 1 + 1 := by omega
    have a4 : (n + 1) * 5 + 4 = n * 5 + 4 + 1 + 1 + 1 + 1 + 1 := by omega
    rw [show (z :: sv).set (n + 1) y = z :: sv.set n y from rfl, e, e, ← ih, a4, a3, a2, a1, a0]
    rfl

theorem info3 : (Try.prog.info? 3).map (fun i => (i.zero, i.size, i.bytes)) = some (some (.int .i64 0), 1, 8) := by kernel_rfl

def FreeMid (W0 : World) (pt ph px bt b p i : Nat) (room most : Int) (vs : Value) (x : AWord) (s : ASlot) (free : List Nat) (sv : List (ASlot × Value)) (rest : List Value) (M : List HProp) (r : Value) (w' : World) : Prop :=
  r = .int .i64 0 ∧ ∃ v' vf', St W0 w' (wordsOwn v' s.c.ws :: cellsB bt #[.int .u8 s.c.k, .int .i64 s.c.n, v'] 118 :: cellsB pt #[.pointer (some ⟨bt, 0, none⟩)] 116 :: cellsB ph #[.pointer (some ⟨p, 0, none⟩)] 25 :: cellsB px #[.int .u8 x.k, .int .i64 x.n, .string x.s, .int .i64 x.g] 36 ::
    cellsB b ((sv.set i (⟨.zero, s.gen + 1, false⟩, .slice none 0 0)).flatMap slotCells ++ rest).toArray 124 :: cellsB p #[.int .i64 room, .int .i64 most, vs, vf'] 109 :: ownS 3 1 vf' (free.length + 1) (intsV (free ++ [i])) :: slotsW (sv.set i (⟨.zero, s.gen + 1, false⟩, .slice none 0 0)) :: M)

section
variable {W0 w : World} {pt ph px bt b p i : Nat} {room most : Int} {vs vf v : Value} {x : AWord} {s : ASlot} {free : List Nat} {sv : List (ASlot × Value)} {rest : List Value} {M : List HProp}

set_option maxRecDepth 100000 in
set_option maxHeartbeats 1000000 in
theorem free1_c (h : St W0 w (cellsB pt #[.pointer (some ⟨bt, 0, none⟩)] 116 :: cellsB ph #[.pointer (some ⟨p, 0, none⟩)] 25 :: cellsB px #[.int .u8 x.k, .int .i64 x.n, .string x.s, .int .i64 x.g] 36 ::
      cellsB bt #[.int .u8 0, .int .i64 0, .slice none 0 0] 118 :: cellsB b (sv.flatMap slotCells ++ rest).toArray 124 :: cellsB p #[.int .i64 room, .int .i64 most, vs, vf] 109 :: ownS 3 1 vf free.length (intsV free) :: slotsW sv :: M))
    (hs : sv[i]? = some (s, v)) (hx : x.n = i) (hw : s.c.ws.length ≤ 1000000) (hg0 : 0 ≤ s.gen) (hg1 : s.gen < 1000000000) (hfl : free.length ≤ 1000000) :
    Calls Try.prog 79 #[.pointer (some ⟨b, i * 5, none⟩), .pointer (some ⟨pt, 0, none⟩), .pointer (some ⟨ph, 0, none⟩), .pointer (some ⟨px, 0, none⟩)] w
      fun e w' => ∃ r, e = .returned r ∧ FreeMid W0 pt ph px bt b p i room most vs x s free sv rest M r w' := by
  have TK := Lib.hid (take_c (((((h.pull 1).pull 2).pull 4).pull 4)) hs hw ((h.pull 7).slots_rd hs))
  obtain ⟨a, cap, rfl, _⟩ := St.own_form (h.pull 6)
  have d0 := h.cell
  have HG := Lib.hid (And.intro hs (And.intro hw hfl))
  have hi : i < sv.length := (List.getElem?_eq_some_iff.1 hs).1
  clear h hs hw hfl
  unfold FreeMid
  rw [hx] at *
  clear hx
  go_enter Try.func79, Try.ntmps79
  go_wp2_with (go_at_call 77; refine TK.out.mono ?_; rintro e w1 ⟨_, rfl, rfl, v', S⟩; obtain ⟨c0, c1, c2, c3, c4⟩ := slot_cells (S.pull 2) HG.out.1; have fb := (S.pull 2).free; have SS := Lib.hid S; clear S)
  have S3 := ((((((SS.out.pull 2).set (i * 5 + 4) (.bool false)).set (i * 5) (.int .u8 0)).set (i * 5 + 1) (.int .i64 0)).set (i * 5 + 2) (.slice none 0 0)).set (i * 5 + 3) (.int .i64 (s.gen + 1)))
  simp only [List.setIfInBounds_toArray] at S3
  have FlS := flat_set5 (⟨.zero, s.gen + 1, false⟩, .slice none 0 0) rest sv i hi
  dsimp only [ACell.zero] at FlS
  rw [FlS] at S3
  clear FlS
  clear c0 c1 c2 c3 c4 fb d0 SS
  refine abs_wp S3 ?_
  clear S3
  intro w2 S3
  refine wp_region_st S3 [0, 1, 2, 3, 4, 5, 6, 7, 8, 9, 10, 11] (fun w' => (∀ o, w'.cell? ⟨ph, o, none⟩ = #[Value.pointer (some ⟨p, 0, none⟩)][o]?) ∧ (∀ o, w'.cell? ⟨px, o, none⟩ = #[Value.int .u8 x.k, .int .i64 i, .string x.s, .int .i64 x.g][o]?) ∧ (∀ o, w'.cell? ⟨p, o, none⟩ = #[Value.int .i64 room, .int .i64 most, vs, .slice a free.length cap][o]?)) [0, 1, 4, 6] [7, 8, 11] [11] (by kernel_rfl) (by kernel_rfl) (fun c d v a w h => by cases d <;> exact h) ?_
  clear S3
  intro w3 S3
  have HF := Lib.hid (And.intro (S3.pull 4).cell (And.intro (S3.pull 3).cell (S3.pull 6).cell))
  iterate 7
    (first
      | refine walk_load rfl rfl rfl HF.out rfl (by rintro w' ⟨g0, g1, g2⟩; go_simp; with_reducible rfl) ?_
      | refine walk_pure rfl rfl rfl rfl (by intro w'; go_simp; with_reducible rfl) ?_)
    simp only [Act.put, List.setIfInBounds_toArray, List.set_cons_zero, List.set_cons_succ]
  clear HF
  have S4 := S3.allocC #[Value.int .i64 i] 3
  refine walk_do rfl rfl rfl (fun K hK => ?_)
  go_simp
  refine hK _ _ (fun _ => And.intro (S4.pull 5).cell (And.intro (S4.pull 4).cell (S4.pull 7).cell)) ?_
  clear hK K
  generalize w3.heap.size = B at S4 ⊢
  refine abs_walk S4 ?_
  clear S3 S4
  intro w4 S4
  obtain ⟨ii, hi1, hz0, hz1, hz2⟩ := info_parts info3
  refine walk_do rfl rfl rfl (fun K hK => ?_)
  refine wp_append_st (S4.pull 8) (rd_cells (sz := 1) (n := 1) (cap := 1) S4 (Nat.le_refl _) rfl) (by simp [Value.oneCell']) hi1 hz0 hz1 hz2 rfl (by have := HG.out.2.2; unfold maxLen; omega) (by have := HG.out.2.2; omega) Try.underlying52 _ _ rfl rfl rfl ?_
  intro vf' w5 S5 _
  obtain ⟨a2, cap2, rfl, _⟩ := S5.own_form
  refine hK _ _ (fun _ => And.intro (S5.pull 6).cell (And.intro (S5.pull 5).cell (S5.pull 8).cell)) ?_
  clear hK K S4
  simp only [Act.put, List.setIfInBounds_toArray, List.set_cons_zero, List.set_cons_succ]
  iterate 2
    refine walk_pure rfl rfl rfl rfl (by intro w'; go_simp; with_reducible rfl) ?_
    simp only [Act.put, List.setIfInBounds_toArray, List.set_cons_zero, List.set_cons_succ]
  have cp := (S5.pull 8).cell
  have fp := (S5.pull 8).free
  refine walk_do rfl rfl rfl (fun K hK => ?_)
  go_simp
  refine hK _ _ (fun h => by cases h) (walk_nil ?_)
  clear hK K cp fp
  have S6 := (S5.pull 8).set 3 (.slice a2 (free.length + 1) cap2)
  go_wp2
  go_ret
  have e : intsV free ++ [Value.int .i64 (i : Int)] = intsV (free ++ [i]) := by simp [intsV]
  have S7 : St W0 _ (cellsB p #[.int .i64 room, .int .i64 most, vs, .slice a2 (free.length + 1) cap2] 109 :: ownS 3 1 (.slice a2 (free.length + 1) cap2) (free.length + 1) (intsV (free ++ [i])) :: _) := e ▸ S6
  have S8 := (((S7.pull 9).slots_take HG.out.1).tail.own_nil (T := 36) (sz := 4))
  have S9 := St.slots_set (s := ⟨⟨0, 0, []⟩, s.gen + 1, false⟩) (v := .slice none 0 0) S8 hi
  have S10 := (S9.pull 3).tail
  exact ⟨_, rfl, rfl, _, _, (((((((S10.pull 2).pull 2).pull 3).pull 6).pull 7).pull 8).pull 8).pull 8⟩
end

end Go.Proofs.Ytciciaikajdenaa
/- Free. -/
set_option linter.unusedSimpArgs false
set_option linter.unusedVariables false
namespace Go.Proofs.Ytciciaikajdenaa
open Go.RowKit

def DropPost (W0 : World) (L : List HProp) (p : Nat) (r : (ACell × Int) × AHeap) (e : Ending) (w' : World) : Prop :=
  ∃ v, e = .returned (.tuple #[.agg #[.int .u8 r.1.1.k, .int .i64 r.1.1.n, v], .int .i64 r.1.2]) ∧ St W0 w' (wordsOwn v r.1.1.ws :: heapAt p r.2 :: L)

def freeWorld (w : World) (p : Nat) (x : AWord) : World := ((((w.alloc (.cells #[Value.pointer (some ⟨p, 0, none⟩)] 25)).alloc (.cells #[Value.int .u8 x.k, .int .i64 x.n, .string x.s, .int .i64 x.g] 36)).alloc (.cells #[Value.int .u8 0, .int .i64 0, .slice none 0 0] 34)).alloc (.cells #[Value.int .u8 0, .int .i64 0, .slice none 0 0] 118)).alloc (.cells #[Value.pointer (some ⟨w.heap.size + 3, 0, none⟩)] 116)

def DropMid (W0 : World) (n : Nat) (L : List HProp) (p : Nat) (r : (ACell × Int) × AHeap) (e : Ending) (w' : World) : Prop :=
  e = .returned (.int .i64 r.1.2) ∧ ∃ v, St W0 w' (wordsOwn v r.1.1.ws :: cellsB (n + 3) #[.int .u8 r.1.1.k, .int .i64 r.1.1.n, v] 118 :: cellsB (n + 4) #[.pointer (some ⟨n + 3, 0, none⟩)] 116 :: cellsB (n + 2) #[.int .u8 0, .int .i64 0, .slice none 0 0] 34 :: heapAt p r.2 :: L)

theorem drop_mid {W0 w : World} {L : List HProp} {p : Nat} {H : AHeap} {B : Int} (h : St W0 w (heapAt p H :: L)) (ok : H.Ok B) (hB : B < 1000000000) (x : AWord) :
    Calls Try.prog 76 #[.pointer (some ⟨p, 0, none⟩), wv x, .func (.func 79) #[] #[.pointer (some ⟨w.heap.size + 4, 0, none⟩), .pointer (some ⟨w.heap.size, 0, none⟩), .pointer (some ⟨w.heap.size + 1, 0, none⟩)]] (freeWorld w p x)
      fun e w' => DropMid W0 w.heap.size L p (H.drop x) e w' := by
  have s0 := ((((h.allocC #[Value.pointer (some ⟨p, 0, none⟩)] 25).allocC #[Value.int .u8 x.k, .int .i64 x.n, .string x.s, .int .i64 x.g] 36).allocC #[Value.int .u8 0, .int .i64 0, .slice none 0 0] 34).allocC #[Value.int .u8 0, .int .i64 0, .slice none 0 0] 118).allocC #[Value.pointer (some ⟨w.heap.size + 3, 0, none⟩)] 116
  simp only [World.size_alloc, Nat.add_assoc, Nat.reduceAdd] at s0
  by_cases hk : (H.find x).1 = 0
  · obtain ⟨j, hj⟩ : ∃ j, H.find x = (0, j) := ⟨(H.find x).2, Prod.ext hk rfl⟩
    obtain ⟨vs, vf, sv, e, hO⟩ := (s0.pull 5).heap_open
    have hz := AHeap.find_zero hk
    rw [hj] at hz
    simp only at hz
    obtain ⟨hz1, hz2, hz3, hz4, hlt, hz6, hz7⟩ := hz
    obtain ⟨v, hs⟩ := sv_get e hlt
    obtain ⟨b, cap, rest, rfl, c1, c2, c3, s⟩ := hO.heap_slots (by rw [sv_len e]; exact Nat.lt_of_le_of_lt (Nat.zero_le _) hlt)
    -- [b, p, own, slotsW, pt, bt, res, px, ph, L]
    have hf : ∀ w', Below (freeWorld w p x).heap.size (freeWorld w p x) w' → Calls Try.prog 115 #[.pointer (some ⟨p, 0, none⟩), wv x] w' fun e w'' => e = .returned (.tuple #[.pointer (some ⟨b, j * 5, none⟩), .int .i64 0]) ∧ Below w'.heap.size w' w'' :=
      fun w' hb => find_good e x hj ok.max (s.mono hb)
    have hg : H.drop x = (((H.slot j).c, 0), H.freed j) := by unfold AHeap.drop; rw [hj]; rfl
    rw [hg]
    have hfl : H.free.length ≤ 1000000 := by
      have := ok.count; have := ok.few; have := ok.room1; omega
    have hgen := ok.gens _ (AHeap.slot_mem hlt)
    refine (at_good79 hf (fun w' hb => free1_c ((((((((((s.mono hb).pull 6).pull 4).pull 4).pull 4).pull 4).pull 6).pull 7).pull 8).pull 8) hs hz4 (Nat.le_trans (ok.words _ (AHeap.slot_mem hlt)) (by omega)) hgen.1 (by omega) hfl)).mono ?_
    rintro e' w' ⟨_, rfl, rfl, v', vf', T⟩
    refine ⟨rfl, v', ?_⟩
    have hl1 : sv.length = (sv.set j (⟨.zero, (H.slot j).gen + 1, false⟩, .slice none 0 0)).length := by simp
    have hl2 : H.free.length + 1 = (H.freed j).free.length := by simp [AHeap.freed]
    rw [hl2] at T
    generalize hsv : sv.set j (⟨.zero, (H.slot j).gen + 1, false⟩, .slice none 0 0) = sv' at T hl1
    have e' : sv'.map Prod.fst = (H.freed j).slots := by rw [← hsv]; exact slots_map_set e j _ _
    rw [hl1] at T c1 c3
    have T2 := St.heap_back e' c1 c2 c3 ((((T.pull 8).pull 8).pull 8).pull 8)
    exact ((((((T2.pull 6).pull 4).pull 4).pull 4).pull 6).pull 6).tail.tail
  · obtain ⟨k, hk'⟩ : ∃ k, (H.find x).1 = k := ⟨_, rfl⟩
    have k0 : k ≠ 0 := fun q => hk (hk'.trans q)
    have hg : H.drop x = ((.zero, k), H) := by unfold AHeap.drop; rw [if_pos hk, hk']
    rw [hg]
    refine (at_bad (w := freeWorld w p x) (x := x) (beq_eq_false_iff_ne.2 k0) _ (fun w' hb => find_bad ((s0.pull 5).mono hb) x hk' k0 ok.max)).mono ?_
    rintro e w' ⟨rfl, hb⟩
    have S := s0.mono hb
    -- [pt, bt, res, px, ph, heap, L]
    exact ⟨rfl, .slice none 0 0, ((((((S.pull 5).pull 3).pull 2).pull 3).pull 5).pull 5).tail.tail.own_nil⟩

set_option maxRecDepth 100000 in
theorem drop_c {W0 w : World} {L : List HProp} {p : Nat} {H : AHeap} {B : Int} (h : St W0 w (heapAt p H :: L)) (ok : H.Ok B) (hB : B < 1000000000) (x : AWord) :
    Calls Try.prog 24 #[.pointer (some ⟨p, 0, none⟩), wv x] w fun e w' => DropPost W0 L p (H.drop x) e w' := by
  have M := Lib.hid (drop_mid h ok hB x)
  unfold DropPost
  generalize H.drop x = r at *
  clear h ok hB
  unfold wv freeWorld at *
  go_enter Try.func24, Try.ntmps24
  go_wp2_with (go_at_call 76; refine M.out.mono ?_; rintro e2 w2 ⟨rfl, v, S⟩; obtain ⟨a, cap, rfl, _⟩ := St.own_form S; have d0 := (S.pull 1).cell; have d1 := (S.pull 2).cell; have d2 := (S.pull 3).cell; have f2 := (S.pull 3).free; have SS := Lib.hid S; clear S)
  simp only [Nat.add_assoc, Nat.reduceAdd]
  have S2 := (((SS.out.pull 3).set 0 (.int .u8 r.1.1.k)).set 1 (.int .i64 r.1.1.n)).set 2 (.slice a r.1.1.ws.length cap)
  have d2 := S2.cell
  refine bodyPost_ret (v := .tuple #[.agg #[.int .u8 r.1.1.k, .int .i64 r.1.1.n, .slice a r.1.1.ws.length cap], .int .i64 r.1.2]) (by simp [results, Try.results24, go_sem, d2]) rfl ⟨_, rfl, ?_⟩
  exact (((S2.tail.pull 2).tail).pull 1).tail

end Go.Proofs.Ytciciaikajdenaa
/- Renew. -/
set_option linter.unusedSimpArgs false
set_option linter.unusedVariables false
namespace Go.Proofs.Ytciciaikajdenaa
open Go.RowKit

/-- One cell of one slot is written. -/
theorem set_slot {y : ASlot × Value} {u : Value} (r : List Value) : ∀ {sv : List (ASlot × Value)} {n j : Nat} {z : ASlot × Value}, sv[n]? = some z → j < 5 → slotCells y = (slotCells z).set j u →
    (sv.flatMap slotCells ++ r).set (n * 5 + j) u = (sv.set n y).flatMap slotCells ++ r
  | [], n, j, z, h, _, _ => by simp at h
  | a :: sv, 0, j, z, h, hj, e => by
    simp at h; subst h
    simp only [List.flatMap_cons, Nat.zero_mul, Nat.zero_add, List.set_cons_zero, e, List.append_assoc]
    rw [List.set_append_left _ _ (by rw [slotCells_len]; exact hj)]
  | a :: sv, n + 1, j, z, h, hj, e => by
    have ih := set_slot (y := y) (u := u) r (sv := sv) (n := n) (j := j) (z := z) (by simpa using h) hj e
    simp only [List.flatMap_cons, List.set_cons_succ, List.append_assoc]
    rw [List.set_append_right _ _ (by rw [slotCells_len]; omega), slotCells_len, show (n + 1) * 5 + j - 5 = n * 5 + j by omega, ih]

theorem set_get {α : Type} {sv : List α} {n : Nat} {y z : α} (h : sv[n]? = some z) : (sv.set n y)[n]? = some y := by
  have := (List.getElem?_eq_some_iff.1 h).1
  simp [this]

def RenewMid (W0 : World) (pc b i : Nat) (c : ACell) (vc : Value) (s : ASlot) (sv : List (ASlot × Value)) (rest : List Value) (M : List HProp) (r : Value) (w' : World) : Prop :=
  (c.ok = false ∧ r = .int .i64 2 ∧ St W0 w' (cellsB pc #[.int .u8 c.k, .int .i64 c.n, vc] 34 :: cellsB b (sv.flatMap slotCells ++ rest).toArray 124 :: slotsW sv :: M)) ∨
  (c.ok = true ∧ r = .int .i64 0 ∧ ∃ v', St W0 w' (cellsB pc #[.int .u8 c.k, .int .i64 c.n, vc] 34 :: cellsB b ((sv.set i (⟨c, s.gen + 1, s.lives⟩, v')).flatMap slotCells ++ rest).toArray 124 :: slotsW (sv.set i (⟨c, s.gen + 1, s.lives⟩, v')) :: M))

section
variable {W0 w : World} {pc b i : Nat} {c : ACell} {vc v : Value} {s : ASlot} {sv : List (ASlot × Value)} {rest : List Value} {M : List HProp}

set_option maxRecDepth 100000 in
set_option maxHeartbeats 1000000 in
theorem renew1_c (h : St W0 w (cellsB pc #[.int .u8 c.k, .int .i64 c.n, vc] 34 :: cellsB b (sv.flatMap slotCells ++ rest).toArray 124 :: slotsW sv :: M))
    (hR : ∀ w', St W0 w' M → rd w' 4 vc c.ws.length (flatW c.ws)) (hm : c.ws.length ≤ maxLen)
    (hs : sv[i]? = some (s, v)) (hg0 : 0 ≤ s.gen) (hg1 : s.gen < 1000000000) :
    Calls Try.prog 81 #[.pointer (some ⟨b, i * 5, none⟩), .pointer (some ⟨pc, 0, none⟩)] w
      fun e w' => ∃ r, e = .returned r ∧ RenewMid W0 pc b i c vc s sv rest M r w' := by
  have MY := Lib.hid (may_c c vc w (hR w h.tail.tail.tail) hm)
  have d0 := h.cell
  have HH := Lib.hid h
  have HR := Lib.hid hR
  have HS := Lib.hid hs
  have hi : i < sv.length := (List.getElem?_eq_some_iff.1 hs).1
  clear h hs hR hm
  unfold cv at MY
  cases hok : c.ok
  · have HO := Lib.hid hok
    clear hok
    go_enter Try.func81, Try.ntmps81
    go_wp2_with (go_at_call 18; refine MY.out.mono ?_; rintro e w1 ⟨rfl, hb⟩; rw [HO.out])
    go_ret
    exact ⟨_, rfl, .inl ⟨HO.out, rfl, HH.out.mono hb⟩⟩
  · have HO := Lib.hid hok
    clear hok
    have hok64 : c.ws.length ≤ 1000000 := by
      have := HO.out
      unfold ACell.ok at this
      simp only [Bool.and_eq_true, decide_eq_true_eq] at this
      omega
    have HK := Lib.hid hok64
    clear hok64
    go_enter Try.func81, Try.ntmps81
    go_wp2_with (go_at_call 18; refine MY.out.mono ?_; rintro e w1 ⟨rfl, hb⟩; rw [HO.out]; have S := HH.out.mono hb; obtain ⟨c0, c1, c2, c3, c4⟩ := slot_cells (S.pull 1) HS.out; have fb := (S.pull 1).free; clear d0; have d0 := S.cell; have ne := (S.pull 1).ne; have SS := Lib.hid S; clear S hb)
    have S1 := (SS.out.pull 1).set (i * 5 + 3) (.int .i64 (s.gen + 1))
    simp only [List.setIfInBounds_toArray] at S1
    rw [set_slot (y := (⟨s.c, s.gen + 1, s.lives⟩, v)) rest HS.out (by omega) rfl] at S1
    refine (copied_c c vc _ HK.out (HR.out _ S1.tail.tail.tail)).mono ?_
    rintro e w2 ⟨v', rfl, k⟩
    obtain ⟨a', cap', rfl, _⟩ := St.own_form k
    have S2 := S1.chain k
    clear c0 c1 c2 c3 c4 fb d0 ne SS S1 k
    have hs1 := set_get (y := ((⟨s.c, s.gen + 1, s.lives⟩ : ASlot), v)) HS.out
    obtain ⟨c0, c1, c2, c3, c4⟩ := slot_cells (S2.pull 1) hs1
    have fb := (S2.pull 1).free
    have HS1 := Lib.hid hs1
    have SS := Lib.hid S2
    clear S2 hs1
    unfold cv
    go_wp2
    go_ret
    have S3 := (SS.out.pull 1).set (i * 5) (.int .u8 c.k)
    simp only [List.setIfInBounds_toArray] at S3
    have e0 := set_slot (y := (⟨⟨c.k, s.c.n, s.c.ws⟩, s.gen + 1, s.lives⟩, v)) rest (j := 0) HS1.out (by omega) rfl
    rw [Nat.add_zero] at e0
    rw [e0] at S3
    have h3 := set_get (y := ((⟨⟨c.k, s.c.n, s.c.ws⟩, s.gen + 1, s.lives⟩ : ASlot), v)) HS1.out
    have S4 := S3.set (i * 5 + 1) (.int .i64 c.n)
    simp only [List.setIfInBounds_toArray] at S4
    rw [set_slot (y := (⟨⟨c.k, c.n, s.c.ws⟩, s.gen + 1, s.lives⟩, v)) rest h3 (by omega) rfl] at S4
    have h4 := set_get (y := ((⟨⟨c.k, c.n, s.c.ws⟩, s.gen + 1, s.lives⟩ : ASlot), v)) h3
    have S5 := S4.set (i * 5 + 2) (.slice a' c.ws.length cap')
    simp only [List.setIfInBounds_toArray] at S5
    rw [set_slot (y := (⟨c, s.gen + 1, s.lives⟩, .slice a' c.ws.length cap')) rest h4 (by omega) rfl] at S5
    simp only [List.set_set] at S5
    have S6 := (St.slots_take (S5.pull 3) HS.out).tail
    have S7 := St.slots_set (s := ⟨c, s.gen + 1, s.lives⟩) (v := .slice a' c.ws.length cap') (S6.pull 2) hi
    exact ⟨_, rfl, .inr ⟨HO.out, rfl, _, (S7.pull 1).pull 2⟩⟩
end

def RenewPost (W0 : World) (L : List HProp) (p : Nat) (r : (AWord × Int) × AHeap) (e : Ending) (w' : World) : Prop :=
  e = .returned (.tuple #[wv r.1.1, .int .i64 r.1.2]) ∧ St W0 w' (heapAt p r.2 :: L)

def renewWorld (w : World) (x : AWord) (c : ACell) (vc : Value) : World := ((w.alloc (.cells #[Value.int .u8 x.k, .int .i64 x.n, .string x.s, .int .i64 x.g] 36)).alloc (.cells #[Value.int .u8 c.k, .int .i64 c.n, vc] 34)).alloc (.cells #[Value.int .u8 0, .int .i64 0, .string ⟨#[]⟩, .int .i64 0] 36)

def RenewMid2 (W0 : World) (n : Nat) (L : List HProp) (p : Nat) (x : AWord) (r : (AWord × Int) × AHeap) (e : Ending) (w' : World) : Prop :=
  e = .returned (.int .i64 r.1.2) ∧ St W0 w' (cellsB n #[.int .u8 x.k, .int .i64 x.n, .string x.s, .int .i64 x.g] 36 :: cellsB (n + 2) #[.int .u8 0, .int .i64 0, .string ⟨#[]⟩, .int .i64 0] 36 :: heapAt p r.2 :: L)

theorem renew_mid {W0 w : World} {L : List HProp} {p : Nat} {H : AHeap} {B : Int} (h : St W0 w (heapAt p H :: L)) (ok : H.Ok B) (hB : B < 1000000000) (x : AWord) (c : ACell) (vc : Value)
    (hR : ∀ w', St W0 w' L → rd w' 4 vc c.ws.length (flatW c.ws)) (hm : c.ws.length ≤ maxLen) :
    Calls Try.prog 76 #[.pointer (some ⟨p, 0, none⟩), wv x, .func (.func 81) #[] #[.pointer (some ⟨w.heap.size + 1, 0, none⟩)]] (renewWorld w x c vc)
      fun e w' => RenewMid2 W0 w.heap.size L p x (H.renew x c) e w' := by
  have s0 := ((h.allocC #[Value.int .u8 x.k, .int .i64 x.n, .string x.s, .int .i64 x.g] 36).allocC #[Value.int .u8 c.k, .int .i64 c.n, vc] 34).allocC #[Value.int .u8 0, .int .i64 0, .string ⟨#[]⟩, .int .i64 0] 36
  simp only [World.size_alloc, Nat.add_assoc, Nat.reduceAdd] at s0
  -- [res, pc, px, heap, L]
  by_cases hk : (H.find x).1 = 0
  · obtain ⟨j, hj⟩ : ∃ j, H.find x = (0, j) := ⟨(H.find x).2, Prod.ext hk rfl⟩
    obtain ⟨vs, vf, sv, e, hO⟩ := (s0.pull 3).heap_open
    have hz := AHeap.find_zero hk
    rw [hj] at hz
    simp only at hz
    obtain ⟨hz1, hz2, hz3, hz4, hlt, hz6, hz7⟩ := hz
    obtain ⟨v, hs⟩ := sv_get e hlt
    obtain ⟨b, cap, rest, rfl, c1, c2, c3, s⟩ := hO.heap_slots (by rw [sv_len e]; exact Nat.lt_of_le_of_lt (Nat.zero_le _) hlt)
    -- [b, p, own, slotsW, res, pc, px, L]
    have hf : ∀ w', Below (renewWorld w x c vc).heap.size (renewWorld w x c vc) w' → Calls Try.prog 115 #[.pointer (some ⟨p, 0, none⟩), wv x] w' fun e w'' => e = .returned (.tuple #[.pointer (some ⟨b, j * 5, none⟩), .int .i64 0]) ∧ Below w'.heap.size w' w'' :=
      fun w' hb => find_good e x hj ok.max (s.mono hb)
    have hgen := ok.gens _ (AHeap.slot_mem hlt)
    have back : ∀ {w' : World} {sv' : List (ASlot × Value)} {H' : AHeap}, sv'.map Prod.fst = H'.slots → sv'.length = sv.length → H'.room = H.room → H'.most = H.most → H'.free = H.free →
        St W0 w' (cellsB (w.heap.size + 1) #[.int .u8 c.k, .int .i64 c.n, vc] 34 :: cellsB b (sv'.flatMap slotCells ++ rest).toArray 124 :: slotsW sv' :: cellsB p #[.int .i64 H.room, .int .i64 H.most, .slice (some ⟨b, 0, none⟩) sv.length cap, vf] 109 :: ownS 3 1 vf H.free.length (intsV H.free) :: cellsB w.heap.size #[.int .u8 x.k, .int .i64 x.n, .string x.s, .int .i64 x.g] 36 :: cellsB (w.heap.size + 2) #[.int .u8 0, .int .i64 0, .string ⟨#[]⟩, .int .i64 0] 36 :: L) →
        St W0 w' (cellsB w.heap.size #[.int .u8 x.k, .int .i64 x.n, .string x.s, .int .i64 x.g] 36 :: cellsB (w.heap.size + 2) #[.int .u8 0, .int .i64 0, .string ⟨#[]⟩, .int .i64 0] 36 :: heapAt p H' :: L) := by
      intro w' sv' H' e1 e2 e4 e5 e6 T
      rw [← e2, ← e4, ← e5, ← e6] at T
      have T2 := St.heap_back e1 (by rw [e2]; exact c1) c2 (by rw [e2]; exact c3) (((T.tail.pull 1).pull 3).pull 3 |>.pull 3)
      exact (T2.pull 1).pull 2 |>.pull 1
    refine (at_good81 hf (fun w' hb => renew1_c ((((((((s.mono hb).pull 4).pull 6).pull 4).pull 4).pull 5).pull 5).pull 6) (fun w2 S => hR w2 S.tail.tail.tail.tail) hm hs hgen.1 (by omega))).mono ?_
    rintro e' w' ⟨_, rfl, hT⟩
    rcases hT with ⟨hc, rfl, T⟩ | ⟨hc, rfl, v', T⟩
    · have hg : H.renew x c = ((.zero, 2), H) := by unfold AHeap.renew; rw [hj]; simp only [ne_eq, not_true_eq_false, if_false, hc, if_true]
      rw [hg]
      exact ⟨rfl, back e rfl rfl rfl rfl (T.pull 0)⟩
    · have hg : H.renew x c = ((cellWord x.n (x.g + 1), 0), H.renewed j c) := by unfold AHeap.renew; rw [hj]; simp only [ne_eq, not_true_eq_false, if_false, hc, Bool.true_eq_false]
      rw [hg]
      rw [hz6] at T
      exact ⟨rfl, back (slots_map_set e j _ v') (by simp) rfl rfl rfl T⟩
  · obtain ⟨k, hk'⟩ : ∃ k, (H.find x).1 = k := ⟨_, rfl⟩
    have k0 : k ≠ 0 := fun q => hk (hk'.trans q)
    have hg : H.renew x c = ((.zero, k), H) := by unfold AHeap.renew; rw [if_pos hk, hk']
    rw [hg]
    refine (at_bad (w := renewWorld w x c vc) (x := x) (beq_eq_false_iff_ne.2 k0) _ (fun w' hb => find_bad ((s0.pull 3).mono hb) x hk' k0 ok.max)).mono ?_
    rintro e w' ⟨rfl, hb⟩
    have S := s0.mono hb
    exact ⟨rfl, ((S.pull 1).tail).pull 1⟩

theorem empty_of {s : ByteArray} (h : s.toList.isEmpty = true) : s = ⟨#[]⟩ :=
  (toList_nil_iff_emptyBytes s).1 (by simpa using h)

theorem cell_word {x : AWord} (hk : x.k = 5) (ho : x.ok = true) (g : Int) : cellWord x.n g = ⟨x.k, x.n, x.s, g⟩ := by
  have hs : x.s = ⟨#[]⟩ := by
    apply empty_of
    unfold AWord.ok at ho
    simp [hk] at ho
    simpa using ho.1.2
  rw [hk, hs]; rfl

set_option maxRecDepth 100000 in
theorem renew_c {W0 w : World} {L : List HProp} {p : Nat} {H : AHeap} {B : Int} (h : St W0 w (heapAt p H :: L)) (ok : H.Ok B) (hB : B < 1000000000) (x : AWord) (c : ACell) (vc : Value)
    (hR : ∀ w', St W0 w' L → rd w' 4 vc c.ws.length (flatW c.ws)) (hm : c.ws.length ≤ maxLen) :
    Calls Try.prog 29 #[.pointer (some ⟨p, 0, none⟩), wv x, cv c vc] w fun e w' => RenewPost W0 L p (H.renew x c) e w' := by
  have M := Lib.hid (renew_mid h ok hB x c vc hR hm)
  obtain ⟨a, cap, rfl⟩ : ∃ a cap, vc = .slice a c.ws.length cap := by
    rcases (hR w h.tail).2 with ⟨⟨_, _, rfl⟩, e⟩ | ⟨b, off, cap, rfl, _⟩
    · exact ⟨_, _, by rw [e]⟩
    · exact ⟨_, _, rfl⟩
  unfold RenewPost
  have hres : (H.renew x c).1.2 = 0 → (H.renew x c).1.1 = ⟨x.k, x.n, x.s, x.g + 1⟩ ∧ 0 ≤ x.g ∧ x.g < 1000000000 := by
    unfold AHeap.renew
    split
    · rename_i h1; intro h2; exact absurd h2 h1
    · rename_i h1
      simp only [ne_eq, Decidable.not_not] at h1
      split
      · intro h2; cases h2
      · intro _
        have hz := AHeap.find_zero h1
        have hg := ok.gens _ (AHeap.slot_mem hz.2.2.2.2.1)
        rw [hz.2.2.2.2.2.2] at hg
        exact ⟨cell_word hz.1 hz.2.1 _, hg.1, by omega⟩
  have hz0 : (H.renew x c).1.2 ≠ 0 → (H.renew x c).1.1 = .zero := by
    unfold AHeap.renew
    split
    · intro _; rfl
    · split
      · intro _; rfl
      · intro h2; exact absurd rfl h2
  generalize H.renew x c = r at *
  clear h ok hB hR hm
  by_cases hr : r.1.2 = 0
  · obtain ⟨h1, h2, h3⟩ := hres hr
    have HR := Lib.hid h1
    have HRR := Lib.hid hr
    have hb : (r.1.2 != 0) = false := by simp [hr]
    clear hz0 hres h1 hr
    unfold wv cv renewWorld at *
    go_enter Try.func29, Try.ntmps29
    go_wp2_with (go_at_call 76; refine M.out.mono ?_; rintro e2 w2 ⟨rfl, S⟩; have d0 := S.cell; have f0 := S.free; have d2 := (S.pull 1).cell; have f2 := (S.pull 1).free; have ne := S.ne; have SS := Lib.hid S; clear S)
    simp only [Nat.add_assoc, Nat.reduceAdd]
    have S2 := (((((SS.out.set 3 (.int .i64 (x.g + 1))).pull 1).set 0 (.int .u8 x.k)).set 1 (.int .i64 x.n)).set 2 (.string x.s)).set 3 (.int .i64 (x.g + 1))
    have d2 := S2.cell
    refine bodyPost_ret (v := .tuple #[.agg #[.int .u8 x.k, .int .i64 x.n, .string x.s, .int .i64 (x.g + 1)], .int .i64 0]) (by simp [results, Try.results29, go_sem, d2]) rfl ⟨?_, S2.tail.tail⟩
    rw [HR.out, HRR.out]
  · have HR := Lib.hid (hz0 hr)
    have hb : (r.1.2 != 0) = true := by simp [hr]
    clear hz0 hres hr
    unfold wv cv renewWorld at *
    go_enter Try.func29, Try.ntmps29
    go_wp2_with (go_at_call 76; refine M.out.mono ?_; rintro e2 w2 ⟨rfl, S⟩; have d2 := (S.pull 1).cell; have f2 := (S.pull 1).free; have SS := Lib.hid S; clear S)
    simp only [Nat.add_assoc, Nat.reduceAdd]
    have S2 := ((((SS.out.pull 1).set 0 (.int .u8 0)).set 1 (.int .i64 0)).set 2 (.string ⟨#[]⟩)).set 3 (.int .i64 0)
    have d2 := S2.cell
    refine bodyPost_ret (v := .tuple #[.agg #[.int .u8 0, .int .i64 0, .string ⟨#[]⟩, .int .i64 0], .int .i64 r.1.2]) (by simp [results, Try.results29, go_sem, d2]) rfl ⟨?_, S2.tail.tail⟩
    rw [HR.out]; rfl

end Go.Proofs.Ytciciaikajdenaa
/- give. -/
set_option linter.unusedSimpArgs false
set_option linter.unusedVariables false
namespace Go.Proofs.Ytciciaikajdenaa
open Go.RowKit

theorem info124 : (Try.prog.info? 124).map (fun i => (i.zero, i.size, i.bytes)) = some (some (.agg #[.int .u8 0, .int .i64 0, .slice none 0 0, .int .i64 0, .bool false]), 5, 56) := by kernel_rfl

/-- A slot's contents and its life are written. -/
theorem St.slot4 {W0 w : World} {L : List HProp} {b i : Nat} {T : TypeId} {sv : List (ASlot × Value)} {rest : List Value} {s : ASlot} {v : Value} (h : St W0 w (cellsB b (sv.flatMap slotCells ++ rest).toArray T :: L)) (hs : sv[i]? = some (s, v)) (c : ACell) (u : Value) (lv : Bool) :
    St W0 ((((w.setCell ⟨b, i * 5, none⟩ (.int .u8 c.k)).setCell ⟨b, i * 5 + 1, none⟩ (.int .i64 c.n)).setCell ⟨b, i * 5 + 2, none⟩ u).setCell ⟨b, i * 5 + 4, none⟩ (.bool lv)) (cellsB b ((sv.set i (⟨c, s.gen, lv⟩, u)).flatMap slotCells ++ rest).toArray T :: L) := by
  have S3 := h.set (i * 5) (.int .u8 c.k)
  simp only [List.setIfInBounds_toArray] at S3
  have e0 := set_slot (y := (⟨⟨c.k, s.c.n, s.c.ws⟩, s.gen, s.lives⟩, v)) rest (j := 0) hs (by omega) rfl
  rw [Nat.add_zero] at e0
  rw [e0] at S3
  have h3 := set_get (y := ((⟨⟨c.k, s.c.n, s.c.ws⟩, s.gen, s.lives⟩ : ASlot), v)) hs
  have S4 := S3.set (i * 5 + 1) (.int .i64 c.n)
  simp only [List.setIfInBounds_toArray] at S4
  rw [set_slot (y := (⟨⟨c.k, c.n, s.c.ws⟩, s.gen, s.lives⟩, v)) rest h3 (by omega) rfl] at S4
  have h4 := set_get (y := ((⟨⟨c.k, c.n, s.c.ws⟩, s.gen, s.lives⟩ : ASlot), v)) h3
  have S5 := S4.set (i * 5 + 2) u
  simp only [List.setIfInBounds_toArray] at S5
  rw [set_slot (y := (⟨c, s.gen, s.lives⟩, u)) rest h4 (by omega) rfl] at S5
  have h5 := set_get (y := ((⟨c, s.gen, s.lives⟩ : ASlot), u)) h4
  have S6 := S5.set (i * 5 + 4) (.bool lv)
  simp only [List.setIfInBounds_toArray] at S6
  rw [set_slot (y := (⟨c, s.gen, lv⟩, u)) rest h5 (by omega) rfl] at S6
  simp only [List.set_set] at S6
  exact S6

def GivePost (W0 : World) (L : List HProp) (p : Nat) (r : AWord × AHeap) (e : Ending) (w' : World) : Prop :=
  e = .returned (wv r.1) ∧ St W0 w' (heapAt p r.2 :: L)

theorem intsV_append (a b : List Nat) : intsV (a ++ b) = intsV a ++ intsV b := by simp [intsV]
theorem intsV_len (a : List Nat) : (intsV a).length = a.length := by simp [intsV]

set_option maxRecDepth 100000 in
set_option maxHeartbeats 2000000 in
theorem give_old {W0 w : World} {L : List HProp} {p : Nat} {H : AHeap} {B : Int} (h : St W0 w (heapAt p H :: L)) (ok : H.Ok B) (c : ACell) (vc : Value)
    (hR : ∀ w', St W0 w' L → rd w' 4 vc c.ws.length (flatW c.ws)) (hm : c.ws.length ≤ 64) (fs : List Nat) (i : Nat) (hfree : H.free = fs ++ [i]) (hroom : H.live < H.room) :
    Calls Try.prog 74 #[.pointer (some ⟨p, 0, none⟩), cv c vc] w fun e w' => GivePost W0 L p (H.give c) e w' := by
  obtain ⟨a, cap, rfl⟩ : ∃ a cap, vc = .slice a c.ws.length cap := by
    rcases (hR w h.tail).2 with ⟨⟨_, _, rfl⟩, e⟩ | ⟨b, off, cap, rfl, _⟩
    · exact ⟨_, _, by rw [e]⟩
    · exact ⟨_, _, rfl⟩
  have s0 := (h.allocC #[Value.int .u8 c.k, .int .i64 c.n, .slice a c.ws.length cap] 34).allocC #[Value.int .u8 0, .int .i64 0, .string ⟨#[]⟩, .int .i64 0] 36
  simp only [World.size_alloc] at s0
  obtain ⟨vs, vf, sv, e, hO⟩ := (s0.pull 2).heap_open
  have hd := ok.dead i (by rw [hfree]; simp)
  obtain ⟨v, hs⟩ := sv_get e hd.1
  have hpos : 0 < sv.length := by rw [sv_len e]; exact Nat.lt_of_le_of_lt (Nat.zero_le _) hd.1
  obtain ⟨b, scap, rest, rfl, c1, c2, c3, s⟩ := hO.heap_slots hpos
  -- [b, p, own, slotsW, res, pc, L]
  rw [hfree] at s
  obtain ⟨hl2, hc2⟩ := St.own_cases (s.pull 2)
  have hfl : (fs ++ [i]).length = fs.length + 1 := by simp
  obtain ⟨bf, fcap, frest, rfl, k1, k2, k3, t⟩ := hc2.resolve_left (fun q => by have := q.2.1; omega)
  -- [bf, b, p, slotsW, res, pc, L]
  rw [hfl] at t k1
  rw [intsV_len, hfl] at k3
  have hcf : ∀ w', St W0 w' (cellsB bf (intsV (fs ++ [i]) ++ frest).toArray 3 :: cellsB b (sv.flatMap slotCells ++ rest).toArray 124 :: cellsB p #[.int .i64 H.room, .int .i64 H.most, .slice (some ⟨b, 0, none⟩) sv.length scap, .slice (some ⟨bf, 0, none⟩) (fs.length + 1) fcap] 109 :: slotsW sv :: cellsB (w.heap.size + 1) #[Value.int .u8 0, .int .i64 0, .string ⟨#[]⟩, .int .i64 0] 36 :: cellsB w.heap.size #[Value.int .u8 c.k, .int .i64 c.n, .slice a c.ws.length cap] 34 :: L) → w'.cell? ⟨bf, fs.length, none⟩ = some (.int .i64 i) := by
    intro w' q
    rw [q.cell]
    simp [intsV]
  have hlen1 : sv.length ≤ 100000 := by rw [sv_len e]; have := ok.few; have := ok.room1; omega
  have hlen2 : fs.length + 1 ≤ 100000 := by have := ok.count; rw [hfree, hfl] at this; rw [sv_len e] at hlen1; omega
  have HT := Lib.hid t
  have HR := Lib.hid hR
  have HE := Lib.hid e
  have HS := Lib.hid hs
  have HM := Lib.hid hm
  have HO := Lib.hid ok
  have HC := Lib.hid (And.intro c1 (And.intro c2 c3))
  have HK := Lib.hid (And.intro k1 (And.intro k2 k3))
  have HFR := Lib.hid hfree
  have HCF := Lib.hid hcf
  have HRM := Lib.hid hroom
  have d0 := (t.pull 2).cell
  have hi : i < sv.length := by rw [sv_len e]; exact hd.1
  clear h s0 hO s hd hs ok hR hm e hc2 hl2 t c1 c2 c3 k1 k2 k3 hfree hfl hcf hroom hpos
  unfold cv
  go_enter Try.func74, Try.ntmps74
  go_wp2
  refine wp_region_st HT.out [0, 1, 2, 3, 4, 5, 6, 7, 8, 9, 10, 11, 12, 13, 14, 15, 16, 17, 18, 19] (fun w' => (∀ o, w'.cell? ⟨p, o, none⟩ = #[Value.int .i64 H.room, .int .i64 H.most, .slice (some ⟨b, 0, none⟩) sv.length scap, .slice (some ⟨bf, 0, none⟩) (fs.length + 1) fcap][o]?) ∧ w'.cell? ⟨bf, fs.length, none⟩ = some (.int .i64 i)) [4, 8, 12] [19] [19] (by kernel_rfl) (by kernel_rfl) (fun c d v a w h => by cases d <;> exact h) ?_
  intro w3 S3
  have HF := Lib.hid (And.intro (S3.pull 2).cell (HCF.out w3 S3))
  clear d0
  have hwr : IntKind.i64.wrap (fs.length : Int) = fs.length := IntWalk.i64_in _ (by omega)
  have hlt : (fs.length : Int) < fs.length + 1 := by omega
  have hle : fs.length ≤ fcap := by have := HK.out.1; omega
  iterate 19
    (first
      | refine walk_load rfl rfl rfl HF.out rfl (by rintro w' ⟨g0, g1⟩; go_simp; with_reducible rfl) ?_
      | refine walk_pure rfl rfl rfl rfl (by intro w'; go_simp; with_reducible rfl) ?_)
    simp only [Act.put, List.setIfInBounds_toArray, List.set_cons_zero, List.set_cons_succ]
  have cp := (S3.pull 2).cell
  have fp := (S3.pull 2).free
  refine walk_do rfl rfl rfl (fun K hK => ?_)
  go_simp
  refine hK _ _ (fun h => by cases h) (walk_nil ?_)
  clear hK K cp fp HF
  have S4 := (S3.pull 2).set 3 (.slice (some ⟨bf, 0, none⟩) fs.length fcap)
  iterate 2 go_step
  refine abs_wp S4 ?_
  clear S3 S4 hwr
  intro w4 S4
  simp only [List.setIfInBounds_toArray, List.set_cons_zero, List.set_cons_succ] at S4
  have d0 := S4.cell
  have dc := (S4.pull 5).cell
  have SS := Lib.hid S4
  clear S4
  go_wp2_with (go_at_call 82; refine (copied_c c (.slice a c.ws.length cap) _ (by have := HM.out; omega) (HR.out _ SS.out.tail.tail.tail.tail.tail.tail)).mono ?_; rintro e w5 ⟨v', rfl, k⟩; obtain ⟨a', cap', rfl, _⟩ := St.own_form k; have S5 := SS.out.chain k; obtain ⟨g0, g1, g2, g3, g4⟩ := slot_cells (S5.pull 3) HS.out; have fb := (S5.pull 3).free; have S5 := Lib.hid S5; clear k dc d0; simp only [cv])
  have S6 := (S5.out.pull 3).slot4 HS.out c (.slice a' c.ws.length cap') true
  -- [b, wo, p, bf, slotsW, res, pc, L]
  have S7 := St.slots_set (s := ⟨c, (H.slot i).gen, true⟩) (v := .slice a' c.ws.length cap') (((S6.pull 4).slots_take HS.out).tail.pull 2) hi
  -- [slotsW, b, p, bf, res, pc, L]
  have e4 : (intsV (fs ++ [i]) ++ frest) = intsV fs ++ (.int .i64 i :: frest) := by simp [intsV]
  rw [e4] at S7
  have S8 := (S7.pull 3).own_mk (n := fs.length) (cap := fcap) (sz := 1) (by rw [intsV_len]; omega) (by have := HK.out.1; omega) HK.out.2.1 (by have := HK.out.2.2; rw [intsV_len]; simp; omega)
  -- [own, slotsW, b, p, res, pc, L]
  have hl1 : sv.length = (sv.set i (⟨c, (H.slot i).gen, true⟩, .slice a' c.ws.length cap')).length := by simp
  have e5 := slots_map_set HE.out i ⟨c, (H.slot i).gen, true⟩ (.slice a' c.ws.length cap')
  have h5 := set_get (y := ((⟨c, (H.slot i).gen, true⟩ : ASlot), Value.slice a' c.ws.length cap')) HS.out
  clear S6 S7 e4 HS hi S5 SS HT HCF HR
  generalize hsv : sv.set i (⟨c, (H.slot i).gen, true⟩, .slice a' c.ws.length cap') = sv' at S8 hl1 e5 h5
  have HL1 := Lib.hid hl1
  rw [hl1] at S8
  have S9 := (((S8.pull 1).pull 1).pull 3).pull 3
  -- [b, p, own, slotsW, res, pc, L]
  have hgive : H.give c = (cellWord i (H.slot i).gen, { H with slots := H.slots.set i ⟨c, (H.slot i).gen, true⟩, free := fs, most := max H.most (H.live + 1) }) := by
    unfold AHeap.give
    rw [HFR.out]
    simp
  have hlive : ({ H with slots := H.slots.set i ⟨c, (H.slot i).gen, true⟩, free := fs } : AHeap).live = H.live + 1 := by
    unfold AHeap.live
    simp [HFR.out]
    omega
  have HGV := Lib.hid hgive
  have HLV := Lib.hid hlive
  have HE5 := Lib.hid e5
  have HC' : Hid (sv'.length ≤ scap ∧ scap ≤ maxLen ∧ scap * 5 ≤ sv'.length * 5 + rest.length) := by rw [← hl1]; exact HC.out
  have HH5 := Lib.hid h5
  clear hgive hlive e5 hsv HK HFR HE HC HL1 hl1 h5 HO hlen1 hlen2 HM HRM S8 g0 g1 g2 g3 g4 fb
  have close : ∀ w' mo M, St W0 w' (cellsB b (sv'.flatMap slotCells ++ rest).toArray 124 :: cellsB p #[.int .i64 H.room, .int .i64 mo, .slice (some ⟨b, 0, none⟩) sv'.length scap, .slice (some ⟨bf, 0, none⟩) fs.length fcap] 109 :: ownS 3 1 (.slice (some ⟨bf, 0, none⟩) fs.length fcap) fs.length (intsV fs) :: slotsW sv' :: M) →
      St W0 w' (heapAt p { H with slots := H.slots.set i ⟨c, (H.slot i).gen, true⟩, free := fs, most := mo } :: M) :=
    fun w' mo M S => St.heap_back (H := { H with slots := H.slots.set i ⟨c, (H.slot i).gen, true⟩, free := fs, most := mo }) HE5.out HC'.out.1 HC'.out.2.1 HC'.out.2.2 S
  have HCL := Lib.hid close
  clear close
  refine wp_region_st S9 [0, 1, 2, 3, 4, 5, 6, 7, 8, 9, 10] (fun w' => (∀ o, w'.cell? ⟨p, o, none⟩ = #[Value.int .i64 H.room, .int .i64 H.most, .slice (some ⟨b, 0, none⟩) sv'.length scap, .slice (some ⟨bf, 0, none⟩) fs.length fcap][o]?)) [4] [6, 10] [10] (by kernel_rfl) (by kernel_rfl) (fun c d v a w h => by cases d <;> exact h) ?_
  clear S9
  intro w6 S6
  have HF := Lib.hid (S6.pull 1).cell
  iterate 6
    (first
      | refine walk_load rfl rfl rfl HF.out rfl (by rintro w' g0; go_simp; with_reducible rfl) ?_
      | refine walk_pure rfl rfl rfl rfl (by intro w'; go_simp; with_reducible rfl) ?_)
    simp only [Act.put, List.setIfInBounds_toArray, List.set_cons_zero, List.set_cons_succ]
  refine walk_do rfl rfl rfl (fun K hK => ?_)
  go_simp
  refine (live_c (HCL.out _ _ _ S6)).mono ?_
  rintro e w' ⟨rfl, n, rfl⟩
  have HLV2 := HLV.out
  unfold AHeap.live at HLV2
  refine hK _ _ (fun _ => (S6.drewN n |>.pull 1).cell) ?_
  clear hK K HF
  refine abs_walk (S6.drewN n) ?_
  clear S6
  intro w7 S7
  unfold AHeap.live
  simp only at HLV2 ⊢
  rw [HLV2]
  clear HLV2
  iterate 3
    refine walk_pure rfl rfl rfl rfl (by intro w'; go_simp; with_reducible rfl) ?_
    simp only [Act.put, List.setIfInBounds_toArray, List.set_cons_zero, List.set_cons_succ]
  have cp := (S7.pull 1).cell
  have fp := (S7.pull 1).free
  refine walk_do rfl rfl rfl (fun K hK => ?_)
  go_simp
  have em : (if H.most < (H.slots.length : Int) - H.free.length + 1 then (H.slots.length : Int) - H.free.length + 1 else H.most) = max H.most (H.live + 1) := by unfold AHeap.live; split <;> omega
  rw [em]
  refine hK _ _ (fun h => by cases h) (walk_nil ?_)
  clear hK K cp fp em
  have S8 := (S7.pull 1).set 1 (.int .i64 (max H.most (H.live + 1)))
  clear S7
  iterate 2 go_step
  refine abs_wp S8 ?_
  clear S8
  intro w8 S8
  simp only [List.setIfInBounds_toArray, List.set_cons_zero, List.set_cons_succ] at S8
  obtain ⟨g0, g1, g2, g3, g4⟩ := slot_cells (S8.pull 1) HH5.out
  have d4 := (S8.pull 4).cell
  have f4 := (S8.pull 4).free
  have SS := Lib.hid S8
  clear S8
  go_wp2
  have S9 := ((((SS.out.pull 4).set 0 (.int .u8 5)).set 1 (.int .i64 i)).set 2 (.string ⟨#[]⟩)).set 3 (.int .i64 (H.slot i).gen)
  have d5 := S9.cell
  refine bodyPost_ret (v := .agg #[.int .u8 5, .int .i64 i, .string ⟨#[]⟩, .int .i64 (H.slot i).gen]) (by simp [results, Try.results74, go_sem, d5]) rfl ?_
  unfold GivePost
  rw [HGV.out]
  refine ⟨rfl, ?_⟩
  -- [res, p, b, own, slotsW, pc, L]
  exact (((HCL.out _ _ _ ((((((S9.pull 5).pull 1).pull 5).pull 5).pull 4).pull 5)).pull 1).tail.pull 1).tail
end Go.Proofs.Ytciciaikajdenaa
