/- The document's Free. -/
import Derived.Test.YtciciaikajdenaaR5
set_option linter.unusedSimpArgs false
set_option linter.unusedVariables false
namespace Go.Proofs.Ytciciaikajdenaa
open Go.RowKit

theorem flat_set5b (y : ASlot × Value) (r : List Value) : ∀ (sv : List (ASlot × Value)) (n : Nat), n < sv.length →
    (((((sv.flatMap slotCells ++ r).set (n * 5) (.int .u8 y.1.c.k)).set (n * 5 + 1) (.int .i64 y.1.c.n)).set (n * 5 + 2) y.2).set (n * 5 + 3) (.int .i64 y.1.gen)).set (n * 5 + 4) (.bool y.1.lives) = (sv.set n y).flatMap slotCells ++ r
  | [], n, h => by simp at h
  | z :: sv, 0, _ => by simp [slotCells]
  | z :: sv, n + 1, h => by
    have ih := flat_set5b y r sv n (by simpa using h)
    have e : ∀ l : List (ASlot × Value), (z :: l).flatMap slotCells ++ r = .int .u8 z.1.c.k :: .int .i64 z.1.c.n :: z.2 :: .int .i64 z.1.gen :: .bool z.1.lives :: (l.flatMap slotCells ++ r) := fun l => by simp [slotCells]
    have a0 : (n + 1) * 5 = n * 5 + 1 + 1 + 1 + 1 + 1 := by omega
    have a1 : (n + 1) * 5 + 1 = n * 5 + 1 + 1 + 1 + 1 + 1 + 1 := by omega
    have a2 : (n + 1) * 5 + 2 = n * 5 + 2 + 1 + 1 + 1 + 1 + 1 := by omega
    have a3 : (n + 1) * 5 + 3 = n * 5 + 3 + 1 + 1 + 1 + 1 + 1 := by omega
    have a4 : (n + 1) * 5 + 4 = n * 5 + 4 + 1 + 1 + 1 + 1 + 1 := by omega
    rw [show (z :: sv).set (n + 1) y = z :: sv.set n y from rfl, e, e, ← ih, a4, a3, a2, a1, a0]
    rfl

section
variable {W0 w : World} {L : List HProp} {p : Nat} {H : AHeap}

def DropPostR (W0 : World) (L : List HProp) (p : Nat) (r : (ACell × Int) × AHeap) (e : Ending) (w' : World) : Prop :=
  ∃ v, e = .returned (.tuple #[.agg #[.int .u8 r.1.1.k, .int .i64 r.1.1.n, v], .int .i64 r.1.2]) ∧ St W0 w' (wordsOwn v r.1.1.ws :: heapRAt p r.2 :: L)

set_option maxRecDepth 100000 in
set_option maxHeartbeats 2000000 in
theorem dropR_c {B : Int} (h : St W0 w (heapRAt p H :: L)) (ok : H.Ok B) (hB : B < 1000000000) (x : AWord) :
    Calls Try.prog 25 #[.pointer (some ⟨p, 0, none⟩), wv x] w fun e w' => DropPostR W0 L p (H.drop x) e w' := by
  have s0 := (h.allocC #[Value.int .u8 x.k, .int .i64 x.n, .string x.s, .int .i64 x.g] 36).allocC #[Value.int .u8 0, .int .i64 0, .slice none 0 0] 34
  simp only [World.size_alloc] at s0
  have d0 := (s0.pull 1).cell
  have HS := Lib.hid s0
  have OK := Lib.hid ok
  have HW := Lib.hid (wrong_c (s0.pull 2) ok x)
  clear h s0 ok
  unfold DropPostR
  by_cases hf : (H.find x).1 = 0
  · obtain ⟨i, hj⟩ : ∃ i, H.find x = (0, i) := ⟨(H.find x).2, Prod.ext hf rfl⟩
    have hz := AHeap.find_zero hf
    rw [hj] at hz
    simp only at hz
    have hg : H.drop x = (((H.slot i).c, 0), H.freed i) := by unfold AHeap.drop; rw [hj]; simp
    rw [hg]
    have hxn := hz.2.2.2.1
    have hlt := hz.2.2.2.2.1
    have hxg := hz.2.2.2.2.2.2
    have hws := OK.out.words _ (AHeap.slot_mem hlt)
    have hgn := OK.out.gens _ (AHeap.slot_mem hlt)
    have hfl : H.free.length ≤ 100000 := by have := OK.out.count; have := OK.out.few; have := OK.out.room1; omega
    obtain ⟨k, n, s, g⟩ := x
    simp only at hxn hxg
    subst hxn
    have hg0 : 0 ≤ g := by omega
    have hg1 : g < 1000000000 := by omega
    have hwg : IntKind.i64.wrap (g + 1) = g + 1 := IntWalk.i64_in _ (by omega)
    have HXG := Lib.hid hxg
    have HF := Lib.hid hf
    rw [HF.out] at HW
    unfold wv at *
    clear hz hj hf hg hxg hgn
    go_enter Try.func25, Try.ntmps25
    go_upto_region 4 with (go_at_call 78; refine HW.out.mono ?_; rintro e w' ⟨rfl, hb⟩; have S := HS.out.mono hb; clear d0; have HS2 := Lib.hid S; clear S hb)
    generalize w.heap.size = B0 at HS2 ⊢
    obtain ⟨vs, vf, sv, e, hO⟩ := (HS2.out.pull 2).heapR_open
    obtain ⟨v, hs⟩ := sv_get e hlt
    obtain ⟨b, cap, rest, rfl, c1, c2, c3, S⟩ := hO.heapR_slots (by rw [sv_len e]; omega)
    have hlt' : i < sv.length := by rw [sv_len e]; exact hlt
    obtain ⟨fa, fcap, rfl, _⟩ := (S.pull 2).own_form
    have hvr := St.slots_rd (S.pull 3) hs
    obtain ⟨va, vcap, rfl⟩ := rd_form hvr
    have HO := Lib.hid (And.intro e (And.intro hs (And.intro c1 (And.intro c2 c3))))
    clear e hs c1 c2 c3 hO HS HS2 HW hvr
    -- S: [b, p, own3, slots, B1, B0, L]
    refine wp_region_st S [0, 1, 2, 3, 4, 5, 6, 7, 8, 9, 10] (fun w' => (∀ o, w'.cell? ⟨p, o, none⟩ = #[Value.int .i64 H.room, .slice (some ⟨b, 0, none⟩) sv.length cap, .slice fa H.free.length fcap, .int .i64 H.most][o]?) ∧ (∀ o, w'.cell? ⟨B0, o, none⟩ = #[Value.int .u8 k, .int .i64 i, .string s, .int .i64 g][o]?) ∧
      w'.cell? ⟨b, i * 5, none⟩ = some (.int .u8 (H.slot i).c.k) ∧ w'.cell? ⟨b, i * 5 + 1, none⟩ = some (.int .i64 (H.slot i).c.n) ∧ w'.cell? ⟨b, i * 5 + 2, none⟩ = some (.slice va (H.slot i).c.ws.length vcap)) [3, 5, 8] [9, 10] [10] (by kernel_rfl) (by kernel_rfl) (fun c d v a w h => by cases d <;> exact h) ?_
    clear S
    intro w4 S
    have hcs := slot_cells S HO.out.2.1
    have HF := Lib.hid (And.intro (S.pull 1).cell (And.intro (S.pull 5).cell (And.intro hcs.1 (And.intro hcs.2.1 hcs.2.2.1))))
    clear hcs
    iterate 9
      (first
        | refine walk_load rfl rfl rfl HF.out rfl (by rintro w' ⟨g0, g1, g2, g3, g4⟩; go_simp; with_reducible rfl) ?_
        | refine walk_pure rfl rfl rfl rfl (by intro w'; go_simp; with_reducible rfl) ?_)
      simp only [List.getElem_toArray, List.getElem_cons_zero, List.getElem_cons_succ, Act.put, List.setIfInBounds_toArray, List.set_cons_zero, List.set_cons_succ]
    clear HF
    have S := S.allocC #[Value.int .u8 0, .int .i64 0, .slice none 0 0] 34
    refine walk_do rfl rfl rfl (fun K hK => ?_)
    go_simp
    have hcs := slot_cells (S.pull 1) HO.out.2.1
    refine hK _ _ (fun _ => And.intro (S.pull 2).cell (And.intro (S.pull 6).cell (And.intro hcs.1 (And.intro hcs.2.1 hcs.2.2.1)))) ?_
    clear hK K hcs
    try simp only [List.getElem_toArray, List.getElem_cons_zero, List.getElem_cons_succ, Act.put, List.setIfInBounds_toArray, List.set_cons_zero, List.set_cons_succ]
    generalize w4.heap.size = B7 at S ⊢
    refine abs_walk S ?_
    clear S
    intro w5 S
    have c7 := S.cell
    have f7 := S.free
    refine walk_do rfl rfl rfl (fun K hK => ?_)
    go_simp
    have S := ((S.set 0 (.int .u8 (H.slot i).c.k)).set 1 (.int .i64 (H.slot i).c.n)).set 2 (.slice va (H.slot i).c.ws.length vcap)
    simp only [List.setIfInBounds_toArray, List.set_cons_zero, List.set_cons_succ] at S
    refine hK _ _ (fun q => by cases q) ?_
    clear hK K c7 f7
    try simp only [List.getElem_toArray, List.getElem_cons_zero, List.getElem_cons_succ, Act.put, List.setIfInBounds_toArray, List.set_cons_zero, List.set_cons_succ]
    refine walk_nil ?_
    -- [B7, b, p, own3, slots, B1, B0, L]
    have HS := Lib.hid S
    clear S
    go_upto_region 5 with fail
    refine wp_region_st HS.out [0, 1, 2, 3, 4, 5, 6, 7, 8, 9, 10, 11] (fun w' => (∀ o, w'.cell? ⟨p, o, none⟩ = #[Value.int .i64 H.room, .slice (some ⟨b, 0, none⟩) sv.length cap, .slice fa H.free.length fcap, .int .i64 H.most][o]?) ∧ (∀ o, w'.cell? ⟨B0, o, none⟩ = #[Value.int .u8 k, .int .i64 i, .string s, .int .i64 g][o]?)) [3, 5, 7] [11] [11] (by kernel_rfl) (by kernel_rfl) (fun c d v a w h => by cases d <;> exact h) ?_
    clear HS
    intro w6 S
    have HF := Lib.hid (And.intro (S.pull 2).cell (S.pull 6).cell)
    iterate 11
      (first
        | refine walk_load rfl rfl rfl HF.out rfl (by rintro w' ⟨g0, g1⟩; go_simp; with_reducible rfl) ?_
        | refine walk_pure rfl rfl rfl rfl (by intro w'; go_simp; with_reducible rfl) ?_)
      simp only [List.getElem_toArray, List.getElem_cons_zero, List.getElem_cons_succ, Act.put, List.setIfInBounds_toArray, List.set_cons_zero, List.set_cons_succ]
    clear HF
    obtain ⟨q0, q1, q2, q3, q4⟩ := slot_cells (S.pull 1) HO.out.2.1
    have fb := (S.pull 1).free
    refine walk_do rfl rfl rfl (fun K hK => ?_)
    go_simp
    have S := (((((S.pull 1).set (i * 5) (.int .u8 0)).set (i * 5 + 1) (.int .i64 0)).set (i * 5 + 2) (.slice none 0 0)).set (i * 5 + 3) (.int .i64 (g + 1))).set (i * 5 + 4) (.bool false)
    simp only [List.setIfInBounds_toArray] at S
    have FlS := flat_set5b (⟨⟨0, 0, []⟩, g + 1, false⟩, .slice none 0 0) rest sv i hlt'
    dsimp only at FlS
    rw [FlS] at S
    clear FlS q0 q1 q2 q3 q4 fb
    refine hK _ _ (fun q => by cases q) ?_
    clear hK K
    try simp only [List.getElem_toArray, List.getElem_cons_zero, List.getElem_cons_succ, Act.put, List.setIfInBounds_toArray, List.set_cons_zero, List.set_cons_succ]
    refine walk_nil ?_
    have HS := Lib.hid S
    clear S
    go_upto_region 6 with fail
    -- [b', B7, p, own3, slots, B1, B0, L]
    refine wp_region_st HS.out [0, 1, 2, 3, 4, 5, 6, 7, 8, 9, 10, 11] (fun w' => (∀ o, w'.cell? ⟨p, o, none⟩ = #[Value.int .i64 H.room, .slice (some ⟨b, 0, none⟩) sv.length cap, .slice fa H.free.length fcap, .int .i64 H.most][o]?) ∧ (∀ o, w'.cell? ⟨B0, o, none⟩ = #[Value.int .u8 k, .int .i64 i, .string s, .int .i64 g][o]?)) [4, 6] [7, 8, 11] [8, 11] (by kernel_rfl) (by kernel_rfl) (fun c d v a w h => by cases d <;> exact h) ?_
    clear HS
    intro w8 S
    have HF := Lib.hid (And.intro (S.pull 2).cell (S.pull 6).cell)
    iterate 7
      (first
        | refine walk_load rfl rfl rfl HF.out rfl (by rintro w' ⟨g0, g1⟩; go_simp; with_reducible rfl) ?_
        | refine walk_pure rfl rfl rfl rfl (by intro w'; go_simp; with_reducible rfl) ?_)
      simp only [List.getElem_toArray, List.getElem_cons_zero, List.getElem_cons_succ, Act.put, List.setIfInBounds_toArray, List.set_cons_zero, List.set_cons_succ]
    clear HF
    have S := S.allocC #[Value.int .i64 i] 3
    refine walk_do rfl rfl rfl (fun K hK => ?_)
    go_simp
    refine hK _ _ (fun _ => And.intro (S.pull 3).cell (S.pull 7).cell) ?_
    clear hK K
    try simp only [List.getElem_toArray, List.getElem_cons_zero, List.getElem_cons_succ, Act.put, List.setIfInBounds_toArray, List.set_cons_zero, List.set_cons_succ]
    generalize w8.heap.size = B9 at S ⊢
    refine abs_walk S ?_
    clear S
    intro w9 S
    -- [B9, b', B7, p, own3, slots, B1, B0, L]
    obtain ⟨ii, hi1, hz0, hz1, hz2⟩ := info_parts info3
    refine walk_do rfl rfl rfl (fun K hK => ?_)
    refine wp_append_st (S.pull 4) (rd_cells (sz := 1) (n := 1) (cap := 1) S (Nat.le_refl _) rfl) (by simp [Value.oneCell']) hi1 hz0 hz1 hz2 rfl (by unfold maxLen; omega) (by omega) Try.underlying52 _ _ rfl rfl rfl ?_
    intro vf' w10 S2 _
    obtain ⟨a2, cap2, rfl, _⟩ := S2.own_form
    refine hK _ _ (fun q => by cases q) ?_
    clear hK K S
    try simp only [List.getElem_toArray, List.getElem_cons_zero, List.getElem_cons_succ, Act.put, List.setIfInBounds_toArray, List.set_cons_zero, List.set_cons_succ]
    iterate 2
      refine walk_pure rfl rfl rfl rfl (by intro w'; go_simp; with_reducible rfl) ?_
      simp only [List.getElem_toArray, List.getElem_cons_zero, List.getElem_cons_succ, Act.put, List.setIfInBounds_toArray, List.set_cons_zero, List.set_cons_succ]
    -- [own3', B9, b', B7, p, slots, B1, B0, L]
    have cp := (S2.pull 4).cell
    have fp := (S2.pull 4).free
    refine walk_do rfl rfl rfl (fun K hK => ?_)
    go_simp
    have S := (S2.pull 4).set 2 (.slice a2 (H.free.length + 1) cap2)
    simp only [List.setIfInBounds_toArray, List.set_cons_zero, List.set_cons_succ] at S
    refine hK _ _ (fun q => by cases q) ?_
    clear hK K cp fp S2
    try simp only [List.getElem_toArray, List.getElem_cons_zero, List.getElem_cons_succ, Act.put, List.setIfInBounds_toArray, List.set_cons_zero, List.set_cons_succ]
    refine walk_nil ?_
    have HS := Lib.hid S
    clear S
    go_upto_region 7 with fail
    refine abs_wp HS.out ?_
    clear HS
    intro w11 S
    -- [p, own3', B9, b', B7, slots, B1, B0, L]
    have d7 := (S.pull 4).cell
    have d1 := (S.pull 6).cell
    have f1 := (S.pull 6).free
    have HS := Lib.hid S
    clear S
    go_wp2_with fail
    have S := (((HS.out.pull 6).set 0 (.int .u8 (H.slot i).c.k)).set 1 (.int .i64 (H.slot i).c.n)).set 2 (.slice va (H.slot i).c.ws.length vcap)
    simp only [List.setIfInBounds_toArray, List.set_cons_zero, List.set_cons_succ] at S
    have d4 := S.cell
    refine bodyPost_ret (v := .tuple #[.agg #[.int .u8 (H.slot i).c.k, .int .i64 (H.slot i).c.n, .slice va (H.slot i).c.ws.length vcap], .int .i64 0]) (by simp [results, Try.results25, go_sem, d4]) rfl ⟨_, rfl, ?_⟩
    -- [B1, p, own3', B9, b', B7, slots, B0, L]
    have e : intsV H.free ++ [Value.int .i64 (i : Int)] = intsV (H.free ++ [i]) := by simp [intsV]
    rw [e] at S
    have T1 := St.slots_take (S.pull 6) HO.out.2.1
    -- [ownW, erase, B1, p, own3', B9, b', B7, B0, L]
    have T2 := (((T1.pull 1).own_nil (T := 36) (sz := 4)))
    -- [nil, erase, ownW, B1, ..]
    have T3 := St.slots_set (s := ⟨⟨0, 0, []⟩, g + 1, false⟩) (v := .slice none 0 0) T2 hlt'
    -- [slots', ownW, B1, p, own3', B9, b', B7, B0, L]
    have T4 := ((T3.pull 4).pull 4).pull 6
    have hfr : (sv.set i (⟨⟨0, 0, []⟩, g + 1, false⟩, .slice none 0 0)).map Prod.fst = (H.freed i).slots := by
      rw [slots_map_set HO.out.1]
      show _ = H.slots.set i ⟨.zero, (H.slot i).gen + 1, false⟩
      rw [HXG.out]; rfl
    have e1 : (H.freed i).free.length = H.free.length + 1 := by simp [AHeap.freed]
    have T5 := St.heapR_back (H := H.freed i) (b := b) (cap := cap) (vf := .slice a2 (H.free.length + 1) cap2) (rest := rest) hfr (by rw [List.length_set]; exact HO.out.2.2.1) HO.out.2.2.2.1 (by rw [List.length_set]; exact HO.out.2.2.2.2) (by rw [List.length_set, e1]; exact T4)
    exact ((((((((T5.pull 5).tail).pull 4).tail).pull 3).tail).pull 2).tail).pull 1
  · obtain ⟨k, hk'⟩ : ∃ k, (H.find x).1 = k := ⟨_, rfl⟩
    have k0 : (k != 0) = true := by rw [← hk']; simpa using hf
    have hg : H.drop x = ((.zero, k), H) := by unfold AHeap.drop; rw [if_pos hf, hk']
    rw [hg]
    rw [hk'] at HW
    clear hf hk' hg
    unfold wv at *
    simp only [ACell.zero]
    go_enter Try.func25, Try.ntmps25
    go_wp2_with (go_at_call 78; refine HW.out.mono ?_; rintro e w' ⟨rfl, hb⟩; have S := HS.out.mono hb; clear d0; have d0 := (S.pull 1).cell; have d1 := S.cell; have f1 := S.free; have HS2 := Lib.hid S; clear S hb)
    have S := ((HS2.out.set 0 (.int .u8 0)).set 1 (.int .i64 0)).set 2 (.slice none 0 0)
    have d4 := S.cell
    refine bodyPost_ret (v := .tuple #[.agg #[.int .u8 0, .int .i64 0, .slice none 0 0], .int .i64 k]) (by simp [results, Try.results25, go_sem, d4]) rfl ⟨_, rfl, ?_⟩
    exact S.tail.tail.own_nil
end
end Go.Proofs.Ytciciaikajdenaa
