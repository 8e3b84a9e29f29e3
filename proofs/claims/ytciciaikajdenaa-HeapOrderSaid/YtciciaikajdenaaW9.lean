/- Free. -/
import Derived.Test.YtciciaikajdenaaW8
import Derived.Test.YtciciaikajdenaaOrd
set_option linter.unusedSimpArgs false
set_option linter.unusedVariables false
namespace Go.Proofs.Ytciciaikajdenaa
open Go.RowKit

theorem flat_set5 (y : ASlot × Value) (r : List Value) : ∀ (sv : List (ASlot × Value)) (n : Nat), n < sv.length →
    (((((sv.flatMap slotCells ++ r).set (n * 5 + 4) (.bool y.1.lives)).set (n * 5) (.int .u8 y.1.c.k)).set (n * 5 + 1) (.int .i64 y.1.c.n)).set (n * 5 + 2) y.2).set (n * 5 + 3) (.int .i64 y.1.gen) = (sv.set n y).flatMap slotCells ++ r
  | [], n, h => by simp at h
  | z :: sv, 0, _ => by simp [slotCells]
  | z :: sv, n + 1, h => by
    have ih := flat_set5 y r sv n (by simpa using h)
    have e : ∀ l : List (ASlot × Value), (z :: l).flatMap slotCells ++ r = .int .u8 z.1.c.k :: .int .i64 z.1.c.n :: z.2 :: .int .i64 z.1.gen :: .bool z.1.lives :: (l.flatMap slotCells ++ r) := fun l => by simp [slotCells]
    have a0 : (n + 1) * 5 = n * 5 + 1 + 1 + 1 + 1 + 1 := by omega
    have a1 : (n + 1) * 5 + 1 = n * 5 + 1 + 1 + 1 + 1 + 1 + 1 := by omega
    have a2 : (n + 1) * 5 + 2 = n * 5 + 2 + 1 + 1 + 1 + 1 + 1 := by omega
    have a3 : (n + 1) * 5 + 3 = n * 5 + 3 + 1 + 1 + 1 + 1 + 1 := by omega
    have a4 : (n + 1) * 5 + 4 = n * 5 + 4 + 1 + 1 + 1 + 1 + 1 := by omega
    rw [show (z :: sv).set (n + 1) y = z :: sv.set n y from rfl, e, e, ← ih, a4, a3, a2, a1, a0]
    rfl

theorem info3 : (Try.prog.info? 3).map (fun i => (i.zero, i.size, i.bytes)) = some (some (.int .i64 0), 1, 8) := by kernel_rfl

def FreeMid (W0 : World) (pt ph px bt b p i : Nat) (room most : Int) (vs : Value) (x : AWord) (s : ASlot) (free : List Nat) (sv : List (ASlot × Value)) (rest : List Value) (M : List HProp) (r : Value) (w' : World) : Prop :=
  r = .int .i64 0 ∧ ∃ v' vf', St W0 w' (wordsOwn v' s.c.ws :: cellsB bt #[.int .u8 s.c.k, .int .i64 s.c.n, v'] 118 :: cellsB pt #[.pointer (some ⟨bt, 0, none⟩)] 116 :: cellsB ph #[.pointer (some ⟨p, 0, none⟩)] 25 :: cellsB px #[.int .u8 x.k, .int .i64 x.n, .string x.s, .int .i64 x.g] 36 ::
    cellsB b ((sv.set i (⟨.zero, s.gen + 1, false⟩, .slice none 0 0)).flatMap slotCells ++ rest).toArray 124 :: cellsB p #[.int .i64 room, .int .i64 most, vs, vf'] 109 :: ownS 3 1 vf' (free.length + 1) (intsV (free ++ [i])) :: slotsW (sv.set i (⟨.zero, s.gen + 1, false⟩, .slice none 0 0)) :: M)

section
variable {W0 w : World} {pt ph px bt b p i : Nat} {room most : Int} {vs vf v : Value} {x : AWord} {s : ASlot} {free : List Nat} {sv : List (ASlot × Value)} {rest : List Value} {M : List HProp}

set_option maxRecDepth 100000 in
set_option maxHeartbeats 1000000 in
theorem free1_c (h : St W0 w (cellsB pt #[.pointer (some ⟨bt, 0, none⟩)] 116 :: cellsB ph #[.pointer (some ⟨p, 0, none⟩)] 25 :: cellsB px #[.int .u8 x.k, .int .i64 x.n, .string x.s, .int .i64 x.g] 36 ::
      cellsB bt #[.int .u8 0, .int .i64 0, .slice none 0 0] 118 :: cellsB b (sv.flatMap slotCells ++ rest).toArray 124 :: cellsB p #[.int .i64 room, .int .i64 most, vs, vf] 109 :: ownS 3 1 vf free.length (intsV free) :: slotsW sv :: M))
    (hs : sv[i]? = some (s, v)) (hx : x.n = i) (hw : s.c.ws.length ≤ 1000000) (hg0 : 0 ≤ s.gen) (hg1 : s.gen < 1000000000) (hfl : free.length ≤ 1000000) :
    Calls Try.prog 79 #[.pointer (some ⟨b, i * 5, none⟩), .pointer (some ⟨pt, 0, none⟩), .pointer (some ⟨ph, 0, none⟩), .pointer (some ⟨px, 0, none⟩)] w
      fun e w' => ∃ r, e = .returned r ∧ FreeMid W0 pt ph px bt b p i room most vs x s free sv rest M r w' := by
  have TK := Lib.hid (take_c (((((h.pull 1).pull 2).pull 4).pull 4)) hs hw ((h.pull 7).slots_rd hs))
  obtain ⟨a, cap, rfl, _⟩ := St.own_form (h.pull 6)
  have d0 := h.cell
  have HG := Lib.hid (And.intro hs (And.intro hw hfl))
  have hi : i < sv.length := (List.getElem?_eq_some_iff.1 hs).1
  clear h hs hw hfl
  unfold FreeMid
  rw [hx] at *
  clear hx
  go_enter Try.func79, Try.ntmps79
  go_wp2_with (go_at_call 77; refine TK.out.mono ?_; rintro e w1 ⟨_, rfl, rfl, v', S⟩; obtain ⟨c0, c1, c2, c3, c4⟩ := slot_cells (S.pull 2) HG.out.1; have fb := (S.pull 2).free; have SS := Lib.hid S; clear S)
  have S3 := ((((((SS.out.pull 2).set (i * 5 + 4) (.bool false)).set (i * 5) (.int .u8 0)).set (i * 5 + 1) (.int .i64 0)).set (i * 5 + 2) (.slice none 0 0)).set (i * 5 + 3) (.int .i64 (s.gen + 1)))
  simp only [List.setIfInBounds_toArray] at S3
  have FlS := flat_set5 (⟨.zero, s.gen + 1, false⟩, .slice none 0 0) rest sv i hi
  dsimp only [ACell.zero] at FlS
  rw [FlS] at S3
  clear FlS
  clear c0 c1 c2 c3 c4 fb d0 SS
  refine abs_wp S3 ?_
  clear S3
  intro w2 S3
  refine wp_region_st S3 [0, 1, 2, 3, 4, 5, 6, 7, 8, 9, 10, 11] (fun w' => (∀ o, w'.cell? ⟨ph, o, none⟩ = #[Value.pointer (some ⟨p, 0, none⟩)][o]?) ∧ (∀ o, w'.cell? ⟨px, o, none⟩ = #[Value.int .u8 x.k, .int .i64 i, .string x.s, .int .i64 x.g][o]?) ∧ (∀ o, w'.cell? ⟨p, o, none⟩ = #[Value.int .i64 room, .int .i64 most, vs, .slice a free.length cap][o]?)) [0, 1, 4, 6] [7, 8, 11] [11] (by kernel_rfl) (by kernel_rfl) (fun c d v a w h => by cases d <;> exact h) ?_
  clear S3
  intro w3 S3
  have HF := Lib.hid (And.intro (S3.pull 4).cell (And.intro (S3.pull 3).cell (S3.pull 6).cell))
  iterate 7
    (first
      | refine walk_load rfl rfl rfl HF.out rfl (by rintro w' ⟨g0, g1, g2⟩; go_simp; with_reducible rfl) ?_
      | refine walk_pure rfl rfl rfl rfl (by intro w'; go_simp; with_reducible rfl) ?_)
    simp only [Act.put, List.setIfInBounds_toArray, List.set_cons_zero, List.set_cons_succ]
  clear HF
  have S4 := S3.allocC #[Value.int .i64 i] 3
  refine walk_do rfl rfl rfl (fun K hK => ?_)
  go_simp
  refine hK _ _ (fun _ => And.intro (S4.pull 5).cell (And.intro (S4.pull 4).cell (S4.pull 7).cell)) ?_
  clear hK K
  generalize w3.heap.size = B at S4 ⊢
  refine abs_walk S4 ?_
  clear S3 S4
  intro w4 S4
  obtain ⟨ii, hi1, hz0, hz1, hz2⟩ := info_parts info3
  refine walk_do rfl rfl rfl (fun K hK => ?_)
  refine wp_append_st (S4.pull 8) (rd_cells (sz := 1) (n := 1) (cap := 1) S4 (Nat.le_refl _) rfl) (by simp [Value.oneCell']) hi1 hz0 hz1 hz2 rfl (by have := HG.out.2.2; unfold maxLen; omega) (by have := HG.out.2.2; omega) Try.underlying52 _ _ rfl rfl rfl ?_
  intro vf' w5 S5 _
  obtain ⟨a2, cap2, rfl, _⟩ := S5.own_form
  refine hK _ _ (fun _ => And.intro (S5.pull 6).cell (And.intro (S5.pull 5).cell (S5.pull 8).cell)) ?_
  clear hK K S4
  simp only [Act.put, List.setIfInBounds_toArray, List.set_cons_zero, List.set_cons_succ]
  iterate 2
    refine walk_pure rfl rfl rfl rfl (by intro w'; go_simp; with_reducible rfl) ?_
    simp only [Act.put, List.setIfInBounds_toArray, List.set_cons_zero, List.set_cons_succ]
  have cp := (S5.pull 8).cell
  have fp := (S5.pull 8).free
  refine walk_do rfl rfl rfl (fun K hK => ?_)
  go_simp
  refine hK _ _ (fun h => by cases h) (walk_nil ?_)
  clear hK K cp fp
  have S6 := (S5.pull 8).set 3 (.slice a2 (free.length + 1) cap2)
  go_wp2
  go_ret
  have e : intsV free ++ [Value.int .i64 (i : Int)] = intsV (free ++ [i]) := by simp [intsV]
  have S7 : St W0 _ (cellsB p #[.int .i64 room, .int .i64 most, vs, .slice a2 (free.length + 1) cap2] 109 :: ownS 3 1 (.slice a2 (free.length + 1) cap2) (free.length + 1) (intsV (free ++ [i])) :: _) := e ▸ S6
  have S8 := (((S7.pull 9).slots_take HG.out.1).tail.own_nil (T := 36) (sz := 4))
  have S9 := St.slots_set (s := ⟨⟨0, 0, []⟩, s.gen + 1, false⟩) (v := .slice none 0 0) S8 hi
  have S10 := (S9.pull 3).tail
  exact ⟨_, rfl, rfl, _, _, (((((((S10.pull 2).pull 2).pull 3).pull 6).pull 7).pull 8).pull 8).pull 8⟩
end

end Go.Proofs.Ytciciaikajdenaa
