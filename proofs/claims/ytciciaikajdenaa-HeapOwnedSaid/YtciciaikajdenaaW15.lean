/- Cells. -/
import Derived.Test.YtciciaikajdenaaW14
set_option linter.unusedSimpArgs false
set_option linter.unusedVariables false
namespace Go.Proofs.Ytciciaikajdenaa
open Go.RowKit

theorem wordsFrom_append (l m : List ASlot) : ∀ i, wordsFrom i (l ++ m) = wordsFrom i l ++ wordsFrom (i + l.length) m := by
  induction l with
  | nil => intro i; simp [wordsFrom]
  | cons a l ih => intro i; simp [wordsFrom, ih, Nat.add_assoc, Nat.add_comm 1]

theorem wordsFrom_len (l : List ASlot) : ∀ i, (wordsFrom i l).length ≤ l.length := by
  induction l with
  | nil => intro i; simp [wordsFrom]
  | cons a l ih => intro i; have := ih (i + 1); cases h : a.lives <;> simp [wordsFrom, h] <;> omega

theorem wordsFrom_take {l : List ASlot} {k : Nat} {s : ASlot} (h : l[k]? = some s) : wordsFrom 0 (l.take (k + 1)) = wordsFrom 0 (l.take k) ++ (if s.lives then [cellWord k s.gen] else []) := by
  have hk := (List.getElem?_eq_some_iff.1 h).1
  rw [List.take_add_one, h, wordsFrom_append]
  simp [wordsFrom, Nat.min_eq_left (Nat.le_of_lt hk)]

def CellsPost (H : AHeap) (w : World) (e : Ending) (w' : World) : Prop := ∃ v, e = .returned v ∧ St w w' [wordsOwn v H.cells]
def CellsRel (H : AHeap) (w : World) (v i : Value) (wr : World) : Prop :=
  ∃ k : Nat, k ≤ H.slots.length ∧ i = .int .i64 k ∧ St w wr [wordsOwn v (wordsFrom 0 (H.slots.take k))]

set_option maxRecDepth 100000 in
set_option maxHeartbeats 1000000 in
theorem cells_c {W0 w : World} {L : List HProp} {p : Nat} {H : AHeap} {B : Int} (h : St W0 w (heapAt p H :: L)) (ok : H.Ok B) :
    Calls Try.prog 38 #[.pointer (some ⟨p, 0, none⟩)] w fun e w' => CellsPost H w e w' := by
  obtain ⟨vs, vf, sv, e, hO⟩ := h.heap_open
  unfold heapL at hO
  simp only [List.cons_append, List.nil_append] at hO
  obtain ⟨va, vcap, rfl, _⟩ := (hO.pull 1).own_form
  have d0 := hO.cell
  have hlen : sv.length ≤ 100000 := by rw [sv_len e]; have := ok.few; have := ok.room1; omega
  have hsl : sv.length = H.slots.length := sv_len e
  have key : ∀ k, k < sv.length → ∃ b, va = some ⟨b, 0, none⟩ ∧ ∃ a n cap, w.cell? ⟨b, k * 5, none⟩ = some (.int .u8 (H.slot k).c.k) ∧ w.cell? ⟨b, k * 5 + 1, none⟩ = some (.int .i64 (H.slot k).c.n) ∧ w.cell? ⟨b, k * 5 + 2, none⟩ = some (.slice a n cap) ∧ w.cell? ⟨b, k * 5 + 3, none⟩ = some (.int .i64 (H.slot k).gen) ∧ w.cell? ⟨b, k * 5 + 4, none⟩ = some (.bool (H.slot k).lives) := by
    intro k hk
    obtain ⟨hl, hc⟩ := St.own_cases (hO.pull 1)
    obtain ⟨b, cap, rest, e1, _, _, _, t⟩ := hc.resolve_left (fun q => by have := q.2.1; omega)
    injection e1 with e1 _ _
    obtain ⟨v, hs⟩ := sv_get e (by rw [← hsl]; exact hk)
    obtain ⟨a, cap', rfl, _⟩ := ((hO.pull 3).slots_take hs).own_form
    exact ⟨b, e1, a, _, cap', slot_cells t hs⟩
  have KEY := Lib.hid key
  have HSL := Lib.hid hsl
  clear h hO ok e key
  go_enter Try.func38, Try.ntmps38
  go_wp2
  go_loopw [3, 13] (fun v i wr => CellsRel H w v i wr) (fun _ i _ => sv.length - (intOf i).toNat)
  case atStart =>
    refine ⟨0, Nat.zero_le _, rfl, ?_⟩
    simp only [List.take_zero, wordsFrom]
    exact (St.refl w).own_nil
  case round =>
    obtain ⟨k, hk, rfl, S⟩ := hrel
    obtain ⟨oa, ocap, rfl, _⟩ := St.own_form S
    by_cases hlt : k < sv.length
    · obtain ⟨b, rfl, a, n, cap, g0, g1, g2, g3, g4⟩ := KEY.out k hlt
      have hb := S.below
      replace g0 := keep_cell hb g0
      replace g1 := keep_cell hb g1
      replace g2 := keep_cell hb g2
      replace g3 := keep_cell hb g3
      replace g4 := keep_cell hb g4
      have hg : H.slots[k]? = some (H.slot k) := AHeap.slot_get (by rw [← hsl]; exact hlt)
      have HG := Lib.hid hg
      have SS := Lib.hid S
      clear hb hg S
      cases hlv : (H.slot k).lives
      · have HLV := Lib.hid hlv
        rw [hlv] at g4
        clear hlv
        go_wp2
        refine ⟨⟨k + 1, by omega, by go_num, ?_⟩, by simp [intOf]; omega⟩
        rw [wordsFrom_take HG.out, HLV.out]
        simp only [Bool.false_eq_true, if_false, List.append_nil]
        exact (SS.out.alloc _).tail
      · have HLV := Lib.hid hlv
        rw [hlv] at g4
        clear hlv
        have S1 := (SS.out.allocC #[Value.int .u8 (H.slot k).c.k, .int .i64 (H.slot k).c.n, .slice a n cap, .int .i64 (H.slot k).gen, .bool true] 124).allocC #[Value.int .u8 5, .int .i64 k, .string ⟨#[]⟩, .int .i64 (H.slot k).gen] 36
        simp only [World.size_alloc] at S1
        obtain ⟨ii, hi1, hz0, hz1, hz2⟩ := info_parts info36
        have hwl : (wordsFrom 0 (H.slots.take k)).length ≤ 100000 := by
          have h1 := wordsFrom_len (H.slots.take k) 0
          have h2 : (H.slots.take k).length ≤ k := List.length_take_le _ _
          omega
        have A := Lib.hid fun o rest ops Q x => wpList_append_st (P := Try.prog) (o := o) (rest := rest) (ops := ops) (Q := Q) (a := x) (S1.pull 2) (rd_cells (sz := 4) (n := 1) (cap := 1) S1 (Nat.le_refl _) rfl) (one_flatW [cellWord k (H.slot k).gen]) hi1 hz0 hz1 hz2 rfl (by unfold maxLen; omega) (by omega) Try.underlying32
        clear S1 hi1 hz0 hz1 hz2 hwl
        go_wp2_with (at_builtin; refine A.out _ _ _ _ _ _ _ rfl rfl rfl rfl ?_; intro v' w1 S1 _; have S1 := Lib.hid S1)
        refine ⟨⟨k + 1, by omega, by go_num, ?_⟩, by simp [intOf]; omega⟩
        have e1 : wordsFrom 0 (H.slots.take (k + 1)) = wordsFrom 0 (H.slots.take k) ++ [cellWord k (H.slot k).gen] := by rw [wordsFrom_take HG.out, HLV.out]; rfl
        rw [e1]
        have S2 := S1.out.fst
        unfold wordsOwn
        rw [List.length_append, show flatW (wordsFrom 0 (H.slots.take k) ++ [cellWord k (H.slot k).gen]) = flatW (wordsFrom 0 (H.slots.take k)) ++ flatW [cellWord k (H.slot k).gen] from List.flatMap_append]
        exact S2
    · go_wp2
      go_ret
      have ht : wordsFrom 0 H.slots = wordsFrom 0 (H.slots.take k) := by rw [List.take_of_length_le (by omega)]
      refine ⟨.slice oa (wordsFrom 0 (H.slots.take k)).length ocap, rfl, ?_⟩
      unfold AHeap.cells
      rw [ht]
      exact S

end Go.Proofs.Ytciciaikajdenaa
