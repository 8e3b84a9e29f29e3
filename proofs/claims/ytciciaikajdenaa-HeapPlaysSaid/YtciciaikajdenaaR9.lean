/- The document's Cells. -/
import Derived.Test.YtciciaikajdenaaR8
set_option linter.unusedSimpArgs false
set_option linter.unusedVariables false
namespace Go.Proofs.Ytciciaikajdenaa
open Go.RowKit

set_option maxRecDepth 100000 in
set_option maxHeartbeats 1000000 in
theorem cellsR_c {W0 w : World} {L : List HProp} {p : Nat} {H : AHeap} {B : Int} (h : St W0 w (heapRAt p H :: L)) (ok : H.Ok B) :
    Calls Try.prog 39 #[.pointer (some ⟨p, 0, none⟩)] w fun e w' => CellsPost H w e w' := by
  obtain ⟨va, vcap, vf, dp, _, _, key⟩ := h.heapR_view
  have hlen : H.slots.length ≤ 100000 := by have := ok.few; have := ok.room1; omega
  have DP := Lib.hid dp
  have KEY := Lib.hid key
  clear h ok key dp
  unfold CellsPost
  go_enter Try.func39, Try.ntmps39
  go_wp2
  go_loopw [3, 4] (fun v i wr => CellsRel H w v i wr) (fun _ i _ => H.slots.length - (intOf i).toNat)
  case atStart =>
    refine ⟨0, Nat.zero_le _, rfl, ?_⟩
    simp only [List.take_zero, wordsFrom]
    exact (St.refl w).own_nil
  case round =>
    obtain ⟨k, hk, rfl, S⟩ := hrel
    obtain ⟨oa, ocap, rfl, _⟩ := St.own_form S
    have hb := S.below
    have dp : ∀ o, wr.cell? ⟨p, o, none⟩ = #[Value.int .i64 H.room, .slice va H.slots.length vcap, vf, .int .i64 H.most][o]? := old_cells hb DP.out (by simp)
    by_cases hlt : k < H.slots.length
    · obtain ⟨b, rfl, v, g0, g1, g2, g3, g4, _⟩ := KEY.out k hlt
      replace g3 := keep_cell hb g3
      replace g4 := keep_cell hb g4
      have hg : H.slots[k]? = some (H.slot k) := AHeap.slot_get hlt
      have HG := Lib.hid hg
      have SS := Lib.hid S
      clear hb hg S g0 g1 g2
      cases hlv : (H.slot k).lives
      · have HLV := Lib.hid hlv
        rw [hlv] at g4
        clear hlv
        go_wp2
        refine ⟨⟨k + 1, by omega, by go_num, ?_⟩, by simp [intOf]; omega⟩
        rw [wordsFrom_take HG.out, HLV.out]
        simp only [Bool.false_eq_true, if_false, List.append_nil]
        exact SS.out
      · have HLV := Lib.hid hlv
        rw [hlv] at g4
        clear hlv
        have S1 := SS.out.allocC #[Value.int .u8 5, .int .i64 k, .string ⟨#[]⟩, .int .i64 (H.slot k).gen] 36
        obtain ⟨ii, hi1, hz0, hz1, hz2⟩ := info_parts info36
        have hwl : (wordsFrom 0 (H.slots.take k)).length ≤ 100000 := by
          have h1 := wordsFrom_len (H.slots.take k) 0
          have h2 : (H.slots.take k).length ≤ k := List.length_take_le _ _
          omega
        have A := Lib.hid fun o rest ops Q x => wpList_append_st (P := Try.prog) (o := o) (rest := rest) (ops := ops) (Q := Q) (a := x) (S1.pull 1) (rd_cells (sz := 4) (n := 1) (cap := 1) S1 (Nat.le_refl _) rfl) (one_flatW [cellWord k (H.slot k).gen]) hi1 hz0 hz1 hz2 rfl (by unfold maxLen; omega) (by omega) Try.underlying32
        clear S1 hi1 hz0 hz1 hz2 hwl
        go_wp2_with (at_builtin; refine A.out _ _ _ _ _ _ _ rfl rfl rfl rfl ?_; intro v' w1 S1 _; have S1 := Lib.hid S1)
        refine ⟨⟨k + 1, by omega, by go_num, ?_⟩, by simp [intOf]; omega⟩
        have e1 : wordsFrom 0 (H.slots.take (k + 1)) = wordsFrom 0 (H.slots.take k) ++ [cellWord k (H.slot k).gen] := by rw [wordsFrom_take HG.out, HLV.out]; rfl
        rw [e1]
        have S2 := S1.out.fst
        unfold wordsOwn
        rw [List.length_append, show flatW (wordsFrom 0 (H.slots.take k) ++ [cellWord k (H.slot k).gen]) = flatW (wordsFrom 0 (H.slots.take k)) ++ flatW [cellWord k (H.slot k).gen] from List.flatMap_append]
        exact S2
    · go_wp2
      go_ret
      have ht : wordsFrom 0 H.slots = wordsFrom 0 (H.slots.take k) := by rw [List.take_of_length_le (by omega)]
      refine ⟨.slice oa (wordsFrom 0 (H.slots.take k)).length ocap, rfl, ?_⟩
      unfold AHeap.cells
      rw [ht]
      exact S

end Go.Proofs.Ytciciaikajdenaa
