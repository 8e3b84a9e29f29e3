/- give, a new cell. -/
import Derived.Test.YtciciaikajdenaaW12
import Derived.Deep.CutRange
set_option linter.unusedSimpArgs false
set_option linter.unusedVariables false
namespace Go.Proofs.Ytciciaikajdenaa
open Go.RowKit

def zeroSlot : List Value := [.int .u8 0, .int .i64 0, .slice none 0 0, .int .i64 0, .bool false]
theorem one_zeroSlot : ∀ u ∈ zeroSlot, u.oneCell' = true := by
  intro u hu
  simp [zeroSlot] at hu
  rcases hu with rfl | rfl | rfl | rfl | rfl <;> rfl

set_option maxRecDepth 100000 in
set_option maxHeartbeats 2000000 in
theorem give_new {W0 w : World} {L : List HProp} {p : Nat} {H : AHeap} {B : Int} (h : St W0 w (heapAt p H :: L)) (ok : H.Ok B) (c : ACell) (vc : Value)
    (hR : ∀ w', St W0 w' L → rd w' 4 vc c.ws.length (flatW c.ws)) (hm : c.ws.length ≤ 64) (hfree : H.free = []) :
    Calls Try.prog 74 #[.pointer (some ⟨p, 0, none⟩), cv c vc] w fun e w' => GivePost W0 L p (H.give c) e w' := by
  obtain ⟨a, cap, rfl⟩ : ∃ a cap, vc = .slice a c.ws.length cap := by
    rcases (hR w h.tail).2 with ⟨⟨_, _, rfl⟩, e⟩ | ⟨b, off, cap, rfl, _⟩
    · exact ⟨_, _, by rw [e]⟩
    · exact ⟨_, _, rfl⟩
  have s0 := (h.allocC #[Value.int .u8 c.k, .int .i64 c.n, .slice a c.ws.length cap] 34).allocC #[Value.int .u8 0, .int .i64 0, .string ⟨#[]⟩, .int .i64 0] 36
  simp only [World.size_alloc] at s0
  obtain ⟨vs, vf, sv, e, hO⟩ := (s0.pull 2).heap_open
  unfold heapL at hO
  simp only [List.cons_append, List.nil_append] at hO
  -- [p, slots, free, slotsW, res, pc, L]
  rw [hfree] at hO
  obtain ⟨va, vcap, rfl, _⟩ := (hO.pull 1).own_form
  obtain ⟨fa, fcap, rfl, _⟩ := (hO.pull 2).own_form
  have hlen1 : sv.length ≤ 100000 := by rw [sv_len e]; have := ok.few; have := ok.room1; omega
  obtain ⟨ii, hi1, hz0, hz1, hz2⟩ := info_parts info124
  have hal := hO.allocC zeroSlot.toArray 124
  simp only [World.size_alloc] at hal
  have A := Lib.hid fun o rest ops Q x => wpList_append_st (P := Try.prog) (o := o) (rest := rest) (ops := ops) (Q := Q) (a := x) (hal.pull 2) (rd_cells (sz := 5) (n := 1) (cap := 1) hal (Nat.le_refl _) rfl) one_zeroSlot hi1 hz0 hz1 hz2 rfl (by unfold maxLen; omega) (by omega) Try.underlying107
  have hzero : sv.flatMap slotCells ++ [Value.int .u8 0, .int .i64 0, .slice none 0 0, .int .i64 0, .bool false] = (sv ++ [((⟨ACell.zero, 0, false⟩ : ASlot), Value.slice none 0 0)]).flatMap slotCells := by simp [slotCells, ACell.zero]
  have HZ := Lib.hid hzero
  have HT := Lib.hid hO
  have HR := Lib.hid hR
  have HE := Lib.hid e
  have HM := Lib.hid hm
  have HFR := Lib.hid hfree
  have d0 := hO.cell
  clear h s0 hO ok hR hm e hfree hal hi1 hz0 hz1 hz2 hzero
  unfold cv
  unfold zeroSlot at A
  simp only [List.length_nil] at d0
  go_enter Try.func74, Try.ntmps74
  go_upto_region 6 with (at_builtin; refine A.out _ _ _ _ _ _ _ rfl rfl rfl rfl ?_; intro v' w1 S1 _; obtain ⟨va2, vcap2, rfl, _⟩ := S1.own_form; have dp := (S1.pull 2).cell; have fp := (S1.pull 2).free; have S1 := Lib.hid S1)
  have S2 := (S1.out.pull 2).set 2 (.slice va2 (sv.length + 1) vcap2)
  simp only [List.setIfInBounds_toArray, List.set_cons_zero, List.set_cons_succ, List.length_nil] at S2
  rw [HZ.out] at S2
  -- [p, slots, cellB, free, slotsW, res, pc, L]
  have S3 := (((S2.pull 2).tail.pull 3).own_nil (T := 36) (sz := 4))
  have S3 := St.slots_snoc (s := ⟨.zero, 0, false⟩) (v := .slice none 0 0) S3
  -- [slotsW, p, slots, free, res, pc, L]
  have hl1 : (sv ++ [((⟨ACell.zero, 0, false⟩ : ASlot), Value.slice none 0 0)]).length = sv.length + 1 := by simp
  have hs1 : (sv ++ [((⟨ACell.zero, 0, false⟩ : ASlot), Value.slice none 0 0)])[sv.length]? = some (⟨ACell.zero, 0, false⟩, .slice none 0 0) := by simp
  have he1 : (sv ++ [((⟨ACell.zero, 0, false⟩ : ASlot), Value.slice none 0 0)]).map Prod.fst = H.slots ++ [⟨ACell.zero, 0, false⟩] := by simp [HE.out]
  clear S1 S2 A HZ HT dp fp
  generalize sv ++ [((⟨ACell.zero, 0, false⟩ : ASlot), Value.slice none 0 0)] = sv1 at S3 hl1 hs1 he1
  obtain ⟨hl2, hc2⟩ := St.own_cases (S3.pull 2)
  obtain ⟨b, scap, rest, e, c1, c2, c3, S4⟩ := hc2.resolve_left (fun q => by have := q.2.1; omega)
  injection e with e1 _ e3
  subst e1 e3
  clear hc2 S3
  rw [hl2] at c3
  -- [b, slotsW, p, free, res, pc, L]
  have S4 := (S4.pull 3).pull 3
  -- [p, free, b, slotsW, res, pc, L]
  have HC := Lib.hid (And.intro c1 (And.intro c2 c3))
  have HS := Lib.hid hs1
  have HL := Lib.hid hl1
  have HE1 := Lib.hid he1
  have hi : sv.length < sv1.length := by omega
  clear c1 c2 c3 hs1 hl1 he1 hl2 d0
  refine abs_wp S4 ?_
  clear S4
  intro w4 S4
  have d0 := S4.cell
  have dc := (S4.pull 5).cell
  have SS := Lib.hid S4
  clear S4
  go_wp2_with (go_at_call 82; refine (copied_c c (.slice a c.ws.length cap) _ (by have := HM.out; omega) (HR.out _ SS.out.tail.tail.tail.tail.tail.tail)).mono ?_; rintro e w5 ⟨v', rfl, k⟩; obtain ⟨a', cap', rfl, _⟩ := St.own_form k; have S5 := SS.out.chain k; obtain ⟨g0, g1, g2, g3, g4⟩ := slot_cells (S5.pull 3) HS.out; have fb := (S5.pull 3).free; have S5 := Lib.hid S5; clear k dc d0; simp only [cv])
  have S6 := (S5.out.pull 3).slot4 HS.out c (.slice a' c.ws.length cap') true
  -- [b, wo, p, free, slotsW, res, pc, L]
  have S7 := St.slots_set (s := ⟨c, 0, true⟩) (v := .slice a' c.ws.length cap') (((S6.pull 4).slots_take HS.out).tail.pull 2) hi
  -- [slotsW, b, p, free, res, pc, L]
  have S8 := S7.pull 3
  have hl1 : sv1.length = (sv1.set sv.length (⟨c, 0, true⟩, .slice a' c.ws.length cap')).length := by simp
  have e5 : (sv1.set sv.length (⟨c, 0, true⟩, .slice a' c.ws.length cap')).map Prod.fst = H.slots ++ [⟨c, 0, true⟩] := by
    rw [List.map_set, HE1.out, sv_len HE.out]
    simp
  have h5 := set_get (y := ((⟨c, 0, true⟩ : ASlot), Value.slice a' c.ws.length cap')) HS.out
  clear S6 S7 HS hi S5 SS HR
  generalize hsv : sv1.set sv.length (⟨c, 0, true⟩, .slice a' c.ws.length cap') = sv' at S8 hl1 e5 h5
  rw [show sv.length + 1 = sv'.length by rw [← hl1, HL.out]] at S8
  have S9 := (((S8.pull 1).pull 1).pull 3).pull 3
  -- [b, p, own, slotsW, res, pc, L]
  have hgive : H.give c = (cellWord H.slots.length 0, { H with slots := H.slots ++ [⟨c, 0, true⟩], most := max H.most (H.live + 1) }) := by
    unfold AHeap.give
    rw [HFR.out]
    simp
  have hlive : ({ H with slots := H.slots ++ [⟨c, 0, true⟩] } : AHeap).live = H.live + 1 := by
    unfold AHeap.live
    simp [HFR.out]
  have HGV := Lib.hid hgive
  have HLV := Lib.hid hlive
  have HE5 := Lib.hid e5
  have HC' : Hid (sv'.length ≤ vcap2 ∧ vcap2 ≤ maxLen ∧ vcap2 * 5 ≤ sv'.length * 5 + rest.length) := by rw [← hl1, HL.out]; exact HC.out
  have HH5 := Lib.hid h5
  have HF0 : Hid (H.free.length = 0) := by show H.free.length = 0; rw [HFR.out]; rfl
  clear hgive hlive e5 hsv HE1 HC HL hl1 h5 HM S8 g0 g1 g2 g3 g4 fb
  have close : ∀ w' mo M, St W0 w' (cellsB b (sv'.flatMap slotCells ++ rest).toArray 124 :: cellsB p #[.int .i64 H.room, .int .i64 mo, .slice (some ⟨b, 0, none⟩) sv'.length vcap2, .slice fa 0 fcap] 109 :: ownS 3 1 (.slice fa 0 fcap) 0 (intsV []) :: slotsW sv' :: M) →
      St W0 w' (heapAt p { H with slots := H.slots ++ [⟨c, 0, true⟩], most := mo } :: M) := by
    intro w' mo M S
    refine St.heap_back (b := b) (vf := .slice fa 0 fcap) (H := { H with slots := H.slots ++ [⟨c, 0, true⟩], most := mo }) HE5.out HC'.out.1 HC'.out.2.1 HC'.out.2.2 ?_
    show St W0 w' (_ :: _ :: ownS 3 1 _ H.free.length (intsV H.free) :: _)
    rw [HFR.out]
    exact S
  have HCL := Lib.hid close
  clear close
  refine wp_region_st S9 [0, 1, 2, 3, 4, 5, 6, 7, 8, 9, 10] (fun w' => (∀ o, w'.cell? ⟨p, o, none⟩ = #[Value.int .i64 H.room, .int .i64 H.most, .slice (some ⟨b, 0, none⟩) sv'.length vcap2, .slice fa 0 fcap][o]?)) [4] [6, 10] [10] (by kernel_rfl) (by kernel_rfl) (fun c d v a w h => by cases d <;> exact h) ?_
  clear S9
  intro w6 S6
  have HF := Lib.hid (S6.pull 1).cell
  iterate 6
    (first
      | refine walk_load rfl rfl rfl HF.out rfl (by rintro w' g0; go_simp; with_reducible rfl) ?_
      | refine walk_pure rfl rfl rfl rfl (by intro w'; go_simp; with_reducible rfl) ?_)
    simp only [Act.put, List.setIfInBounds_toArray, List.set_cons_zero, List.set_cons_succ]
  refine walk_do rfl rfl rfl (fun K hK => ?_)
  go_simp
  refine (live_c (HCL.out _ _ _ S6)).mono ?_
  rintro e w' ⟨rfl, n, rfl⟩
  rw [HLV.out]
  refine hK _ _ (fun _ => (S6.drewN n |>.pull 1).cell) ?_
  clear hK K HF
  refine abs_walk (S6.drewN n) ?_
  clear S6
  intro w7 S7
  iterate 3
    refine walk_pure rfl rfl rfl rfl (by intro w'; go_simp; with_reducible rfl) ?_
    simp only [Act.put, List.setIfInBounds_toArray, List.set_cons_zero, List.set_cons_succ]
  have cp := (S7.pull 1).cell
  have fp := (S7.pull 1).free
  refine walk_do rfl rfl rfl (fun K hK => ?_)
  go_simp
  have em : (if H.most < H.live + 1 then H.live + 1 else H.most) = max H.most (H.live + 1) := by split <;> omega
  rw [em]
  refine hK _ _ (fun h => by cases h) (walk_nil ?_)
  clear hK K cp fp em
  have S8 := (S7.pull 1).set 1 (.int .i64 (max H.most (H.live + 1)))
  clear S7
  iterate 2 go_step
  refine abs_wp S8 ?_
  clear S8
  intro w8 S8
  simp only [List.setIfInBounds_toArray, List.set_cons_zero, List.set_cons_succ] at S8
  obtain ⟨g0, g1, g2, g3, g4⟩ := slot_cells (S8.pull 1) HH5.out
  have d4 := (S8.pull 4).cell
  have f4 := (S8.pull 4).free
  have SS := Lib.hid S8
  clear S8
  go_wp2
  have S9 := ((((SS.out.pull 4).set 0 (.int .u8 5)).set 1 (.int .i64 sv.length)).set 2 (.string ⟨#[]⟩)).set 3 (.int .i64 0)
  have d5 := S9.cell
  refine bodyPost_ret (v := .agg #[.int .u8 5, .int .i64 sv.length, .string ⟨#[]⟩, .int .i64 0]) (by simp [results, Try.results74, go_sem, d5]) rfl ?_
  unfold GivePost
  rw [HGV.out, ← sv_len HE.out]
  refine ⟨rfl, ?_⟩
  -- [res, p, b, own, slotsW, pc, L]
  exact (((HCL.out _ _ _ ((((((S9.pull 5).pull 1).pull 5).pull 5).pull 4).pull 5)).pull 1).tail.pull 1).tail

end Go.Proofs.Ytciciaikajdenaa
