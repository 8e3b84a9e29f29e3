/- give, a new cell. -/
import Derived.Deep.CutRange
import Derived.Test.YtciciaikajdenaaTPR12W10x3
set_option linter.unusedSimpArgs false
set_option linter.unusedVariables false
namespace Go.Proofs.Ytciciaikajdenaa
open Go.RowKit

def zeroSlot : List Value := [.int .u8 0, .int .i64 0, .slice none 0 0, .int .i64 0, .bool false]
theorem one_zeroSlot : ∀ u ∈ zeroSlot, u.oneCell' = true := by
  intro u hu
  simp [zeroSlot] at hu
  rcases hu with rfl | rfl | rfl | rfl | rfl <;> rfl

set_option maxRecDepth 100000 in
set_option maxHeartbeats 2000000 in
theorem give_new {W0 w : World} {L : List HProp} {p : Nat} {H : AHeap} {B : Int} (h : St W0 w (heapAt p H :: L)) (ok : H.Ok B) (c : ACell) (vc : Value)
    (hR : ∀ w', St W0 w' L → rd w' 4 vc c.ws.length (flatW c.ws)) (hm : c.ws.length ≤ 64) (hfree : H.free = []) :
    Calls Try.prog 74 #[.pointer (some ⟨p, 0, none⟩), cv c vc] w fun e w' => GivePost W0 L p (H.give c) e w' := by
  obtain ⟨a, cap, rfl⟩ : ∃ a cap, vc = .slice a c.ws.length cap := by
    rcases (hR w h.tail).2 with ⟨⟨_, _, rfl⟩, e⟩ | ⟨b, off, cap, rfl, _⟩
    · exact ⟨_, _, by rw [e]⟩
    · exact ⟨_, _, rfl⟩
  have s0 := (h.allocC #[Value.int .u8 c.k, .int .i64 c.n, .slice a c.ws.length cap] 34).allocC #[Value.int .u8 0, .int .i64 0, .string ⟨#[]⟩, .int .i64 0] 36
  simp only [World.size_alloc] at s0
  obtain ⟨vs, vf, sv, e, hO⟩ := (s0.pull 2).heap_open
  unfold heapL at hO
  simp only [List.cons_append, List.nil_append] at hO
  -- [p, slots, free, slotsW, res, pc, L]
  rw [hfree] at hO
  obtain ⟨va, vcap, rfl, _⟩ := (hO.pull 1).own_form
  obtain ⟨fa, fcap, rfl, _⟩ := (hO.pull 2).own_form
  have hlen1 : sv.length ≤ 100000 := by rw [sv_len e]; have := ok.few; have := ok.room1; omega
  obtain ⟨ii, hi1, hz0, hz1, hz2⟩ := info_parts info124
  have hal := hO.allocC zeroSlot.toArray 124
  simp only [World.size_alloc] at hal
  have A := Lib.hid fun o rest ops Q x => wpList_append_st (P := Try.prog) (o := o) (rest := rest) (ops := ops) (Q := Q) (a := x) (hal.pull 2) (rd_cells (sz := 5) (n := 1) (cap := 1) hal (Nat.le_refl _) rfl) one_zeroSlot hi1 hz0 hz1 hz2 rfl (by unfold maxLen; omega) (by omega) Try.underlying107
  have hzero : sv.flatMap slotCells ++ [Value.int .u8 0, .int .i64 0, .slice none 0 0, .int .i64 0, .bool false] = (sv ++ [((⟨ACell.zero, 0, false⟩ : ASlot), Value.slice none 0 0)]).flatMap slotCells := by simp [slotCells, ACell.zero]
  have HZ := Lib.hid hzero
  have HT := Lib.hid hO
  have HR := Lib.hid hR
  have HE := Lib.hid e
  have HM := Lib.hid hm
  have HFR := Lib.hid hfree
  have d0 := hO.cell
  clear h s0 hO ok hR hm e hfree hal hi1 hz0 hz1 hz2 hzero
  unfold cv
  unfold zeroSlot at A
  simp only [List.length_nil] at d0
  go_enter Try.func74, Try.ntmps74
  go_upto_region 6 with (at_builtin; refine A.out _ _ _ _ _ _ _ rfl rfl rfl rfl ?_; intro v' w1 S1 _; obtain ⟨va2, vcap2, rfl, _⟩ := S1.own_form; have dp := (S1.pull 2).cell; have fp := (S1.pull 2).free; have S1 := Lib.hid S1)
  have S2 := (S1.out.pull 2).set 2 (.slice va2 (sv.length + 1) vcap2)
  simp only [List.setIfInBounds_toArray, List.set_cons_zero, List.set_cons_succ, List.length_nil] at S2
  rw [HZ.out] at S2
  -- [p, slots, cellB, free, slotsW, res, pc, L]
  have S3 := (((S2.pull 2).tail.pull 3).own_nil (T := 36) (sz := 4))
  have S3 := St.slots_snoc (s := ⟨.zero, 0, false⟩) (v := .slice none 0 0) S3
  -- [slotsW, p, slots, free, res, pc, L]
  have hl1 : (sv ++ [((⟨ACell.zero, 0, false⟩ : ASlot), Value.slice none 0 0)]).length = sv.length + 1 := by simp
  have hs1 : (sv ++ [((⟨ACell.zero, 0, false⟩ : ASlot), Value.slice none 0 0)])[sv.length]? = some (⟨ACell.zero, 0, false⟩, .slice none 0 0) := by simp
  have he1 : (sv ++ [((⟨ACell.zero, 0, false⟩ : ASlot), Value.slice none 0 0)]).map Prod.fst = H.slots ++ [⟨ACell.zero, 0, false⟩] := by simp [HE.out]
  clear S1 S2 A HZ HT dp fp
  generalize sv ++ [((⟨ACell.zero, 0, false⟩ : ASlot), Value.slice none 0 0)] = sv1 at S3 hl1 hs1 he1
  obtain ⟨hl2, hc2⟩ := St.own_cases (S3.pull 2)
  obtain ⟨b, scap, rest, e, c1, c2, c3, S4⟩ := hc2.resolve_left (fun q => by have := q.2.1; omega)
  injection e with e1 _ e3
  subst e1 e3
  clear hc2 S3
  rw [hl2] at c3
  -- [b, slotsW, p, free, res, pc, L]
  have S4 := (S4.pull 3).pull 3
  -- [p, free, b, slotsW, res, pc, L]
  have HC := Lib.hid (And.intro c1 (And.intro c2 c3))
  have HS := Lib.hid hs1
  have HL := Lib.hid hl1
  have HE1 := Lib.hid he1
  have hi : sv.length < sv1.length := by omega
  clear c1 c2 c3 hs1 hl1 he1 hl2 d0
  refine abs_wp S4 ?_
  clear S4
  intro w4 S4
  have d0 := S4.cell
  have dc := (S4.pull 5).cell
  have SS := Lib.hid S4
  clear S4
  go_wp2_with (go_at_call 82; refine (copied_c c (.slice a c.ws.length cap) _ (by have := HM.out; omega) (HR.out _ SS.out.tail.tail.tail.tail.tail.tail)).mono ?_; rintro e w5 ⟨v', rfl, k⟩; obtain ⟨a', cap', rfl, _⟩ := St.own_form k; have S5 := SS.out.chain k; obtain ⟨g0, g1, g2, g3, g4⟩ := slot_cells (S5.pull 3) HS.out; have fb := (S5.pull 3).free; have S5 := Lib.hid S5; clear k dc d0; simp only [cv])
  have S6 := (S5.out.pull 3).slot4 HS.out c (.slice a' c.ws.length cap') true
  -- [b, wo, p, free, slotsW, res, pc, L]
  have S7 := St.slots_set (s := ⟨c, 0, true⟩) (v := .slice a' c.ws.length cap') (((S6.pull 4).slots_take HS.out).tail.pull 2) hi
  -- [slotsW, b, p, free, res, pc, L]
  have S8 := S7.pull 3
  have hl1 : sv1.length = (sv1.set sv.length (⟨c, 0, true⟩, .slice a' c.ws.length cap')).length := by simp
  have e5 : (sv1.set sv.length (⟨c, 0, true⟩, .slice a' c.ws.length cap')).map Prod.fst = H.slots ++ [⟨c, 0, true⟩] := by
    rw [List.map_set, HE1.out, sv_len HE.out]
    simp
  have h5 := set_get (y := ((⟨c, 0, true⟩ : ASlot), Value.slice a' c.ws.length cap')) HS.out
  clear S6 S7 HS hi S5 SS HR
  generalize hsv : sv1.set sv.length (⟨c, 0, true⟩, .slice a' c.ws.length cap') = sv' at S8 hl1 e5 h5
  rw [show sv.length + 1 = sv'.length by rw [← hl1, HL.out]] at S8
  have S9 := (((S8.pull 1).pull 1).pull 3).pull 3
  -- [b, p, own, slotsW, res, pc, L]
  have hgive : H.give c = (cellWord H.slots.length 0, { H with slots := H.slots ++ [⟨c, 0, true⟩], most := max H.most (H.live + 1) }) := by
    unfold AHeap.give
    rw [HFR.out]
    simp
  have hlive : ({ H with slots := H.slots ++ [⟨c, 0, true⟩] } : AHeap).live = H.live + 1 := by
    unfold AHeap.live
    simp [HFR.out]
  have HGV := Lib.hid hgive
  have HLV := Lib.hid hlive
  have HE5 := Lib.hid e5
  have HC' : Hid (sv'.length ≤ vcap2 ∧ vcap2 ≤ maxLen ∧ vcap2 * 5 ≤ sv'.length * 5 + rest.length) := by rw [← hl1, HL.out]; exact HC.out
  have HH5 := Lib.hid h5
  have HF0 : Hid (H.free.length = 0) := by show H.free.length = 0; rw [HFR.out]; rfl
  clear hgive hlive e5 hsv HE1 HC HL hl1 h5 HM S8 g0 g1 g2 g3 g4 fb
  have close : ∀ w' mo M, St W0 w' (cellsB b (sv'.flatMap slotCells ++ rest).toArray 124 :: cellsB p #[.int .i64 H.room, .int .i64 mo, .slice (some ⟨b, 0, none⟩) sv'.length vcap2, .slice fa 0 fcap] 109 :: ownS 3 1 (.slice fa 0 fcap) 0 (intsV []) :: slotsW sv' :: M) →
      St W0 w' (heapAt p { H with slots := H.slots ++ [⟨c, 0, true⟩], most := mo } :: M) := by
    intro w' mo M S
    refine St.heap_back (b := b) (vf := .slice fa 0 fcap) (H := { H with slots := H.slots ++ [⟨c, 0, true⟩], most := mo }) HE5.out HC'.out.1 HC'.out.2.1 HC'.out.2.2 ?_
    show St W0 w' (_ :: _ :: ownS 3 1 _ H.free.length (intsV H.free) :: _)
    rw [HFR.out]
    exact S
  have HCL := Lib.hid close
  clear close
  refine wp_region_st S9 [0, 1, 2, 3, 4, 5, 6, 7, 8, 9, 10] (fun w' => (∀ o, w'.cell? ⟨p, o, none⟩ = #[Value.int .i64 H.room, .int .i64 H.most, .slice (some ⟨b, 0, none⟩) sv'.length vcap2, .slice fa 0 fcap][o]?)) [4] [6, 10] [10] (by kernel_rfl) (by kernel_rfl) (fun c d v a w h => by cases d <;> exact h) ?_
  clear S9
  intro w6 S6
  have HF := Lib.hid (S6.pull 1).cell
  iterate 6
    (first
      | refine walk_load rfl rfl rfl HF.out rfl (by rintro w' g0; go_simp; with_reducible rfl) ?_
      | refine walk_pure rfl rfl rfl rfl (by intro w'; go_simp; with_reducible rfl) ?_)
    simp only [Act.put, List.setIfInBounds_toArray, List.set_cons_zero, List.set_cons_succ]
  refine walk_do rfl rfl rfl (fun K hK => ?_)
  go_simp
  refine (live_c (HCL.out _ _ _ S6)).mono ?_
  rintro e w' ⟨rfl, n, rfl⟩
  rw [HLV.out]
  refine hK _ _ (fun _ => (S6.drewN n |>.pull 1).cell) ?_
  clear hK K HF
  refine abs_walk (S6.drewN n) ?_
  clear S6
  intro w7 S7
  iterate 3
    refine walk_pure rfl rfl rfl rfl (by intro w'; go_simp; with_reducible rfl) ?_
    simp only [Act.put, List.setIfInBounds_toArray, List.set_cons_zero, List.set_cons_succ]
  have cp := (S7.pull 1).cell
  have fp := (S7.pull 1).free
  refine walk_do rfl rfl rfl (fun K hK => ?_)
  go_simp
  have em : (if H.most < H.live + 1 then H.live + 1 else H.most) = max H.most (H.live + 1) := by split <;> omega
  rw [em]
  refine hK _ _ (fun h => by cases h) (walk_nil ?_)
  clear hK K cp fp em
  have S8 := (S7.pull 1).set 1 (.int .i64 (max H.most (H.live + 1)))
  clear S7
  iterate 2 go_step
  refine abs_wp S8 ?_
  clear S8
  intro w8 S8
  simp only [List.setIfInBounds_toArray, List.set_cons_zero, List.set_cons_succ] at S8
  obtain ⟨g0, g1, g2, g3, g4⟩ := slot_cells (S8.pull 1) HH5.out
  have d4 := (S8.pull 4).cell
  have f4 := (S8.pull 4).free
  have SS := Lib.hid S8
  clear S8
  go_wp2
  have S9 := ((((SS.out.pull 4).set 0 (.int .u8 5)).set 1 (.int .i64 sv.length)).set 2 (.string ⟨#[]⟩)).set 3 (.int .i64 0)
  have d5 := S9.cell
  refine bodyPost_ret (v := .agg #[.int .u8 5, .int .i64 sv.length, .string ⟨#[]⟩, .int .i64 0]) (by simp [results, Try.results74, go_sem, d5]) rfl ?_
  unfold GivePost
  rw [HGV.out, ← sv_len HE.out]
  refine ⟨rfl, ?_⟩
  -- [res, p, b, own, slotsW, pc, L]
  exact (((HCL.out _ _ _ ((((((S9.pull 5).pull 1).pull 5).pull 5).pull 4).pull 5)).pull 1).tail.pull 1).tail

end Go.Proofs.Ytciciaikajdenaa
/- Alloc. -/
set_option linter.unusedSimpArgs false
set_option linter.unusedVariables false
namespace Go.Proofs.Ytciciaikajdenaa
open Go.RowKit

theorem give_c {W0 w : World} {L : List HProp} {p : Nat} {H : AHeap} {B : Int} (h : St W0 w (heapAt p H :: L)) (ok : H.Ok B) (c : ACell) (vc : Value)
    (hR : ∀ w', St W0 w' L → rd w' 4 vc c.ws.length (flatW c.ws)) (hm : c.ws.length ≤ 64) (hroom : H.live < H.room) :
    Calls Try.prog 74 #[.pointer (some ⟨p, 0, none⟩), cv c vc] w fun e w' => GivePost W0 L p (H.give c) e w' := by
  rcases List.eq_nil_or_concat H.free with hf | ⟨fs, i, hf⟩
  · exact give_new h ok c vc hR hm hf
  · exact give_old h ok c vc hR hm fs i (by simpa using hf) hroom

theorem AHeap.Ok.live_le {H : AHeap} {B : Int} (ok : H.Ok B) : 0 ≤ H.live ∧ H.live ≤ H.room := by
  have := ok.live_eq
  have := countLive_le H.slots
  have := ok.few
  omega

set_option maxRecDepth 100000 in
theorem alloc_c {W0 w : World} {L : List HProp} {p : Nat} {H : AHeap} {B : Int} (h : St W0 w (heapAt p H :: L)) (ok : H.Ok B) (c : ACell) (vc : Value)
    (hR : ∀ w', St W0 w' L → rd w' 4 vc c.ws.length (flatW c.ws)) (hm : c.ws.length ≤ maxLen) :
    Calls Try.prog 20 #[.pointer (some ⟨p, 0, none⟩), cv c vc] w fun e w' => RenewPost W0 L p (H.alloc c) e w' := by
  obtain ⟨a, cap, rfl⟩ : ∃ a cap, vc = .slice a c.ws.length cap := by
    rcases (hR w h.tail).2 with ⟨⟨_, _, rfl⟩, e⟩ | ⟨b, off, cap, rfl, _⟩
    · exact ⟨_, _, by rw [e]⟩
    · exact ⟨_, _, rfl⟩
  have s0 := (h.allocC #[Value.int .u8 c.k, .int .i64 c.n, .slice a c.ws.length cap] 34).allocC #[Value.int .u8 0, .int .i64 0, .string ⟨#[]⟩, .int .i64 0] 36
  simp only [World.size_alloc] at s0
  have MY := Lib.hid (may_c c (.slice a c.ws.length cap) _ (hR _ s0.tail.tail.tail) hm)
  have HR := Lib.hid hR
  have HO := Lib.hid ok
  have HS := Lib.hid s0
  obtain ⟨l0, l1⟩ := ok.live_le
  clear h s0 ok hR hm
  unfold RenewPost
  cases hok : c.ok
  · have hal : H.alloc c = ((.zero, 2), H) := by unfold AHeap.alloc; rw [if_pos hok]
    rw [hal]
    have HOK := Lib.hid hok
    clear hok hal
    unfold cv at *
    go_enter Try.func20, Try.ntmps20
    go_wp2_with (go_at_call 18; refine MY.out.mono ?_; rintro e w1 ⟨rfl, hb⟩; rw [HOK.out]; have S := HS.out.mono hb; have d0 := S.cell; have f0 := S.free; have SS := Lib.hid S; clear S hb)
    have S2 := (((SS.out.set 0 (.int .u8 0)).set 1 (.int .i64 0)).set 2 (.string ⟨#[]⟩)).set 3 (.int .i64 0)
    have d2 := S2.cell
    refine bodyPost_ret (v := .tuple #[.agg #[.int .u8 0, .int .i64 0, .string ⟨#[]⟩, .int .i64 0], .int .i64 2]) (by simp [results, Try.results20, go_sem, d2]) rfl ⟨rfl, S2.tail.tail⟩
  · have hw : c.ws.length ≤ 64 := by
      have := hok
      unfold ACell.ok at this
      simp only [Bool.and_eq_true, decide_eq_true_eq] at this
      omega
    have HOK := Lib.hid hok
    have HW := Lib.hid hw
    by_cases hfull : H.room ≤ H.live
    · have hal : H.alloc c = ((.zero, 7), H) := by unfold AHeap.alloc; rw [if_neg (by rw [hok]; exact Bool.noConfusion), if_pos hfull]
      rw [hal]
      have hz : (H.room - H.live == 0) = true := by simp; omega
      clear hok hal hw hfull
      unfold cv at *
      go_enter Try.func20, Try.ntmps20
      go_wp2_with (first
        | (go_at_call 18; refine MY.out.mono ?_; rintro e w1 ⟨rfl, hb⟩; rw [HOK.out]; have S := HS.out.mono hb; have SS := Lib.hid S; clear S hb)
        | (go_at_call 35; refine (left_c (SS.out.pull 2) HO.out).mono ?_; rintro e w2 ⟨rfl, n, rfl⟩; have S := SS.out.drewN n; have d0 := S.cell; have f0 := S.free; have SS2 := Lib.hid S; clear S))
      have S2 := (((SS2.out.set 0 (.int .u8 0)).set 1 (.int .i64 0)).set 2 (.string ⟨#[]⟩)).set 3 (.int .i64 0)
      have d2 := S2.cell
      refine bodyPost_ret (v := .tuple #[.agg #[.int .u8 0, .int .i64 0, .string ⟨#[]⟩, .int .i64 0], .int .i64 7]) (by simp [results, Try.results20, go_sem, d2]) rfl ⟨rfl, S2.tail.tail⟩
    · have hal : H.alloc c = (((H.give c).1, 0), (H.give c).2) := by unfold AHeap.alloc; rw [if_neg (by rw [hok]; exact Bool.noConfusion), if_neg hfull]
      rw [hal]
      have hz : (H.room - H.live == 0) = false := by simp; omega
      clear hok hal hw
      have HL : Hid (H.live < H.room) := by show H.live < H.room; omega
      clear hfull
      unfold cv at *
      go_enter Try.func20, Try.ntmps20
      go_wp2_with (first
        | (go_at_call 18; refine MY.out.mono ?_; rintro e w1 ⟨rfl, hb⟩; rw [HOK.out]; have S := HS.out.mono hb; have d1 := (S.pull 1).cell; have SS := Lib.hid S; clear S hb)
        | (go_at_call 35; refine (left_c (SS.out.pull 2) HO.out).mono ?_; rintro e w2 ⟨rfl, n, rfl⟩)
        | (go_at_call 74; refine (give_c (((SS.out.drewN _).pull 2)) HO.out c (.slice a c.ws.length cap) (fun w' q => HR.out w' q.tail.tail) HW.out HL.out).mono ?_; rintro e w3 ⟨rfl, S⟩; have d0 := (S.pull 1).cell; have f0 := (S.pull 1).free; have SS2 := Lib.hid S; clear S; simp only [wv]))
      have S2 := ((((SS2.out.pull 1).set 0 (.int .u8 (H.give c).1.k)).set 1 (.int .i64 (H.give c).1.n)).set 2 (.string (H.give c).1.s)).set 3 (.int .i64 (H.give c).1.g)
      have d2 := S2.cell
      refine bodyPost_ret (v := .tuple #[.agg #[.int .u8 (H.give c).1.k, .int .i64 (H.give c).1.n, .string (H.give c).1.s, .int .i64 (H.give c).1.g], .int .i64 0]) (by simp [results, Try.results20, go_sem, d2]) rfl ⟨rfl, ((S2.pull 2).tail.tail).pull 0⟩

end Go.Proofs.Ytciciaikajdenaa
/- Cells. -/
set_option linter.unusedSimpArgs false
set_option linter.unusedVariables false
namespace Go.Proofs.Ytciciaikajdenaa
open Go.RowKit

theorem wordsFrom_append (l m : List ASlot) : ∀ i, wordsFrom i (l ++ m) = wordsFrom i l ++ wordsFrom (i + l.length) m := by
  induction l with
  | nil => intro i; simp [wordsFrom]
  | cons a l ih => intro i; simp [wordsFrom, ih, Nat.add_assoc, Nat.add_comm 1]

theorem wordsFrom_len (l : List ASlot) : ∀ i, (wordsFrom i l).length ≤ l.length := by
  induction l with
  | nil => intro i; simp [wordsFrom]
  | cons a l ih => intro i; have := ih (i + 1); cases h : a.lives <;> simp [wordsFrom, h] <;> omega

theorem wordsFrom_take {l : List ASlot} {k : Nat} {s : ASlot} (h : l[k]? = some s) : wordsFrom 0 (l.take (k + 1)) = wordsFrom 0 (l.take k) ++ (if s.lives then [cellWord k s.gen] else []) := by
  have hk := (List.getElem?_eq_some_iff.1 h).1
  rw [List.take_add_one, h, wordsFrom_append]
  simp [wordsFrom, Nat.min_eq_left (Nat.le_of_lt hk)]

def CellsPost (H : AHeap) (w : World) (e : Ending) (w' : World) : Prop := ∃ v, e = .returned v ∧ St w w' [wordsOwn v H.cells]
def CellsRel (H : AHeap) (w : World) (v i : Value) (wr : World) : Prop :=
  ∃ k : Nat, k ≤ H.slots.length ∧ i = .int .i64 k ∧ St w wr [wordsOwn v (wordsFrom 0 (H.slots.take k))]

set_option maxRecDepth 100000 in
set_option maxHeartbeats 1000000 in
theorem cells_c {W0 w : World} {L : List HProp} {p : Nat} {H : AHeap} {B : Int} (h : St W0 w (heapAt p H :: L)) (ok : H.Ok B) :
    Calls Try.prog 38 #[.pointer (some ⟨p, 0, none⟩)] w fun e w' => CellsPost H w e w' := by
  obtain ⟨vs, vf, sv, e, hO⟩ := h.heap_open
  unfold heapL at hO
  simp only [List.cons_append, List.nil_append] at hO
  obtain ⟨va, vcap, rfl, _⟩ := (hO.pull 1).own_form
  have d0 := hO.cell
  have hlen : sv.length ≤ 100000 := by rw [sv_len e]; have := ok.few; have := ok.room1; omega
  have hsl : sv.length = H.slots.length := sv_len e
  have key : ∀ k, k < sv.length → ∃ b, va = some ⟨b, 0, none⟩ ∧ ∃ a n cap, w.cell? ⟨b, k * 5, none⟩ = some (.int .u8 (H.slot k).c.k) ∧ w.cell? ⟨b, k * 5 + 1, none⟩ = some (.int .i64 (H.slot k).c.n) ∧ w.cell? ⟨b, k * 5 + 2, none⟩ = some (.slice a n cap) ∧ w.cell? ⟨b, k * 5 + 3, none⟩ = some (.int .i64 (H.slot k).gen) ∧ w.cell? ⟨b, k * 5 + 4, none⟩ = some (.bool (H.slot k).lives) := by
    intro k hk
    obtain ⟨hl, hc⟩ := St.own_cases (hO.pull 1)
    obtain ⟨b, cap, rest, e1, _, _, _, t⟩ := hc.resolve_left (fun q => by have := q.2.1; omega)
    injection e1 with e1 _ _
    obtain ⟨v, hs⟩ := sv_get e (by rw [← hsl]; exact hk)
    obtain ⟨a, cap', rfl, _⟩ := ((hO.pull 3).slots_take hs).own_form
    exact ⟨b, e1, a, _, cap', slot_cells t hs⟩
  have KEY := Lib.hid key
  have HSL := Lib.hid hsl
  clear h hO ok e key
  go_enter Try.func38, Try.ntmps38
  go_wp2
  go_loopw [3, 13] (fun v i wr => CellsRel H w v i wr) (fun _ i _ => sv.length - (intOf i).toNat)
  case atStart =>
    refine ⟨0, Nat.zero_le _, rfl, ?_⟩
    simp only [List.take_zero, wordsFrom]
    exact (St.refl w).own_nil
  case round =>
    obtain ⟨k, hk, rfl, S⟩ := hrel
    obtain ⟨oa, ocap, rfl, _⟩ := St.own_form S
    by_cases hlt : k < sv.length
    · obtain ⟨b, rfl, a, n, cap, g0, g1, g2, g3, g4⟩ := KEY.out k hlt
      have hb := S.below
      replace g0 := keep_cell hb g0
      replace g1 := keep_cell hb g1
      replace g2 := keep_cell hb g2
      replace g3 := keep_cell hb g3
      replace g4 := keep_cell hb g4
      have hg : H.slots[k]? = some (H.slot k) := AHeap.slot_get (by rw [← hsl]; exact hlt)
      have HG := Lib.hid hg
      have SS := Lib.hid S
      clear hb hg S
      cases hlv : (H.slot k).lives
      · have HLV := Lib.hid hlv
        rw [hlv] at g4
        clear hlv
        go_wp2
        refine ⟨⟨k + 1, by omega, by go_num, ?_⟩, by simp [intOf]; omega⟩
        rw [wordsFrom_take HG.out, HLV.out]
        simp only [Bool.false_eq_true, if_false, List.append_nil]
        exact (SS.out.alloc _).tail
      · have HLV := Lib.hid hlv
        rw [hlv] at g4
        clear hlv
        have S1 := (SS.out.allocC #[Value.int .u8 (H.slot k).c.k, .int .i64 (H.slot k).c.n, .slice a n cap, .int .i64 (H.slot k).gen, .bool true] 124).allocC #[Value.int .u8 5, .int .i64 k, .string ⟨#[]⟩, .int .i64 (H.slot k).gen] 36
        simp only [World.size_alloc] at S1
        obtain ⟨ii, hi1, hz0, hz1, hz2⟩ := info_parts info36
        have hwl : (wordsFrom 0 (H.slots.take k)).length ≤ 100000 := by
          have h1 := wordsFrom_len (H.slots.take k) 0
          have h2 : (H.slots.take k).length ≤ k := List.length_take_le _ _
          omega
        have A := Lib.hid fun o rest ops Q x => wpList_append_st (P := Try.prog) (o := o) (rest := rest) (ops := ops) (Q := Q) (a := x) (S1.pull 2) (rd_cells (sz := 4) (n := 1) (cap := 1) S1 (Nat.le_refl _) rfl) (one_flatW [cellWord k (H.slot k).gen]) hi1 hz0 hz1 hz2 rfl (by unfold maxLen; omega) (by omega) Try.underlying32
        clear S1 hi1 hz0 hz1 hz2 hwl
        go_wp2_with (at_builtin; refine A.out _ _ _ _ _ _ _ rfl rfl rfl rfl ?_; intro v' w1 S1 _; have S1 := Lib.hid S1)
        refine ⟨⟨k + 1, by omega, by go_num, ?_⟩, by simp [intOf]; omega⟩
        have e1 : wordsFrom 0 (H.slots.take (k + 1)) = wordsFrom 0 (H.slots.take k) ++ [cellWord k (H.slot k).gen] := by rw [wordsFrom_take HG.out, HLV.out]; rfl
        rw [e1]
        have S2 := S1.out.fst
        unfold wordsOwn
        rw [List.length_append, show flatW (wordsFrom 0 (H.slots.take k) ++ [cellWord k (H.slot k).gen]) = flatW (wordsFrom 0 (H.slots.take k)) ++ flatW [cellWord k (H.slot k).gen] from List.flatMap_append]
        exact S2
    · go_wp2
      go_ret
      have ht : wordsFrom 0 H.slots = wordsFrom 0 (H.slots.take k) := by rw [List.take_of_length_le (by omega)]
      refine ⟨.slice oa (wordsFrom 0 (H.slots.take k)).length ocap, rfl, ?_⟩
      unfold AHeap.cells
      rw [ht]
      exact S

end Go.Proofs.Ytciciaikajdenaa
