/- Copy. -/
import Derived.Test.YtciciaikajdenaaW16
set_option linter.unusedSimpArgs false
set_option linter.unusedVariables false
namespace Go.Proofs.Ytciciaikajdenaa
open Go.RowKit

theorem one_slots {sv : List (ASlot × Value)} (h : ∀ x ∈ sv, ∃ a n c, x.2 = .slice a n c) : ∀ u ∈ sv.flatMap slotCells, u.oneCell' = true := by
  intro u hu
  obtain ⟨x, hx, hx2⟩ := List.mem_flatMap.1 hu
  obtain ⟨a, n, c, e⟩ := h x hx
  simp [slotCells] at hx2
  rcases hx2 with rfl | rfl | rfl | rfl | rfl
  · rfl
  · rfl
  · rw [e]; rfl
  · rfl
  · rfl
theorem one_ints (l : List Nat) : ∀ u ∈ intsV l, u.oneCell' = true := by
  intro u hu
  simp [intsV] at hu
  obtain ⟨x, _, rfl⟩ := hu
  rfl

theorem St.slots_form {W0 w : World} {L : List HProp} {sv : List (ASlot × Value)} (h : St W0 w (slotsW sv :: L)) : ∀ x ∈ sv, ∃ a n c, x.2 = .slice a n c := by
  intro x hx
  obtain ⟨i, hi, e⟩ := List.getElem_of_mem hx
  have hs : sv[i]? = some (x.1, x.2) := by rw [List.getElem?_eq_getElem hi, e]
  obtain ⟨a, c, e2, _⟩ := (h.slots_take hs).own_form
  exact ⟨a, _, c, e2⟩

def CopyPost (H : AHeap) (w : World) (e : Ending) (w' : World) : Prop := ∃ p, e = .returned (.pointer (some ⟨p, 0, none⟩)) ∧ St w w' [heapAt p H]

/-- While the slots' words are copied, k of them done. -/
def CopyRel (H : AHeap) (sv : List (ASlot × Value)) (w : World) (q : Nat) (vs vf : Value) (i : Value) (wr : World) : Prop :=
  ∃ (k : Nat) (svm : List (ASlot × Value)), k ≤ sv.length ∧ i = .int .i64 k ∧ svm.length = sv.length ∧ svm.map Prod.fst = H.slots ∧ svm.drop k = sv.drop k ∧
    St w wr [cellsB q #[.int .i64 H.room, .int .i64 H.most, vs, vf] 109, ownS 124 5 vs sv.length (svm.flatMap slotCells), ownS 3 1 vf H.free.length (intsV H.free), slotsW (svm.take k)]

/-- A slot's contents are written. -/
theorem St.slot3 {W0 w : World} {L : List HProp} {b i : Nat} {T : TypeId} {sv : List (ASlot × Value)} {rest : List Value} {s : ASlot} {v : Value} (h : St W0 w (cellsB b (sv.flatMap slotCells ++ rest).toArray T :: L)) (hs : sv[i]? = some (s, v)) (c : ACell) (u : Value) :
    St W0 (((w.setCell ⟨b, i * 5, none⟩ (.int .u8 c.k)).setCell ⟨b, i * 5 + 1, none⟩ (.int .i64 c.n)).setCell ⟨b, i * 5 + 2, none⟩ u) (cellsB b ((sv.set i (⟨c, s.gen, s.lives⟩, u)).flatMap slotCells ++ rest).toArray T :: L) := by
  have S3 := h.set (i * 5) (.int .u8 c.k)
  simp only [List.setIfInBounds_toArray] at S3
  have e0 := set_slot (y := (⟨⟨c.k, s.c.n, s.c.ws⟩, s.gen, s.lives⟩, v)) rest (j := 0) hs (by omega) rfl
  rw [Nat.add_zero] at e0
  rw [e0] at S3
  have h3 := set_get (y := ((⟨⟨c.k, s.c.n, s.c.ws⟩, s.gen, s.lives⟩ : ASlot), v)) hs
  have S4 := S3.set (i * 5 + 1) (.int .i64 c.n)
  simp only [List.setIfInBounds_toArray] at S4
  rw [set_slot (y := (⟨⟨c.k, c.n, s.c.ws⟩, s.gen, s.lives⟩, v)) rest h3 (by omega) rfl] at S4
  have h4 := set_get (y := ((⟨⟨c.k, c.n, s.c.ws⟩, s.gen, s.lives⟩ : ASlot), v)) h3
  have S5 := S4.set (i * 5 + 2) u
  simp only [List.setIfInBounds_toArray] at S5
  rw [set_slot (y := (⟨c, s.gen, s.lives⟩, u)) rest h4 (by omega) rfl] at S5
  simp only [List.set_set] at S5
  exact S5

theorem map_fst_set {svm : List (ASlot × Value)} {k : Nat} {s : ASlot} {v u : Value} (h : svm[k]? = some (s, v)) : (svm.set k (s, u)).map Prod.fst = svm.map Prod.fst := by
  rw [List.map_set]
  apply List.ext_getElem?
  intro j
  rw [List.getElem?_set]
  split
  · rename_i e; subst e
    split
    · rw [List.getElem?_map, h]; rfl
    · rename_i hl
      simp at hl
      rw [List.getElem?_eq_none (by simpa using hl)]
  · rfl

theorem take_succ_set {α : Type} {l : List α} {k : Nat} {x y : α} (h : l[k]? = some x) : (l.set k y).take (k + 1) = l.take k ++ [y] := by
  have hk := (List.getElem?_eq_some_iff.1 h).1
  rw [List.take_add_one, List.take_set_of_le (Nat.le_refl _)]
  simp [hk]

set_option maxRecDepth 100000 in
set_option maxHeartbeats 2000000 in
theorem copy_c {W0 w : World} {L : List HProp} {p : Nat} {H : AHeap} {B : Int} (h : St W0 w (heapAt p H :: L)) (ok : H.Ok B) :
    Calls Try.prog 31 #[.pointer (some ⟨p, 0, none⟩)] w fun e w' => CopyPost H w e w' := by
  obtain ⟨vs, vf, sv, e, hO⟩ := h.heap_open
  unfold heapL at hO
  simp only [List.cons_append, List.nil_append] at hO
  obtain ⟨va, vcap, rfl, _⟩ := (hO.pull 1).own_form
  obtain ⟨fa, fcap, rfl, _⟩ := (hO.pull 2).own_form
  have d0 := hO.cell
  have hsl : sv.length = H.slots.length := sv_len e
  have hlen : sv.length ≤ 100000 := by rw [hsl]; have := ok.few; have := ok.room1; omega
  have hfl : H.free.length ≤ 100000 := by have := ok.count; omega
  have hform := (hO.pull 3).slots_form
  have hC1 := Lib.hid (fun w' hr => clone83_c (.slice va sv.length vcap) sv.length (sv.flatMap slotCells) w' hr (one_slots hform) (by omega))
  have hC2 := Lib.hid (fun w' hr => clone84_c (.slice fa H.free.length fcap) H.free.length (intsV H.free) w' hr (one_ints _) (by omega))
  have hr1 := Lib.hid (hO.pull 1).own_rd
  have hr2 := Lib.hid (hO.pull 2).own_rd
  have hwr := Lib.hid (fun (k : Nat) (s : ASlot) (v : Value) (hs : sv[k]? = some (s, v)) => (hO.pull 3).slots_rd hs)
  have S0 := Lib.hid ((St.refl w).allocC #[Value.int .i64 H.room, .int .i64 H.most, .slice va sv.length vcap, .slice fa H.free.length fcap] 109)
  have HE := Lib.hid e
  have HO := Lib.hid ok
  have HSL := Lib.hid hsl
  clear h hO ok hform e hsl
  go_enter Try.func31, Try.ntmps31
  go_wp2
  refine wp_region_st S0.out [0, 1, 2, 3, 5, 6, 7, 8, 4, 9, 10, 11, 12, 13] (fun w' => (∀ o, w'.cell? ⟨p, o, none⟩ = #[Value.int .i64 H.room, .int .i64 H.most, .slice va sv.length vcap, .slice fa H.free.length fcap][o]?)) [3, 8] [4, 9, 11, 13] [] (by kernel_rfl) (by kernel_rfl) (fun c d v a w h => by cases d <;> exact h) ?_
  intro w1 S1
  have D0 := Lib.hid d0
  clear d0
  have keepF : ∀ (w' : World) (M : List HProp), St w w' M → (∀ o, w'.cell? ⟨p, o, none⟩ = #[Value.int .i64 H.room, .int .i64 H.most, .slice va sv.length vcap, .slice fa H.free.length fcap][o]?) := fun _ _ s => old_cells s.below D0.out (by simp)
  have HKF := Lib.hid keepF
  clear keepF
  have HF := Lib.hid (HKF.out _ _ S1)
  generalize w.heap.size = q at S1 ⊢
  iterate 8
    (first
      | refine walk_load rfl rfl rfl HF.out rfl (by rintro w' g0; go_simp; with_reducible rfl) ?_
      | refine walk_pure rfl rfl rfl rfl (by intro w'; go_simp; with_reducible rfl) ?_)
    simp only [Act.put, List.setIfInBounds_toArray, List.set_cons_zero, List.set_cons_succ]
  refine walk_do rfl rfl rfl (fun K hK => ?_)
  go_simp
  refine (hC1.out _ (hr1.out.st S1)).mono ?_
  rintro e w2 ⟨v1, rfl, k1⟩
  obtain ⟨a1, cap1, rfl, _⟩ := k1.own_form
  have S2 := S1.chain k1
  refine hK _ _ (fun _ => HKF.out _ _ S2) ?_
  clear hK K HF S1 k1
  try simp only [Act.put, List.setIfInBounds_toArray, List.set_cons_zero, List.set_cons_succ]
  refine walk_do rfl rfl rfl (fun K hK => ?_)
  go_simp
  refine (hC2.out _ (hr2.out.st S2)).mono ?_
  rintro e w3 ⟨v2, rfl, k2⟩
  obtain ⟨a2, cap2, rfl, _⟩ := k2.own_form
  have S3 := S2.chain k2
  simp only [List.cons_append, List.nil_append] at S3
  refine hK _ _ (fun _ => HKF.out _ _ S3) ?_
  clear hK K S2 k2
  try simp only [Act.put, List.setIfInBounds_toArray, List.set_cons_zero, List.set_cons_succ]
  -- [free, slots, q]
  refine walk_pure rfl rfl rfl rfl (by intro w'; go_simp; with_reducible rfl) ?_
  try simp only [Act.put, List.setIfInBounds_toArray, List.set_cons_zero, List.set_cons_succ]
  have c2 := (S3.pull 2).cell
  have f2 := (S3.pull 2).free
  refine walk_do rfl rfl rfl (fun K hK => ?_)
  go_simp
  have S4 := (S3.pull 2).set 2 (.slice a1 sv.length cap1)
  refine hK _ _ (fun _ => HKF.out _ _ S4) ?_
  clear hK K S3 c2 f2
  refine abs_walk S4 ?_
  clear S4
  intro w4 S4
  simp only [List.setIfInBounds_toArray, List.set_cons_zero, List.set_cons_succ] at S4
  refine walk_pure rfl rfl rfl rfl (by intro w'; go_simp; with_reducible rfl) ?_
  try simp only [Act.put, List.setIfInBounds_toArray, List.set_cons_zero, List.set_cons_succ]
  have c2 := S4.cell
  have f2 := S4.free
  refine walk_do rfl rfl rfl (fun K hK => ?_)
  go_simp
  have S5 := S4.set 3 (.slice a2 H.free.length cap2)
  refine hK _ _ (fun _ => HKF.out _ _ S5) (walk_nil ?_)
  clear hK K S4 c2 f2
  iterate 2 go_step
  refine abs_wp S5 ?_
  clear S5
  intro w5 S5
  simp only [List.setIfInBounds_toArray, List.set_cons_zero, List.set_cons_succ] at S5
  -- [q, free, slots]
  have c2 := S5.cell
  have SS := Lib.hid S5
  clear S5
  go_wp2
  go_loopw [4, 25] (fun _ i wr => CopyRel H sv w q (.slice a1 sv.length cap1) (.slice a2 H.free.length cap2) i wr) (fun _ i _ => sv.length - (intOf i).toNat)
  case atStart =>
    exact ⟨0, sv, Nat.zero_le _, rfl, rfl, HE.out, rfl, (((SS.out.pull 1).pull 2).pull 2).slots_nil |>.push 3⟩
  case round =>
    obtain ⟨k, svm, hk, rfl, hl1, he1, hd1, S⟩ := hrel
    clear c2
    by_cases hlt : k < sv.length
    · obtain ⟨x, hx⟩ : ∃ x, svm[k]? = some x := ⟨_, List.getElem?_eq_getElem (by rw [hl1]; exact hlt)⟩
      obtain ⟨s, v⟩ := x
      have hx2 : sv[k]? = some (s, v) := by
        have : (svm.drop k)[0]? = (sv.drop k)[0]? := by rw [hd1]
        simpa [hx] using this.symm
      have hrd := hwr.out k s v hx2
      have hws : s.c.ws.length ≤ 1000000 := by
        have hm : s ∈ H.slots := by rw [← HE.out]; exact List.mem_map.2 ⟨(s, v), List.mem_of_getElem? hx2, rfl⟩
        exact Nat.le_trans (HO.out.words s hm) (by omega)
      have HC3 := Lib.hid (fun w' hr => copied_c s.c v w' hws hr)
      obtain ⟨hl, hc⟩ := St.own_cases (S.pull 1)
      obtain ⟨b, cap, rest, e1, k1, k2, k3, t⟩ := hc.resolve_left (fun q => by have := q.2.1; omega)
      injection e1 with e1 _ e3
      subst e1 e3
      -- [b, q, free, slotsW]
      rw [hl] at k3
      obtain ⟨va', vn', vc', rfl⟩ : ∃ a n c, v = .slice a n c := by
        rcases hrd.2 with ⟨⟨_, _, rfl⟩, _⟩ | ⟨_, _, _, rfl, _⟩
        · exact ⟨_, _, _, rfl⟩
        · exact ⟨_, _, _, rfl⟩
      have HK := Lib.hid (And.intro k1 (And.intro k2 k3))
      have HX := Lib.hid hx
      have HRD := Lib.hid hrd
      have HLL := Lib.hid (And.intro hl1 (And.intro he1 hd1))
      have HT := Lib.hid t
      have d2 := (t.pull 1).cell
      clear hx hx2 hrd hws hl hc k1 k2 k3 hl1 he1 hd1 S t
      go_wp2
      refine wp_region_st HT.out [0, 1, 2, 3, 4, 5, 6, 7, 8, 9, 10, 11, 12] (fun w' => (∀ o, w'.cell? ⟨q, o, none⟩ = #[Value.int .i64 H.room, .int .i64 H.most, .slice (some ⟨b, 0, none⟩) sv.length cap1, .slice a2 H.free.length cap2][o]?) ∧ w'.cell? ⟨b, k * 5, none⟩ = some (.int .u8 s.c.k) ∧ w'.cell? ⟨b, k * 5 + 1, none⟩ = some (.int .i64 s.c.n) ∧ w'.cell? ⟨b, k * 5 + 2, none⟩ = some (.slice va' vn' vc')) [1, 4, 8] [9, 12] [12] (by kernel_rfl) (by kernel_rfl) (fun c d v a w h => by cases d <;> exact h) ?_
      intro w6 S6
      clear d2 HT
      obtain ⟨g0, g1, g2, _, _⟩ := slot_cells S6 HX.out
      have HF := Lib.hid (And.intro (S6.pull 1).cell (And.intro g0 (And.intro g1 g2)))
      clear g0 g1 g2
      iterate 9
        (first
          | refine walk_load rfl rfl rfl HF.out rfl (by rintro w' ⟨g0, g1, g2, g3⟩; go_simp; with_reducible rfl) ?_
          | refine walk_pure rfl rfl rfl rfl (by intro w'; go_simp; with_reducible rfl) ?_)
        simp only [Act.put, List.setIfInBounds_toArray, List.set_cons_zero, List.set_cons_succ]
      clear HF
      refine walk_do rfl rfl rfl (fun K hK => ?_)
      go_simp
      refine (HC3.out _ (HRD.out.st S6)).mono ?_
      rintro e w7 ⟨v3, rfl, k7⟩
      obtain ⟨a3, cap3, rfl, _⟩ := St.own_form k7
      have S7 := S6.chain k7
      simp only [List.cons_append, List.nil_append] at S7
      -- [wo, b, q, free, slotsW]
      obtain ⟨g0, g1, g2, _, _⟩ := slot_cells (S7.pull 1) HX.out
      refine hK _ _ (fun _ => And.intro (S7.pull 2).cell (And.intro g0 (And.intro g1 g2))) ?_
      have fb := (S7.pull 1).free
      clear hK K S6 k7
      simp only [cv]
      iterate 2
        refine walk_pure rfl rfl rfl rfl (by intro w'; go_simp; with_reducible rfl) ?_
        simp only [Act.put, List.setIfInBounds_toArray, List.set_cons_zero, List.set_cons_succ]
      have S8 := (S7.pull 1).slot3 HX.out s.c (.slice a3 s.c.ws.length cap3)
      have S8 := Lib.hid S8
      refine walk_do rfl rfl rfl (fun K hK => ?_)
      go_simp
      refine hK _ _ (fun h => by cases h) (walk_nil ?_)
      clear hK K g0 g1 g2 fb S7
      go_wp2
      refine ⟨?_, by simp [intOf]; omega⟩
      refine ⟨k + 1, svm.set k (s, .slice a3 s.c.ws.length cap3), by omega, by go_num, by rw [List.length_set]; exact HLL.out.1, by rw [map_fst_set HX.out]; exact HLL.out.2.1, ?_, ?_⟩
      · rw [List.drop_set_of_lt (Nat.lt_succ_self k)]
        have hdd := congrArg (List.drop 1) HLL.out.2.2
        rw [List.drop_drop, List.drop_drop] at hdd
        exact hdd
      · rw [take_succ_set HX.out]
        -- [b, wo, q, free, slotsW]
        have T1 := S8.out.own_mk (n := sv.length) (cap := cap1) (sz := 5) (by rw [flat_len slotCells_len, List.length_set, HLL.out.1]) HK.out.1 HK.out.2.1 (by rw [flat_len slotCells_len, List.length_set, HLL.out.1]; exact HK.out.2.2)
        have T2 := St.slots_snoc (s := s) (v := .slice a3 s.c.ws.length cap3) ((T1.pull 4).pull 2)
        -- [slotsW, slots, q, free]
        exact ((T2.pull 3).pull 2).pull 3
    · go_wp2
      go_ret
      refine ⟨q, rfl, ?_⟩
      rw [List.take_of_length_le (by omega)] at S
      refine St.heap_close (L := []) he1 (vs := .slice a1 sv.length cap1) (vf := .slice a2 H.free.length cap2) ?_
      unfold heapL
      rw [hl1]
      exact S

end Go.Proofs.Ytciciaikajdenaa
