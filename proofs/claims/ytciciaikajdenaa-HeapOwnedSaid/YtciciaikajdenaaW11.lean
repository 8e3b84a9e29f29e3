/- Renew. -/
import Derived.Test.YtciciaikajdenaaW10
set_option linter.unusedSimpArgs false
set_option linter.unusedVariables false
namespace Go.Proofs.Ytciciaikajdenaa
open Go.RowKit

/-- One cell of one slot is written. -/
theorem set_slot {y : ASlot × Value} {u : Value} (r : List Value) : ∀ {sv : List (ASlot × Value)} {n j : Nat} {z : ASlot × Value}, sv[n]? = some z → j < 5 → slotCells y = (slotCells z).set j u →
    (sv.flatMap slotCells ++ r).set (n * 5 + j) u = (sv.set n y).flatMap slotCells ++ r
  | [], n, j, z, h, _, _ => by simp at h
  | a :: sv, 0, j, z, h, hj, e => by
    simp at h; subst h
    simp only [List.flatMap_cons, Nat.zero_mul, Nat.zero_add, List.set_cons_zero, e, List.append_assoc]
    rw [List.set_append_left _ _ (by rw [slotCells_len]; exact hj)]
  | a :: sv, n + 1, j, z, h, hj, e => by
    have ih := set_slot (y := y) (u := u) r (sv := sv) (n := n) (j := j) (z := z) (by simpa using h) hj e
    simp only [List.flatMap_cons, List.set_cons_succ, List.append_assoc]
    rw [List.set_append_right _ _ (by rw [slotCells_len]; omega), slotCells_len, show (n + 1) * 5 + j - 5 = n * 5 + j by omega, ih]

theorem set_get {α : Type} {sv : List α} {n : Nat} {y z : α} (h : sv[n]? = some z) : (sv.set n y)[n]? = some y := by
  have := (List.getElem?_eq_some_iff.1 h).1
  simp [this]

def RenewMid (W0 : World) (pc b i : Nat) (c : ACell) (vc : Value) (s : ASlot) (sv : List (ASlot × Value)) (rest : List Value) (M : List HProp) (r : Value) (w' : World) : Prop :=
  (c.ok = false ∧ r = .int .i64 2 ∧ St W0 w' (cellsB pc #[.int .u8 c.k, .int .i64 c.n, vc] 34 :: cellsB b (sv.flatMap slotCells ++ rest).toArray 124 :: slotsW sv :: M)) ∨
  (c.ok = true ∧ r = .int .i64 0 ∧ ∃ v', St W0 w' (cellsB pc #[.int .u8 c.k, .int .i64 c.n, vc] 34 :: cellsB b ((sv.set i (⟨c, s.gen + 1, s.lives⟩, v')).flatMap slotCells ++ rest).toArray 124 :: slotsW (sv.set i (⟨c, s.gen + 1, s.lives⟩, v')) :: M))

section
variable {W0 w : World} {pc b i : Nat} {c : ACell} {vc v : Value} {s : ASlot} {sv : List (ASlot × Value)} {rest : List Value} {M : List HProp}

set_option maxRecDepth 100000 in
set_option maxHeartbeats 1000000 in
theorem renew1_c (h : St W0 w (cellsB pc #[.int .u8 c.k, .int .i64 c.n, vc] 34 :: cellsB b (sv.flatMap slotCells ++ rest).toArray 124 :: slotsW sv :: M))
    (hR : ∀ w', St W0 w' M → rd w' 4 vc c.ws.length (flatW c.ws)) (hm : c.ws.length ≤ maxLen)
    (hs : sv[i]? = some (s, v)) (hg0 : 0 ≤ s.gen) (hg1 : s.gen < 1000000000) :
    Calls Try.prog 81 #[.pointer (some ⟨b, i * 5, none⟩), .pointer (some ⟨pc, 0, none⟩)] w
      fun e w' => ∃ r, e = .returned r ∧ RenewMid W0 pc b i c vc s sv rest M r w' := by
  have MY := Lib.hid (may_c c vc w (hR w h.tail.tail.tail) hm)
  have d0 := h.cell
  have HH := Lib.hid h
  have HR := Lib.hid hR
  have HS := Lib.hid hs
  have hi : i < sv.length := (List.getElem?_eq_some_iff.1 hs).1
  clear h hs hR hm
  unfold cv at MY
  cases hok : c.ok
  · have HO := Lib.hid hok
    clear hok
    go_enter Try.func81, Try.ntmps81
    go_wp2_with (go_at_call 18; refine MY.out.mono ?_; rintro e w1 ⟨rfl, hb⟩; rw [HO.out])
    go_ret
    exact ⟨_, rfl, .inl ⟨HO.out, rfl, HH.out.mono hb⟩⟩
  · have HO := Lib.hid hok
    clear hok
    have hok64 : c.ws.length ≤ 1000000 := by
      have := HO.out
      unfold ACell.ok at this
      simp only [Bool.and_eq_true, decide_eq_true_eq] at this
      omega
    have HK := Lib.hid hok64
    clear hok64
    go_enter Try.func81, Try.ntmps81
    go_wp2_with (go_at_call 18; refine MY.out.mono ?_; rintro e w1 ⟨rfl, hb⟩; rw [HO.out]; have S := HH.out.mono hb; obtain ⟨c0, c1, c2, c3, c4⟩ := slot_cells (S.pull 1) HS.out; have fb := (S.pull 1).free; clear d0; have d0 := S.cell; have ne := (S.pull 1).ne; have SS := Lib.hid S; clear S hb)
    have S1 := (SS.out.pull 1).set (i * 5 + 3) (.int .i64 (s.gen + 1))
    simp only [List.setIfInBounds_toArray] at S1
    rw [set_slot (y := (⟨s.c, s.gen + 1, s.lives⟩, v)) rest HS.out (by omega) rfl] at S1
    refine (copied_c c vc _ HK.out (HR.out _ S1.tail.tail.tail)).mono ?_
    rintro e w2 ⟨v', rfl, k⟩
    obtain ⟨a', cap', rfl, _⟩ := St.own_form k
    have S2 := S1.chain k
    clear c0 c1 c2 c3 c4 fb d0 ne SS S1 k
    have hs1 := set_get (y := ((⟨s.c, s.gen + 1, s.lives⟩ : ASlot), v)) HS.out
    obtain ⟨c0, c1, c2, c3, c4⟩ := slot_cells (S2.pull 1) hs1
    have fb := (S2.pull 1).free
    have HS1 := Lib.hid hs1
    have SS := Lib.hid S2
    clear S2 hs1
    unfold cv
    go_wp2
    go_ret
    have S3 := (SS.out.pull 1).set (i * 5) (.int .u8 c.k)
    simp only [List.setIfInBounds_toArray] at S3
    have e0 := set_slot (y := (⟨⟨c.k, s.c.n, s.c.ws⟩, s.gen + 1, s.lives⟩, v)) rest (j := 0) HS1.out (by omega) rfl
    rw [Nat.add_zero] at e0
    rw [e0] at S3
    have h3 := set_get (y := ((⟨⟨c.k, s.c.n, s.c.ws⟩, s.gen + 1, s.lives⟩ : ASlot), v)) HS1.out
    have S4 := S3.set (i * 5 + 1) (.int .i64 c.n)
    simp only [List.setIfInBounds_toArray] at S4
    rw [set_slot (y := (⟨⟨c.k, c.n, s.c.ws⟩, s.gen + 1, s.lives⟩, v)) rest h3 (by omega) rfl] at S4
    have h4 := set_get (y := ((⟨⟨c.k, c.n, s.c.ws⟩, s.gen + 1, s.lives⟩ : ASlot), v)) h3
    have S5 := S4.set (i * 5 + 2) (.slice a' c.ws.length cap')
    simp only [List.setIfInBounds_toArray] at S5
    rw [set_slot (y := (⟨c, s.gen + 1, s.lives⟩, .slice a' c.ws.length cap')) rest h4 (by omega) rfl] at S5
    simp only [List.set_set] at S5
    have S6 := (St.slots_take (S5.pull 3) HS.out).tail
    have S7 := St.slots_set (s := ⟨c, s.gen + 1, s.lives⟩) (v := .slice a' c.ws.length cap') (S6.pull 2) hi
    exact ⟨_, rfl, .inr ⟨HO.out, rfl, _, (S7.pull 1).pull 2⟩⟩
end

def RenewPost (W0 : World) (L : List HProp) (p : Nat) (r : (AWord × Int) × AHeap) (e : Ending) (w' : World) : Prop :=
  e = .returned (.tuple #[wv r.1.1, .int .i64 r.1.2]) ∧ St W0 w' (heapAt p r.2 :: L)

def renewWorld (w : World) (x : AWord) (c : ACell) (vc : Value) : World := ((w.alloc (.cells #[Value.int .u8 x.k, .int .i64 x.n, .string x.s, .int .i64 x.g] 36)).alloc (.cells #[Value.int .u8 c.k, .int .i64 c.n, vc] 34)).alloc (.cells #[Value.int .u8 0, .int .i64 0, .string ⟨#[]⟩, .int .i64 0] 36)

def RenewMid2 (W0 : World) (n : Nat) (L : List HProp) (p : Nat) (x : AWord) (r : (AWord × Int) × AHeap) (e : Ending) (w' : World) : Prop :=
  e = .returned (.int .i64 r.1.2) ∧ St W0 w' (cellsB n #[.int .u8 x.k, .int .i64 x.n, .string x.s, .int .i64 x.g] 36 :: cellsB (n + 2) #[.int .u8 0, .int .i64 0, .string ⟨#[]⟩, .int .i64 0] 36 :: heapAt p r.2 :: L)

theorem renew_mid {W0 w : World} {L : List HProp} {p : Nat} {H : AHeap} {B : Int} (h : St W0 w (heapAt p H :: L)) (ok : H.Ok B) (hB : B < 1000000000) (x : AWord) (c : ACell) (vc : Value)
    (hR : ∀ w', St W0 w' L → rd w' 4 vc c.ws.length (flatW c.ws)) (hm : c.ws.length ≤ maxLen) :
    Calls Try.prog 76 #[.pointer (some ⟨p, 0, none⟩), wv x, .func (.func 81) #[] #[.pointer (some ⟨w.heap.size + 1, 0, none⟩)]] (renewWorld w x c vc)
      fun e w' => RenewMid2 W0 w.heap.size L p x (H.renew x c) e w' := by
  have s0 := ((h.allocC #[Value.int .u8 x.k, .int .i64 x.n, .string x.s, .int .i64 x.g] 36).allocC #[Value.int .u8 c.k, .int .i64 c.n, vc] 34).allocC #[Value.int .u8 0, .int .i64 0, .string ⟨#[]⟩, .int .i64 0] 36
  simp only [World.size_alloc, Nat.add_assoc, Nat.reduceAdd] at s0
  -- [res, pc, px, heap, L]
  by_cases hk : (H.find x).1 = 0
  · obtain ⟨j, hj⟩ : ∃ j, H.find x = (0, j) := ⟨(H.find x).2, Prod.ext hk rfl⟩
    obtain ⟨vs, vf, sv, e, hO⟩ := (s0.pull 3).heap_open
    have hz := AHeap.find_zero hk
    rw [hj] at hz
    simp only at hz
    obtain ⟨hz1, hz2, hz3, hz4, hlt, hz6, hz7⟩ := hz
    obtain ⟨v, hs⟩ := sv_get e hlt
    obtain ⟨b, cap, rest, rfl, c1, c2, c3, s⟩ := hO.heap_slots (by rw [sv_len e]; exact Nat.lt_of_le_of_lt (Nat.zero_le _) hlt)
    -- [b, p, own, slotsW, res, pc, px, L]
    have hf : ∀ w', Below (renewWorld w x c vc).heap.size (renewWorld w x c vc) w' → Calls Try.prog 115 #[.pointer (some ⟨p, 0, none⟩), wv x] w' fun e w'' => e = .returned (.tuple #[.pointer (some ⟨b, j * 5, none⟩), .int .i64 0]) ∧ Below w'.heap.size w' w'' :=
      fun w' hb => find_good e x hj ok.max (s.mono hb)
    have hgen := ok.gens _ (AHeap.slot_mem hlt)
    have back : ∀ {w' : World} {sv' : List (ASlot × Value)} {H' : AHeap}, sv'.map Prod.fst = H'.slots → sv'.length = sv.length → H'.room = H.room → H'.most = H.most → H'.free = H.free →
        St W0 w' (cellsB (w.heap.size + 1) #[.int .u8 c.k, .int .i64 c.n, vc] 34 :: cellsB b (sv'.flatMap slotCells ++ rest).toArray 124 :: slotsW sv' :: cellsB p #[.int .i64 H.room, .int .i64 H.most, .slice (some ⟨b, 0, none⟩) sv.length cap, vf] 109 :: ownS 3 1 vf H.free.length (intsV H.free) :: cellsB w.heap.size #[.int .u8 x.k, .int .i64 x.n, .string x.s, .int .i64 x.g] 36 :: cellsB (w.heap.size + 2) #[.int .u8 0, .int .i64 0, .string ⟨#[]⟩, .int .i64 0] 36 :: L) →
        St W0 w' (cellsB w.heap.size #[.int .u8 x.k, .int .i64 x.n, .string x.s, .int .i64 x.g] 36 :: cellsB (w.heap.size + 2) #[.int .u8 0, .int .i64 0, .string ⟨#[]⟩, .int .i64 0] 36 :: heapAt p H' :: L) := by
      intro w' sv' H' e1 e2 e4 e5 e6 T
      rw [← e2, ← e4, ← e5, ← e6] at T
      have T2 := St.heap_back e1 (by rw [e2]; exact c1) c2 (by rw [e2]; exact c3) (((T.tail.pull 1).pull 3).pull 3 |>.pull 3)
      exact (T2.pull 1).pull 2 |>.pull 1
    refine (at_good81 hf (fun w' hb => renew1_c ((((((((s.mono hb).pull 4).pull 6).pull 4).pull 4).pull 5).pull 5).pull 6) (fun w2 S => hR w2 S.tail.tail.tail.tail) hm hs hgen.1 (by omega))).mono ?_
    rintro e' w' ⟨_, rfl, hT⟩
    rcases hT with ⟨hc, rfl, T⟩ | ⟨hc, rfl, v', T⟩
    · have hg : H.renew x c = ((.zero, 2), H) := by unfold AHeap.renew; rw [hj]; simp only [ne_eq, not_true_eq_false, if_false, hc, if_true]
      rw [hg]
      exact ⟨rfl, back e rfl rfl rfl rfl (T.pull 0)⟩
    · have hg : H.renew x c = ((cellWord x.n (x.g + 1), 0), H.renewed j c) := by unfold AHeap.renew; rw [hj]; simp only [ne_eq, not_true_eq_false, if_false, hc, Bool.true_eq_false]
      rw [hg]
      rw [hz6] at T
      exact ⟨rfl, back (slots_map_set e j _ v') (by simp) rfl rfl rfl T⟩
  · obtain ⟨k, hk'⟩ : ∃ k, (H.find x).1 = k := ⟨_, rfl⟩
    have k0 : k ≠ 0 := fun q => hk (hk'.trans q)
    have hg : H.renew x c = ((.zero, k), H) := by unfold AHeap.renew; rw [if_pos hk, hk']
    rw [hg]
    refine (at_bad (w := renewWorld w x c vc) (x := x) (beq_eq_false_iff_ne.2 k0) _ (fun w' hb => find_bad ((s0.pull 3).mono hb) x hk' k0 ok.max)).mono ?_
    rintro e w' ⟨rfl, hb⟩
    have S := s0.mono hb
    exact ⟨rfl, ((S.pull 1).tail).pull 1⟩

theorem empty_of {s : ByteArray} (h : s.toList.isEmpty = true) : s = ⟨#[]⟩ :=
  (toList_nil_iff_emptyBytes s).1 (by simpa using h)

theorem cell_word {x : AWord} (hk : x.k = 5) (ho : x.ok = true) (g : Int) : cellWord x.n g = ⟨x.k, x.n, x.s, g⟩ := by
  have hs : x.s = ⟨#[]⟩ := by
    apply empty_of
    unfold AWord.ok at ho
    simp [hk] at ho
    simpa using ho.1.2
  rw [hk, hs]; rfl

set_option maxRecDepth 100000 in
theorem renew_c {W0 w : World} {L : List HProp} {p : Nat} {H : AHeap} {B : Int} (h : St W0 w (heapAt p H :: L)) (ok : H.Ok B) (hB : B < 1000000000) (x : AWord) (c : ACell) (vc : Value)
    (hR : ∀ w', St W0 w' L → rd w' 4 vc c.ws.length (flatW c.ws)) (hm : c.ws.length ≤ maxLen) :
    Calls Try.prog 29 #[.pointer (some ⟨p, 0, none⟩), wv x, cv c vc] w fun e w' => RenewPost W0 L p (H.renew x c) e w' := by
  have M := Lib.hid (renew_mid h ok hB x c vc hR hm)
  obtain ⟨a, cap, rfl⟩ : ∃ a cap, vc = .slice a c.ws.length cap := by
    rcases (hR w h.tail).2 with ⟨⟨_, _, rfl⟩, e⟩ | ⟨b, off, cap, rfl, _⟩
    · exact ⟨_, _, by rw [e]⟩
    · exact ⟨_, _, rfl⟩
  unfold RenewPost
  have hres : (H.renew x c).1.2 = 0 → (H.renew x c).1.1 = ⟨x.k, x.n, x.s, x.g + 1⟩ ∧ 0 ≤ x.g ∧ x.g < 1000000000 := by
    unfold AHeap.renew
    split
    · rename_i h1; intro h2; exact absurd h2 h1
    · rename_i h1
      simp only [ne_eq, Decidable.not_not] at h1
      split
      · intro h2; cases h2
      · intro _
        have hz := AHeap.find_zero h1
        have hg := ok.gens _ (AHeap.slot_mem hz.2.2.2.2.1)
        rw [hz.2.2.2.2.2.2] at hg
        exact ⟨cell_word hz.1 hz.2.1 _, hg.1, by omega⟩
  have hz0 : (H.renew x c).1.2 ≠ 0 → (H.renew x c).1.1 = .zero := by
    unfold AHeap.renew
    split
    · intro _; rfl
    · split
      · intro _; rfl
      · intro h2; exact absurd rfl h2
  generalize H.renew x c = r at *
  clear h ok hB hR hm
  by_cases hr : r.1.2 = 0
  · obtain ⟨h1, h2, h3⟩ := hres hr
    have HR := Lib.hid h1
    have HRR := Lib.hid hr
    have hb : (r.1.2 != 0) = false := by simp [hr]
    clear hz0 hres h1 hr
    unfold wv cv renewWorld at *
    go_enter Try.func29, Try.ntmps29
    go_wp2_with (go_at_call 76; refine M.out.mono ?_; rintro e2 w2 ⟨rfl, S⟩; have d0 := S.cell; have f0 := S.free; have d2 := (S.pull 1).cell; have f2 := (S.pull 1).free; have ne := S.ne; have SS := Lib.hid S; clear S)
    simp only [Nat.add_assoc, Nat.reduceAdd]
    have S2 := (((((SS.out.set 3 (.int .i64 (x.g + 1))).pull 1).set 0 (.int .u8 x.k)).set 1 (.int .i64 x.n)).set 2 (.string x.s)).set 3 (.int .i64 (x.g + 1))
    have d2 := S2.cell
    refine bodyPost_ret (v := .tuple #[.agg #[.int .u8 x.k, .int .i64 x.n, .string x.s, .int .i64 (x.g + 1)], .int .i64 0]) (by simp [results, Try.results29, go_sem, d2]) rfl ⟨?_, S2.tail.tail⟩
    rw [HR.out, HRR.out]
  · have HR := Lib.hid (hz0 hr)
    have hb : (r.1.2 != 0) = true := by simp [hr]
    clear hz0 hres hr
    unfold wv cv renewWorld at *
    go_enter Try.func29, Try.ntmps29
    go_wp2_with (go_at_call 76; refine M.out.mono ?_; rintro e2 w2 ⟨rfl, S⟩; have d2 := (S.pull 1).cell; have f2 := (S.pull 1).free; have SS := Lib.hid S; clear S)
    simp only [Nat.add_assoc, Nat.reduceAdd]
    have S2 := ((((SS.out.pull 1).set 0 (.int .u8 0)).set 1 (.int .i64 0)).set 2 (.string ⟨#[]⟩)).set 3 (.int .i64 0)
    have d2 := S2.cell
    refine bodyPost_ret (v := .tuple #[.agg #[.int .u8 0, .int .i64 0, .string ⟨#[]⟩, .int .i64 0], .int .i64 r.1.2]) (by simp [results, Try.results29, go_sem, d2]) rfl ⟨?_, S2.tail.tail⟩
    rw [HR.out]; rfl

end Go.Proofs.Ytciciaikajdenaa
