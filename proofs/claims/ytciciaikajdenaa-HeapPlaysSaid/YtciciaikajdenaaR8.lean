/- The document's Alloc. -/
import Derived.Test.YtciciaikajdenaaR7
import Derived.Test.YtciciaikajdenaaR8M
import Derived.Test.YtciciaikajdenaaW13
set_option linter.unusedSimpArgs false
set_option linter.unusedVariables false
namespace Go.Proofs.Ytciciaikajdenaa
open Go.RowKit

theorem info114 : (Try.prog.info? 114).map (fun i => (i.zero, i.size, i.bytes)) = some (some (.agg #[.int .u8 0, .int .i64 0, .slice none 0 0, .int .i64 0, .bool false]), 5, 56) := by kernel_rfl

section
variable {W0 w : World} {L : List HProp} {p : Nat} {H : AHeap}

theorem liveR_q {B : Int} (h : St W0 w (heapRAt p H :: L)) (ok : H.Ok B) :
    Calls Try.prog 34 #[.pointer (some ⟨p, 0, none⟩)] w fun e w' => e = .returned (.int .i64 H.live) ∧ ∃ n, w' = w.drewN n :=
  (liveR_c h ok).mono fun e w' ⟨h1, h2⟩ => ⟨h1, 0, h2⟩

/-- The cell that is given next is there. -/
def PreRel (W0 : World) (L : List HProp) (p B0 : Nat) (H : AHeap) (c : ACell) (a : Option Addr) (cap : Nat) (v6 : Value) (wx : World) : Prop :=
  v6 = .int .i64 (H.next : Nat) ∧ St W0 wx (heapRAt p H.pre :: cellsB (B0 + 1) #[Value.int .u8 0, .int .i64 0, .string ⟨#[]⟩, .int .i64 0] 36 :: cellsB B0 #[Value.int .u8 c.k, .int .i64 c.n, .slice a c.ws.length cap] 34 :: L)

set_option maxRecDepth 100000 in
set_option maxHeartbeats 4000000 in
theorem allocR_c {B : Int} (h : St W0 w (heapRAt p H :: L)) (ok : H.Ok B) (hB : 0 ≤ B) (c : ACell) (vc : Value)
    (hR : ∀ w', St W0 w' L → rd w' 4 vc c.ws.length (flatW c.ws)) (hm : c.ws.length ≤ maxLen) :
    Calls Try.prog 21 #[.pointer (some ⟨p, 0, none⟩), cv c vc] w fun e w' => SetCPostR W0 L p (H.alloc c) e w' := by
  obtain ⟨a, cap, rfl⟩ := rd_form (hR w h.tail)
  have s0 := (h.allocC #[Value.int .u8 c.k, .int .i64 c.n, .slice a c.ws.length cap] 34).allocC #[Value.int .u8 0, .int .i64 0, .string ⟨#[]⟩, .int .i64 0] 36
  simp only [World.size_alloc] at s0
  have d0 := (s0.pull 1).cell
  have HS := Lib.hid s0
  have OK := Lib.hid ok
  have HR := Lib.hid hR
  have HM := Lib.hid (may_r c (.slice a c.ws.length cap) _ (hR _ s0.tail.tail.tail) hm)
  have hlive := ok.live_le
  have hr1 := ok.room1
  clear h s0 ok hR
  unfold SetCPostR
  unfold cv at *
  cases hok : c.ok
  · have hal : H.alloc c = ((.zero, 2), H) := by unfold AHeap.alloc; rw [if_pos hok]
    rw [hal]
    have HK := Lib.hid hok
    clear hal hok
    go_enter Try.func21, Try.ntmps21
    go_wp2_with (go_at_call 19; refine HM.out.mono ?_; rintro e w' ⟨rfl, hb⟩; rw [HK.out]; have S := HS.out.mono hb; clear d0; have d1 := S.cell; have f1 := S.free; have HS2 := Lib.hid S; clear S hb)
    have S := (((HS2.out.set 0 (.int .u8 0)).set 1 (.int .i64 0)).set 2 (.string ⟨#[]⟩)).set 3 (.int .i64 0)
    have d4 := S.cell
    refine bodyPost_ret (v := .tuple #[.agg #[.int .u8 0, .int .i64 0, .string ⟨#[]⟩, .int .i64 0], .int .i64 2]) (by simp [results, Try.results21, go_sem, d4]) rfl ⟨rfl, ?_⟩
    exact S.tail.tail
  have hws : c.ws.length ≤ 64 := by
    unfold ACell.ok at hok
    simp at hok
    exact hok.1.2
  have HK := Lib.hid hok
  by_cases hfull : H.room ≤ H.live
  · have hal : H.alloc c = ((.zero, 7), H) := by unfold AHeap.alloc; rw [if_neg (by rw [hok]; decide), if_pos hfull]
    rw [hal]
    clear hal hok
    go_enter Try.func21, Try.ntmps21
    go_upto_region 3 with (go_at_call 19; refine HM.out.mono ?_; rintro e w' ⟨rfl, hb⟩; rw [HK.out]; have S := HS.out.mono hb; clear d0; have HS2 := Lib.hid S; clear S hb)
    obtain ⟨a0, cap0, vf0, d0, _, _, _⟩ := (HS2.out.pull 2).heapR_view
    have HL := Lib.hid (fun n => liveR_q ((HS2.out.drewN n).pull 2) OK.out)
    go_quiet ((go_at_call 34; exact Calls.quiet_of (HL.out _)))
    have S := HS2.out.drewN nq
    generalize w'.drewN nq = w4 at S ⊢
    clear HS HS2 HL d0
    have d1 := S.cell
    have f1 := S.free
    have HS := Lib.hid S
    clear S
    go_wp2_with fail
    have S := (((HS.out.set 0 (.int .u8 0)).set 1 (.int .i64 0)).set 2 (.string ⟨#[]⟩)).set 3 (.int .i64 0)
    have d4 := S.cell
    refine bodyPost_ret (v := .tuple #[.agg #[.int .u8 0, .int .i64 0, .string ⟨#[]⟩, .int .i64 0], .int .i64 7]) (by simp [results, Try.results21, go_sem, d4]) rfl ⟨rfl, ?_⟩
    exact S.tail.tail
  · have hal : H.alloc c = (((H.give c).1, 0), (H.give c).2) := by unfold AHeap.alloc; rw [if_neg (by rw [hok]; decide), if_neg hfull]
    rw [hal, AHeap.give_mid OK.out]
    have hmid := AHeap.mid_ok OK.out hB hws (by omega)
    have MID := Lib.hid hmid
    have NX := Lib.hid (AHeap.next_lt OK.out)
    clear hal hok hmid
    go_enter Try.func21, Try.ntmps21
    go_upto_region 3 with (go_at_call 19; refine HM.out.mono ?_; rintro e w' ⟨rfl, hb⟩; rw [HK.out]; have S := HS.out.mono hb; clear d0; have HS2 := Lib.hid S; clear S hb)
    obtain ⟨a0, cap0, vf0, d0, _, _, _⟩ := (HS2.out.pull 2).heapR_view
    have HL := Lib.hid (fun n => liveR_q ((HS2.out.drewN n).pull 2) OK.out)
    go_quiet ((go_at_call 34; exact Calls.quiet_of (HL.out _)))
    have S := HS2.out.drewN nq
    generalize w'.drewN nq = w4 at S ⊢
    clear HS HS2 HL d0
    generalize w.heap.size = B0 at S ⊢
    obtain ⟨vs, vf, sv, e, hO⟩ := (S.pull 2).heapR_open
    unfold heapRL at hO
    simp only [List.cons_append, List.nil_append] at hO
    -- [p, ownS, own3, slots, B1, B0, L]
    obtain ⟨va, vcap, rfl, _⟩ := (hO.pull 1).own_form
    obtain ⟨fa, fcap, rfl, _⟩ := (hO.pull 2).own_form
    have hsl : sv.length = H.slots.length := sv_len e
    have hlen1 : sv.length ≤ 100000 := by rw [hsl]; have := OK.out.few; omega
    have hfl : H.free.length ≤ 100000 := by have := OK.out.count; have := OK.out.few; omega
    have dp := hO.cell
    have fp := hO.free
    have HO := Lib.hid hO
    have HE := Lib.hid e
    have HSL := Lib.hid hsl
    clear hO e S hsl
    go_upto_if 31 with fail
    go_cut [6, 7] from 25 to 59 (fun v6 _ wx => PreRel W0 L p B0 H c a cap v6 wx)
    case first =>
      rcases List.eq_nil_or_concat H.free with hf | ⟨fs, i, hf⟩
      · have hn : H.next = H.slots.length := by simp [AHeap.next, hf]
        have hpre : H.pre = { H with slots := H.slots ++ [⟨.zero, 0, false⟩] } := by simp [AHeap.pre, hf]
        have hl0 : H.free.length = 0 := by rw [hf]; rfl
        have HN := Lib.hid (And.intro hn (And.intro hpre hl0))
        obtain ⟨ii, hi1, hz0, hz1, hz2⟩ := info_parts info114
        have hal := HO.out.allocC zeroSlot.toArray 114
        have A := Lib.hid fun o rest ops Q x => wpList_append_st (P := Try.prog) (o := o) (rest := rest) (ops := ops) (Q := Q) (a := x) (hal.pull 2) (rd_cells (sz := 5) (n := 1) (cap := 1) hal (Nat.le_refl _) rfl) one_zeroSlot hi1 hz0 hz1 hz2 rfl (by unfold maxLen; omega) (by omega) Try.underlying51
        clear hal hi1 hz0 hz1 hz2 hn hpre hf
        unfold zeroSlot at A
        go_wp2_with (at_builtin; refine A.out _ _ _ _ _ _ _ rfl rfl rfl rfl ?_; intro v' w5 S1 _; obtain ⟨va2, vcap2, rfl, _⟩ := S1.own_form; clear dp fp; have dp := (S1.pull 2).cell; have fp := (S1.pull 2).free; have S1 := Lib.hid S1)
        go_meet
        case rel =>
          have S2 := (S1.out.pull 2).set 1 (.slice va2 (sv.length + 1) vcap2)
          simp only [List.setIfInBounds_toArray, List.set_cons_zero, List.set_cons_succ] at S2
          -- [p, ownS', box, own3, slots, B1, B0, L]
          have S3 := ((S2.pull 2).tail.pull 3).own_nil (T := 36) (sz := 4)
          have S4 := St.slots_snoc (s := ⟨.zero, 0, false⟩) (v := .slice none 0 0) S3
          have hzero : sv.flatMap slotCells ++ [Value.int .u8 0, .int .i64 0, .slice none 0 0, .int .i64 0, .bool false] = (sv ++ [((⟨ACell.zero, 0, false⟩ : ASlot), Value.slice none 0 0)]).flatMap slotCells := by simp [slotCells, ACell.zero]
          rw [hzero] at S4
          -- [slots', p, ownS', own3, B1, B0, L]
          refine ⟨by rw [HN.out.1, HSL.out], ?_⟩
          have hl1 : (sv ++ [((⟨ACell.zero, 0, false⟩ : ASlot), Value.slice none 0 0)]).length = sv.length + 1 := by simp
          refine St.heapR_close (sv := sv ++ [((⟨ACell.zero, 0, false⟩ : ASlot), Value.slice none 0 0)]) (vs := .slice va2 (sv.length + 1) vcap2) (vf := .slice fa H.free.length fcap) (by rw [HN.out.2.1]; simp [HE.out]) ?_
          unfold heapRL
          rw [hl1, HN.out.2.1]
          exact S4.push 3
      · have hf' : H.free = fs ++ [i] := by simpa using hf
        have hn : H.next = i := by simp [AHeap.next, hf']
        have hpre : H.pre = { H with free := fs } := by simp [AHeap.pre, hf']
        have hl0 : H.free.length = fs.length + 1 := by rw [hf']; simp
        have hil : i < H.slots.length := (OK.out.dead i (by rw [hf']; simp)).1
        have HN := Lib.hid (And.intro hn (And.intro hpre hl0))
        obtain ⟨hl, hc⟩ := St.own_cases (HO.out.pull 2)
        obtain ⟨bf, fcap', frest, e, k1, k2, k3, t⟩ := hc.resolve_left (fun q => by have := q.2.1; omega)
        injection e with e1 e2 e3
        subst e1 e3
        have cf : w4.cell? ⟨bf, fs.length, none⟩ = some (.int .i64 i) := by rw [t.cell, hf']; simp [intsV]
        have HK3 := Lib.hid (And.intro hl (And.intro k1 (And.intro k2 (And.intro k3 hf'))))
        have HT := Lib.hid t
        have hwr : IntKind.i64.wrap (fs.length : Int) = fs.length := IntWalk.i64_in _ (by omega)
        have hlt : (fs.length : Int) < fs.length + 1 := by omega
        have hle : fs.length ≤ fcap := by omega
        rw [hl0] at dp k1 ⊢
        clear hl hc k2 k3 t hn hpre hf hf' hl0
        go_wp2_with fail
        go_meet
        case rel =>
          have e3 : intsV H.free ++ frest = intsV fs ++ (Value.int .i64 i :: frest) := by rw [HK3.out.2.2.2.2]; simp [intsV]
          have e4 : (intsV H.free).length = (intsV fs).length + 1 := by rw [HK3.out.2.2.2.2]; simp [intsV]
          have S2 := (HT.out.pull 1).set 2 (.slice (some ⟨bf, 0, none⟩) fs.length fcap)
          simp only [List.setIfInBounds_toArray, List.set_cons_zero, List.set_cons_succ] at S2
          rw [e3] at S2
          -- [p, bf, ownS, slots, B1, B0, L]
          have T := (S2.pull 1).own_mk (n := fs.length) (cap := fcap) (sz := 1) (by simp [intsV]) hle HK3.out.2.2.1 (by have h1 := HK3.out.2.2.2.1; simp only [List.length_cons]; omega)
          refine ⟨by rw [HN.out.1], ?_⟩
          refine St.heapR_close (sv := sv) (vs := .slice va sv.length vcap) (vf := .slice (some ⟨bf, 0, none⟩) fs.length fcap) (by rw [HN.out.2.1]; exact HE.out) ?_
          unfold heapRL
          rw [HN.out.2.1]
          exact T.push 2
    case rest =>
      obtain ⟨rfl, S⟩ := hcut
      clear HO HE HSL dp fp hlen1 hfl
      obtain ⟨vs, vf, sv, e, hO⟩ := S.heapR_open
      obtain ⟨v, hs⟩ := sv_get e NX.out
      obtain ⟨b, cap', rest, rfl, c1, c2, c3, S⟩ := hO.heapR_slots (by rw [sv_len e]; exact Nat.lt_of_le_of_lt (Nat.zero_le _) NX.out)
      have hlt : H.next < sv.length := by rw [sv_len e]; exact NX.out
      have hlen1 : sv.length ≤ 100000 := by rw [sv_len e]; have h1 := MID.out.1.few; have h2 := MID.out.1.room1; unfold AHeap.mid at h1 h2; simp only [List.length_set] at h1 h2; omega
      obtain ⟨fa2, fcap2, rfl, _⟩ := (S.pull 2).own_form
      have HO := Lib.hid (And.intro e (And.intro hs (And.intro c1 (And.intro c2 c3))))
      have HM2 : Hid (H.mid c = { H.pre with slots := H.pre.slots.set H.next ⟨c, (H.pre.slot H.next).gen, true⟩ }) := Lib.hid rfl
      clear e hs c1 c2 c3 hO
      generalize hn : H.next = n at *
      generalize hG : H.pre = G at *
      have HNN := Lib.hid (And.intro hn hG)
      clear hn hG
      -- S: [b, p, own3, slots, B1, B0, L]
      have HS := Lib.hid S
      clear S
      go_upto_region 11 with fail
      refine wp_region_st HS.out [0, 1, 2, 3, 4, 5, 6, 7, 8, 9] (fun w' => (∀ o, w'.cell? ⟨p, o, none⟩ = #[Value.int .i64 G.room, .slice (some ⟨b, 0, none⟩) sv.length cap', .slice fa2 G.free.length fcap2, .int .i64 G.most][o]?) ∧ (∀ o, w'.cell? ⟨B0, o, none⟩ = #[Value.int .u8 c.k, .int .i64 c.n, .slice a c.ws.length cap][o]?)) [3, 5] [6, 9] [9] (by kernel_rfl) (by kernel_rfl) (fun c d v a w h => by cases d <;> exact h) ?_
      clear HS
      intro w6 S
      have HF := Lib.hid (And.intro (S.pull 1).cell (S.pull 5).cell)
      iterate 6
        (first
          | refine walk_load rfl rfl rfl HF.out rfl (by rintro w' ⟨g0, g1⟩; go_simp; with_reducible rfl) ?_
          | refine walk_pure rfl rfl rfl rfl (by intro w'; go_simp; with_reducible rfl) ?_)
        simp only [List.getElem_toArray, List.getElem_cons_zero, List.getElem_cons_succ, Act.put, List.setIfInBounds_toArray, List.set_cons_zero, List.set_cons_succ]
      refine walk_do rfl rfl rfl (fun K hK => ?_)
      go_simp
      refine (copied_r c (.slice a c.ws.length cap) w6 (by omega) (HR.out _ S.tail.tail.tail.tail.tail.tail)).mono ?_
      rintro e w7 ⟨v', rfl, S5⟩
      obtain ⟨a', cap3, rfl, _⟩ := St.own_form S5
      have S := S.chain S5
      clear S5 HF
      simp only [List.cons_append, List.nil_append] at S
      have HF := Lib.hid (And.intro (S.pull 2).cell (S.pull 6).cell)
      refine hK _ _ (fun _ => HF.out) ?_
      clear hK K
      try simp only [List.getElem_toArray, List.getElem_cons_zero, List.getElem_cons_succ, Act.put, List.setIfInBounds_toArray, List.set_cons_zero, List.set_cons_succ]
      simp only [cv]
      iterate 2
        (first
          | refine walk_load rfl rfl rfl HF.out rfl (by rintro w' ⟨g0, g1⟩; go_simp; with_reducible rfl) ?_
          | refine walk_pure rfl rfl rfl rfl (by intro w'; go_simp; with_reducible rfl) ?_)
        simp only [List.getElem_toArray, List.getElem_cons_zero, List.getElem_cons_succ, Act.put, List.setIfInBounds_toArray, List.set_cons_zero, List.set_cons_succ]
      clear HF
      obtain ⟨q0, q1, q2, q3, q4⟩ := slot_cells (S.pull 1) HO.out.2.1
      have fb := (S.pull 1).free
      refine walk_do rfl rfl rfl (fun K hK => ?_)
      go_simp
      have S := St.slot3 (S.pull 1) HO.out.2.1 c (.slice a' c.ws.length cap3)
      refine hK _ _ (fun q => by cases q) ?_
      clear hK K q0 q1 q2 q3 q4 fb
      try simp only [List.getElem_toArray, List.getElem_cons_zero, List.getElem_cons_succ, Act.put, List.setIfInBounds_toArray, List.set_cons_zero, List.set_cons_succ]
      refine walk_nil ?_
      have HS := Lib.hid S
      clear S
      go_upto_region 12 with fail
      refine abs_wp HS.out ?_
      clear HS
      intro w8 S
      -- [b', w', p, own3, slots, B1, B0, L]
      have hs3 := set_get (y := ((⟨c, (G.slot n).gen, (G.slot n).lives⟩ : ASlot), Value.slice a' c.ws.length cap3)) HO.out.2.1
      obtain ⟨q0, q1, q2, q3, q4⟩ := slot_cells S hs3
      have fb := S.free
      have dp := (S.pull 2).cell
      have HS := Lib.hid S
      have HS3 := Lib.hid hs3
      clear S hs3
      go_upto_region 13 with fail
      have S := HS.out.set (n * 5 + 4) (.bool true)
      simp only [List.setIfInBounds_toArray] at S
      rw [set_slot (y := (⟨c, (G.slot n).gen, true⟩, .slice a' c.ws.length cap3)) rest HS3.out (by omega) rfl] at S
      simp only [List.set_set] at S
      refine abs_wp S ?_
      clear S HS HS3 q0 q1 q2 q3 q4 fb dp
      intro w9 S
      -- [b', w', p, own3, slots, B1, B0, L]
      have T1 := St.slots_take (S.pull 4) HO.out.2.1
      -- [ownW, erase, b', w', p, own3, B1, B0, L]
      have T2 := T1.tail.pull 2
      have T3 := St.slots_set (s := ⟨c, (G.slot n).gen, true⟩) (v := .slice a' c.ws.length cap3) T2 hlt
      -- [slots', b', p, own3, B1, B0, L]
      have hmap : (sv.set n (⟨c, (G.slot n).gen, true⟩, .slice a' c.ws.length cap3)).map Prod.fst = (H.mid c).slots := by
        rw [slots_map_set HO.out.1, HM2.out]
      have T4 := St.heapR_back (H := H.mid c) (b := b) (cap := cap') (vf := .slice fa2 G.free.length fcap2) (rest := rest) hmap (by rw [List.length_set]; exact HO.out.2.2.1) HO.out.2.2.2.1 (by rw [List.length_set]; exact HO.out.2.2.2.2) (by rw [List.length_set, HM2.out]; exact T3.push 3)
      -- [heapR mid, B1, B0, L]
      have hgen : ((H.mid c).slot n).gen = (G.slot n).gen := by
        rw [slot_set (H := G) (K := H.mid c) (i := n) (by rw [HM2.out]) NX.out, if_pos rfl]
      have hnl : n < (H.mid c).slots.length := by rw [HM2.out]; simp only [List.length_set]; exact NX.out
      have HG := Lib.hid (And.intro hgen hnl)
      clear S T1 T2 T3 hmap hgen hnl HO HM2
      have S := T4
      clear T4
      have hml := MID.out.2.1
      have hmm := MID.out.2.2.1
      obtain ⟨a1, cp1, vf1, dp, hvf, _, _⟩ := S.heapR_view
      have HL := Lib.hid (fun k => liveR_q (S.drewN k) MID.out.1)
      rw [hml] at HL
      rw [hmm] at dp
      have HML := Lib.hid (And.intro hml hmm)
      clear hml hmm
      go_quiet ((go_at_call 34; exact Calls.quiet_of (HL.out _)))
      have S := S.drewN nq
      generalize w9.drewN nq = w10 at S ⊢
      clear HL dp hvf
      by_cases hmo : H.most < H.live + 1
      · have hmx : max H.most (H.live + 1) = H.live + 1 := by omega
        obtain ⟨vs, vf, sv2, e, hO⟩ := S.heapR_open
        have LV := Lib.hid (liveR_c S MID.out.1)
        rw [HML.out.1] at LV
        unfold heapRL at hO
        simp only [List.cons_append, List.nil_append] at hO
        have dp := hO.cell
        have fp := hO.free
        have HS := Lib.hid hO
        have HE := Lib.hid e
        have HMX := Lib.hid hmx
        clear S hO e hmx
        go_upto_region 15 with (go_at_call 34; refine LV.out.mono ?_; rintro e w' ⟨rfl, rfl⟩)
        have S2 := HS.out.set 3 (.int .i64 (H.live + 1))
        simp only [List.setIfInBounds_toArray, List.set_cons_zero, List.set_cons_succ] at S2
        have S := St.heapR_close (H := { H.mid c with most := H.live + 1 }) (p := p) (vs := vs) (vf := vf) (sv := sv2) HE.out S2
        refine abs_wp S ?_
        clear S S2 HS HE dp fp LV
        intro w11 S
        obtain ⟨a1, cp1, vf1, dp, _, _, key⟩ := S.heapR_view
        obtain ⟨b1, rfl, v1, c0, c1, c2, c3, c4, _⟩ := key n HG.out.2
        have d1 := (S.pull 1).cell
        have f1 := (S.pull 1).free
        have hnl : (n : Int) < ((H.mid c).slots.length : Int) := by have := HG.out.2; omega
        have HS := Lib.hid S
        have c3' : w11.cell? ⟨b1, n * 5 + 3, none⟩ = some (.int .i64 (G.slot n).gen) := by rw [← HG.out.1]; exact c3
        simp only at dp
        clear S key c0 c1 c2 c3 c4
        go_wp2_with fail
        have S := ((((HS.out.pull 1).set 0 (.int .u8 5)).set 1 (.int .i64 n)).set 2 (.string ⟨#[]⟩)).set 3 (.int .i64 (G.slot n).gen)
        have d4 := S.cell
        refine bodyPost_ret (v := .tuple #[.agg #[.int .u8 5, .int .i64 n, .string ⟨#[]⟩, .int .i64 (G.slot n).gen], .int .i64 0]) (by simp [results, Try.results21, go_sem, d4]) rfl ⟨by rw [HNN.out.1, HNN.out.2]; rfl, ?_⟩
        rw [HMX.out]
        exact (S.tail.pull 1).tail
      · have hmx : max H.most (H.live + 1) = (H.mid c).most := by rw [HML.out.2]; omega
        have HMX := Lib.hid hmx
        clear hmx
        obtain ⟨a1, cp1, vf1, dp, _, _, key⟩ := S.heapR_view
        obtain ⟨b1, rfl, v1, c0, c1, c2, c3, c4, _⟩ := key n HG.out.2
        have d1 := (S.pull 1).cell
        have f1 := (S.pull 1).free
        have hnl : (n : Int) < ((H.mid c).slots.length : Int) := by have := HG.out.2; omega
        have HS := Lib.hid S
        have c3' : w10.cell? ⟨b1, n * 5 + 3, none⟩ = some (.int .i64 (G.slot n).gen) := by rw [← HG.out.1]; exact c3
        clear S key c0 c1 c2 c3 c4
        go_wp2_with fail
        have S := ((((HS.out.pull 1).set 0 (.int .u8 5)).set 1 (.int .i64 n)).set 2 (.string ⟨#[]⟩)).set 3 (.int .i64 (G.slot n).gen)
        have d4 := S.cell
        refine bodyPost_ret (v := .tuple #[.agg #[.int .u8 5, .int .i64 n, .string ⟨#[]⟩, .int .i64 (G.slot n).gen], .int .i64 0]) (by simp [results, Try.results21, go_sem, d4]) rfl ⟨by rw [HNN.out.1, HNN.out.2]; rfl, ?_⟩
        rw [HMX.out]
        exact (S.tail.pull 1).tail
end
end Go.Proofs.Ytciciaikajdenaa
