/- The document's Renew. -/
import Derived.Test.YtciciaikajdenaaR6
set_option linter.unusedSimpArgs false
set_option linter.unusedVariables false
namespace Go.Proofs.Ytciciaikajdenaa
open Go.RowKit

section
variable {W0 w : World} {L : List HProp} {p : Nat} {H : AHeap}

set_option maxRecDepth 100000 in
set_option maxHeartbeats 2000000 in
theorem renewR_c {B : Int} (h : St W0 w (heapRAt p H :: L)) (ok : H.Ok B) (hB : B < 1000000000) (x : AWord) (c : ACell) (vc : Value)
    (hR : ∀ w', St W0 w' L → rd w' 4 vc c.ws.length (flatW c.ws)) (hm : c.ws.length ≤ maxLen) :
    Calls Try.prog 30 #[.pointer (some ⟨p, 0, none⟩), wv x, cv c vc] w fun e w' => SetCPostR W0 L p (H.renew x c) e w' := by
  obtain ⟨a, acap, rfl⟩ := rd_form (hR w h.tail)
  have s0 := ((h.allocC #[Value.int .u8 x.k, .int .i64 x.n, .string x.s, .int .i64 x.g] 36).allocC #[Value.int .u8 c.k, .int .i64 c.n, .slice a c.ws.length acap] 34).allocC #[Value.int .u8 0, .int .i64 0, .string ⟨#[]⟩, .int .i64 0] 36
  simp only [World.size_alloc, Nat.add_assoc, Nat.reduceAdd] at s0
  have d0 := (s0.pull 2).cell
  have HS := Lib.hid s0
  have OK := Lib.hid ok
  have HR := Lib.hid hR
  have HW := Lib.hid (wrong_c (s0.pull 3) ok x)
  clear h s0 ok hR
  unfold SetCPostR
  by_cases hf : (H.find x).1 = 0
  · obtain ⟨i, hj⟩ : ∃ i, H.find x = (0, i) := ⟨(H.find x).2, Prod.ext hf rfl⟩
    have hz := AHeap.find_zero hf
    rw [hj] at hz
    simp only at hz
    have hxn := hz.2.2.2.1
    have hlt := hz.2.2.2.2.1
    have hxl := hz.2.2.2.2.2.1
    have hxg := hz.2.2.2.2.2.2
    have hgn := OK.out.gens _ (AHeap.slot_mem hlt)
    have hren : H.renew x c = if c.ok = false then ((.zero, 2), H) else ((cellWord x.n (x.g + 1), 0), H.renewed i c) := by unfold AHeap.renew; rw [hj]; simp
    obtain ⟨r, hr⟩ : ∃ r, H.renew x c = r := ⟨_, rfl⟩
    rw [hr] at hren ⊢
    have HRN := Lib.hid hren
    obtain ⟨k, n, s, g⟩ := x
    simp only at hxn hxg
    subst hxn
    have hg0 : 0 ≤ g := by omega
    have hg1 : g < 1000000000 := by omega
    have hwg : IntKind.i64.wrap (g + 1) = g + 1 := IntWalk.i64_in _ (by omega)
    have HXG := Lib.hid (And.intro hxg hxl)
    have HF := Lib.hid hf
    rw [HF.out] at HW
    unfold wv cv at *
    clear hz hj hf hxg hgn hren hr hxl
    have HM := Lib.hid (fun w' q => may_r c (.slice a c.ws.length acap) w' (HR.out w' q) hm)
    unfold cv at HM
    cases hok : c.ok
    · have HK := Lib.hid hok
      have hr := HRN.out
      rw [hok, if_pos rfl] at hr
      subst hr
      clear hok HRN
      go_enter Try.func30, Try.ntmps30
      go_wp2_with first
        | (go_at_call 78; refine HW.out.mono ?_; rintro e w' ⟨rfl, hb⟩; have S := HS.out.mono hb; clear d0; have d1 := (S.pull 1).cell; have HS2 := Lib.hid S; clear S hb)
        | (go_at_call 19; refine (HM.out _ HS2.out.tail.tail.tail.tail).mono ?_; rintro e w2 ⟨rfl, hb⟩; rw [HK.out]; have S := HS2.out.mono hb; clear d1; have d4 := S.cell; have f4 := S.free; have HS3 := Lib.hid S; clear S hb)
      have S := (((HS3.out.set 0 (.int .u8 0)).set 1 (.int .i64 0)).set 2 (.string ⟨#[]⟩)).set 3 (.int .i64 0)
      have d5 := S.cell
      refine bodyPost_ret (v := .tuple #[.agg #[.int .u8 0, .int .i64 0, .string ⟨#[]⟩, .int .i64 0], .int .i64 2]) (by simp [results, Try.results30, go_sem, d5]) rfl ⟨rfl, ?_⟩
      exact S.tail.tail.tail
    have HK := Lib.hid hok
    have hr := HRN.out
    rw [hok, if_neg (by decide)] at hr
    subst hr
    have hws : c.ws.length ≤ 64 := by
      unfold ACell.ok at hok
      simp at hok
      exact hok.1.2
    clear hok HRN
    go_enter Try.func30, Try.ntmps30
    go_upto_region 6 with first
        | (go_at_call 78; refine HW.out.mono ?_; rintro e w' ⟨rfl, hb⟩; have S := HS.out.mono hb; clear d0; have d1 := (S.pull 1).cell; have HS2 := Lib.hid S; clear S hb)
        | (go_at_call 19; refine (HM.out _ HS2.out.tail.tail.tail.tail).mono ?_; rintro e w2 ⟨rfl, hb⟩; rw [HK.out]; have S := HS2.out.mono hb; clear d1; have HS3 := Lib.hid S; clear S hb)
    generalize w.heap.size = B0 at HS3 ⊢
    simp only [Nat.add_assoc, Nat.reduceAdd] at HS3 ⊢
    obtain ⟨vs, vf, sv, e, hO⟩ := (HS3.out.pull 3).heapR_open
    obtain ⟨v, hs⟩ := sv_get e hlt
    obtain ⟨b, cap, rest, rfl, c1, c2, c3, S⟩ := hO.heapR_slots (by rw [sv_len e]; omega)
    have hlt' : i < sv.length := by rw [sv_len e]; exact hlt
    have HO := Lib.hid (And.intro e (And.intro hs (And.intro c1 (And.intro c2 c3))))
    clear e hs c1 c2 c3 hO HS HS2 HS3 HW HM HK
    -- S: [b, p, own3, slots, B2, B1, B0, L]
    refine wp_region_st S [0, 1, 2, 3, 4, 5, 6, 8, 9, 10, 7, 11, 12, 13] (fun w' => (∀ o, w'.cell? ⟨p, o, none⟩ = #[Value.int .i64 H.room, .slice (some ⟨b, 0, none⟩) sv.length cap, vf, .int .i64 H.most][o]?) ∧ (∀ o, w'.cell? ⟨B0, o, none⟩ = #[Value.int .u8 k, .int .i64 i, .string s, .int .i64 g][o]?) ∧ (∀ o, w'.cell? ⟨B0 + 1, o, none⟩ = #[Value.int .u8 c.k, .int .i64 c.n, .slice a c.ws.length acap][o]?)) [3, 5, 6, 9] [7, 13] [13] (by kernel_rfl) (by kernel_rfl) (fun c d v a w h => by cases d <;> exact h) ?_
    clear S
    intro w4 S
    have HF := Lib.hid (And.intro (S.pull 1).cell (And.intro (S.pull 6).cell (S.pull 5).cell))
    iterate 10
      (first
        | refine walk_load rfl rfl rfl HF.out rfl (by rintro w' ⟨g0, g1, g2⟩; go_simp; with_reducible rfl) ?_
        | refine walk_pure rfl rfl rfl rfl (by intro w'; go_simp; with_reducible rfl) ?_)
      simp only [List.getElem_toArray, List.getElem_cons_zero, List.getElem_cons_succ, Act.put, List.setIfInBounds_toArray, List.set_cons_zero, List.set_cons_succ]
    refine walk_do rfl rfl rfl (fun K hK => ?_)
    go_simp
    refine (copied_r c (.slice a c.ws.length acap) w4 (by omega) (HR.out _ S.tail.tail.tail.tail.tail.tail.tail)).mono ?_
    rintro e w5 ⟨v', rfl, S5⟩
    obtain ⟨a', cap', rfl, _⟩ := St.own_form S5
    have S := S.chain S5
    clear S5 HF
    simp only [List.cons_append, List.nil_append] at S
    have HF := Lib.hid (And.intro (S.pull 2).cell (And.intro (S.pull 7).cell (S.pull 6).cell))
    refine hK _ _ (fun _ => HF.out) ?_
    clear hK K
    try simp only [List.getElem_toArray, List.getElem_cons_zero, List.getElem_cons_succ, Act.put, List.setIfInBounds_toArray, List.set_cons_zero, List.set_cons_succ]
    simp only [cv]
    -- [w', b, p, own3, slots, B2, B1, B0, L]
    iterate 2
      (first
        | refine walk_load rfl rfl rfl HF.out rfl (by rintro w' ⟨g0, g1, g2⟩; go_simp; with_reducible rfl) ?_
        | refine walk_pure rfl rfl rfl rfl (by intro w'; go_simp; with_reducible rfl) ?_)
      simp only [List.getElem_toArray, List.getElem_cons_zero, List.getElem_cons_succ, Act.put, List.setIfInBounds_toArray, List.set_cons_zero, List.set_cons_succ]
    clear HF
    obtain ⟨q0, q1, q2, q3, q4⟩ := slot_cells (S.pull 1) HO.out.2.1
    have fb := (S.pull 1).free
    refine walk_do rfl rfl rfl (fun K hK => ?_)
    go_simp
    have S := (((((S.pull 1).set (i * 5) (.int .u8 c.k)).set (i * 5 + 1) (.int .i64 c.n)).set (i * 5 + 2) (.slice a' c.ws.length cap')).set (i * 5 + 3) (.int .i64 (g + 1))).set (i * 5 + 4) (.bool true)
    simp only [List.setIfInBounds_toArray] at S
    have FlS := flat_set5b (⟨c, g + 1, true⟩, .slice a' c.ws.length cap') rest sv i hlt'
    dsimp only at FlS
    rw [FlS] at S
    clear FlS q0 q1 q2 q3 q4 fb
    refine hK _ _ (fun q => by cases q) ?_
    clear hK K
    try simp only [List.getElem_toArray, List.getElem_cons_zero, List.getElem_cons_succ, Act.put, List.setIfInBounds_toArray, List.set_cons_zero, List.set_cons_succ]
    refine walk_nil ?_
    have HS := Lib.hid S
    clear S
    go_upto_region 7 with fail
    refine abs_wp HS.out ?_
    clear HS
    intro w7 S
    -- [b', w', p, own3, slots, B2, B1, B0, L]
    have d0 := (S.pull 7).cell
    have d4 := (S.pull 5).cell
    have f4 := (S.pull 5).free
    have HS := Lib.hid S
    clear S
    go_wp2_with fail
    have S := ((((HS.out.pull 5).set 0 (.int .u8 5)).set 1 (.int .i64 i)).set 2 (.string ⟨#[]⟩)).set 3 (.int .i64 (g + 1))
    simp only [List.setIfInBounds_toArray, List.set_cons_zero, List.set_cons_succ] at S
    have d5 := S.cell
    refine bodyPost_ret (v := .tuple #[.agg #[.int .u8 5, .int .i64 i, .string ⟨#[]⟩, .int .i64 (g + 1)], .int .i64 0]) (by simp [results, Try.results30, go_sem, d5]) rfl ⟨rfl, ?_⟩
    -- [B2, b', w', p, own3, slots, B1, B0, L]
    have T1 := St.slots_take (S.pull 5) HO.out.2.1
    -- [ownW, erase, B2, b', w', p, own3, B1, B0, L]
    have T2 := T1.tail.pull 3
    -- [w', erase, B2, b', p, own3, B1, B0, L]
    have T3 := St.slots_set (s := ⟨c, g + 1, true⟩) (v := .slice a' c.ws.length cap') T2 hlt'
    -- [slots', B2, b', p, own3, B1, B0, L]
    have T4 := ((T3.pull 4).pull 4).pull 4
    have hfr : (sv.set i (⟨c, g + 1, true⟩, .slice a' c.ws.length cap')).map Prod.fst = (H.renewed i c).slots := by
      rw [slots_map_set HO.out.1]
      show _ = H.slots.set i ⟨c, (H.slot i).gen + 1, true⟩
      rw [HXG.out.1]
    have T5 := St.heapR_back (H := H.renewed i c) (b := b) (cap := cap) (vf := vf) (rest := rest) hfr (by rw [List.length_set]; exact HO.out.2.2.1) HO.out.2.2.2.1 (by rw [List.length_set]; exact HO.out.2.2.2.2) (by rw [List.length_set]; exact T4)
    exact (((((T5.pull 3).tail).pull 2).tail).pull 1).tail
  · obtain ⟨k, hk'⟩ : ∃ k, (H.find x).1 = k := ⟨_, rfl⟩
    have k0 : (k != 0) = true := by rw [← hk']; simpa using hf
    have hg : H.renew x c = ((.zero, k), H) := by unfold AHeap.renew; rw [if_pos hf, hk']
    rw [hg]
    rw [hk'] at HW
    clear hf hk' hg
    unfold wv cv at *
    simp only [AWord.zero]
    go_enter Try.func30, Try.ntmps30
    go_wp2_with (go_at_call 78; refine HW.out.mono ?_; rintro e w' ⟨rfl, hb⟩; have S := HS.out.mono hb; clear d0; have d1 := S.cell; have f1 := S.free; have HS2 := Lib.hid S; clear S hb)
    have S := (((HS2.out.set 0 (.int .u8 0)).set 1 (.int .i64 0)).set 2 (.string ⟨#[]⟩)).set 3 (.int .i64 0)
    have d4 := S.cell
    refine bodyPost_ret (v := .tuple #[.agg #[.int .u8 0, .int .i64 0, .string ⟨#[]⟩, .int .i64 0], .int .i64 k]) (by simp [results, Try.results30, go_sem, d4]) rfl ⟨rfl, ?_⟩
    exact S.tail.tail.tail
end
end Go.Proofs.Ytciciaikajdenaa
