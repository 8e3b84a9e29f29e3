/- HeapOwned: the walk. -/
import Derived.Test.YtciciaikajdenaaH4S
import Derived.Test.YtciciaikajdenaaM6
import Derived.Test.YtciciaikajdenaaD2
import Derived.Test.YtciciaikajdenaaH6M
import Derived.Test.YtciciaikajdenaaW18
import Derived.Test.YtciciaikajdenaaFind
set_option linter.unusedSimpArgs false
set_option linter.unusedVariables false
namespace Go.Proofs.Ytciciaikajdenaa
open Go.RowKit
open Classical

set_option maxRecDepth 100000 in
set_option maxHeartbeats 40000000 in
theorem owned_c (room : Int) (v : Value) (l : List (ADo × Value)) (w : World) (h : DosIn w v l) :
    Calls Try.prog 4 #[.int .i64 room, v] w fun e w' => KnownPost w e w' := by
  obtain ⟨a, cap, rfl⟩ := rd_form h.row
  have hmax := h.max
  unfold maxLen at hmax
  have HD := Lib.hid h
  clear h
  have hmm := @run_makeMap Try.prog
  go_enter Try.func4, Try.ntmps4
  go_wp2_with (go_at_call 13; refine (known_c _).mono ?_; rintro e w1 ⟨rfl, hb⟩)
  refine (heavy_c _ l w1 (HD.out.mono hb)).mono ?_
  rintro e w2 ⟨b, rfl, hlight, hb2⟩
  have hb3 := hb.trans (hb2.mono hb.size)
  have HB := Lib.hid hb3
  clear hb hb2 hb3
  cases b with
  | true =>
    go_wp2_with fail
    go_ret
    exact ⟨rfl, HB.out⟩
  | false =>
    obtain ⟨hl400, hws⟩ := hlight rfl
    clear hlight
    have HWS := Lib.hid hws
    clear hws
    go_wp2_with fail
    by_cases hroom : room < 0 ∨ 100000 < room
    · refine (new_bad room w2 hroom).mono ?_
      rintro e w3 ⟨rfl, rfl⟩
      go_wp2_with fail
      go_ret
      exact ⟨rfl, HB.out⟩
    · refine (new_ok room w2 (by omega) (by omega)).mono ?_
      rintro e w3 ⟨p, rfl, S⟩
      have S := ((St.refl w).mono HB.out).chain S
      have S := (((((S.map_new wv).allocC #[Value.map (some w3.heap.size)] 58).map_new wv).allocC #[Value.map (some (w3.heap.size + 1 + 1))] 59).allocC #[Value.slice none 0 0] 32)
      simp only [World.size_alloc, Nat.add_assoc, Nat.reduceAdd] at S
      have HS := Lib.hid S
      clear S
      go_upto_region 12 with fail
      simp only [Nat.add_assoc, Nat.reduceAdd] at HS ⊢
      refine abs_wp HS.out ?_
      clear HS hmm
      intro w4 S
      obtain ⟨r1, hr1⟩ : ∃ r, w3.heap.size = r := ⟨_, rfl⟩
      rw [hr1] at S ⊢
      clear hr1
      -- [b9, b8, r2, b7, r1, heap]
      have S := (S.own_nil (T := 36) (sz := 4)).ent_nil
      -- [ent, words, b9, b8, r2, b7, r1, heap]
      have S := ((((((S.pull 1).pull 4).pull 6).pull 4).pull 5).pull 6).pull 7
      have HS := Lib.hid S
      clear S
      unfold ownL at *
      generalize r1 + 1 = b7 at HS ⊢
      generalize r1 + 2 = r2 at HS ⊢
      generalize r1 + 3 = b8 at HS ⊢
      generalize r1 + 4 = b9 at HS ⊢
      go_wp2_with fail
      go_loopw [48] (fun i wr => OwnRel w room p b7 b8 b9 r1 r2 l.length i wr) (fun i _ => l.length - (intOf i).toNat)
      case atStart =>
        exact ⟨0, AHeap.new room, [], [], [], .slice none 0 0, Nat.zero_le _, rfl, ⟨AHeap.new_ok _ (by omega) (by omega) _, rfl, by simp [AHeap.new, AHeap.live], owned_new room⟩, Nat.le_refl _, HS.out⟩
      case round =>
        obtain ⟨k, H, E, Gs, ws, lv, hk, rfl, inv, hwl, S⟩ := hrel
        clear HS
        unfold ownL at S
        obtain ⟨la, lcap, rfl, _⟩ := (S.pull 6).own_form
        by_cases hlt : k < l.length
        · obtain ⟨⟨d, vp⟩, hp⟩ : ∃ p, l[k]? = some p := ⟨_, List.getElem?_eq_getElem hlt⟩
          have hE := HD.out.each _ (List.mem_of_getElem? hp)
          simp only at hE
          obtain ⟨b, off, rfl⟩ := rd_some HD.out.row (by omega)
          obtain ⟨va, vcap, rfl⟩ := rd_form hE.1
          obtain ⟨q0, q1, q2, q3, q4, q5, q6, q7, q8, q9, q10, q11, q12, q13, q14⟩ := rd_do (HD.out.row.st S) hp
          simp only at q0 q1 q2 q3 q4 q5 q6 q7 q8 q9 q10 q11 q12 q13 q14
          have S1 := S.allocC (dCells (d, .slice va d.c.ws.length vcap)).toArray 38
          have HS := Lib.hid S1
          have HE := Lib.hid hE
          have HI := Lib.hid inv
          have hwl4 : ws.length ≤ 1000000 := by omega
          clear S S1 hE hp inv
          go_upto_region 15 with fail
          generalize wr.heap.size = b12 at HS ⊢
          clear q0 q1 q2 q3 q4 q5 q6 q7 q8 q9 q10 q11 q12 q13 q14
          refine abs_wp HS.out ?_
          clear HS
          intro w5 S
          -- [b12, heap, b7, b8, b9, mD, mG, words, ent]
          have d12 := S.cell
          have d9 := (S.pull 4).cell
          simp only [dCells] at d12
          have HS := Lib.hid S
          clear S
          go_wp2_with fail
          refine (meant_x ws la lcap d va d.c.ws.length vcap _ (HS.out.pull 7).own_rd hwl4).mono ?_
          rintro e w6 ⟨rfl, hb⟩
          have S := HS.out.mono hb
          clear HS hb d12 d9
          generalize hmw : meantW ws d = y at S ⊢
          clear hmw
          have S := S.allocC #[Value.int .u8 y.k, .int .i64 y.n, .string y.s, .int .i64 y.g] 36
          -- [b13, b12, heap, b7, b8, b9, mD, mG, words, ent]
          obtain ⟨al, c0, v0, MN, hget⟩ := meant_of HI.out y
          obtain ⟨a0, cp0, rfl⟩ : ∃ a0 cp0, v0 = .slice a0 c0.ws.length cp0 := by
            cases al with
            | true => exact (S.pull 9).ent_form (MN.yes rfl).1
            | false => obtain ⟨_, _, rfl, rfl⟩ := MN.no rfl; exact ⟨_, _, rfl⟩
          have hl := ((S.pull 6).map_lookup word_law Try.underlying58 (zero34 _) y).1
          have hl2 : ((getA y (hasL E)).getD (Value.agg #[.int .u8 0, .int .i64 0, .slice none 0 0]), (getA y (hasL E)).isSome) = (cv c0 (.slice a0 c0.ws.length cp0), al) := by
            rw [hget]
            cases al with
            | true => rfl
            | false =>
              obtain ⟨_, _, h1, h2⟩ := MN.no rfl
              rw [h2, h1]; rfl
          simp only [Prod.mk.injEq] at hl2
          rw [hl2.1, hl2.2] at hl
          unfold wv cv at hl
          clear hl2 hget
          have d13 := S.cell
          have d7 := (S.pull 3).cell
          have S := S.allocC #[Value.int .u8 c0.k, .int .i64 c0.n, .slice a0 c0.ws.length cp0] 34
          have HS := Lib.hid S
          have HM := Lib.hid MN
          clear S MN
          simp only [wv]
          go_upto_region 17 with fail
          simp only [World.size_alloc] at HS ⊢
          generalize w6.heap.size = b13 at HS ⊢
          generalize hb14 : b13 + 1 = b14 at HS ⊢
          clear hl d13 d7 hb14
          refine abs_wp HS.out ?_
          clear HS
          intro w7 S
          -- [b14, b13, b12, heap, b7, b8, b9, mD, mG, words, ent]
          have d12 := (S.pull 2).cell
          simp only [dCells] at d12
          have HS := Lib.hid S
          clear S
          have hE1 := fun (w' : World) (L : List HProp) (q : St w w' L) => HE.out.1.st q
          have HE1 := Lib.hid hE1
          clear hE1
          have hlen : d.c.ws.length ≤ maxLen := HE.out.2
          go_upto_block 2 with fail
          clear d12
          refine cut_by (fun J K' hJ hK' => owned_switch l w _ room k p b7 b8 b9 r1 r2 b12 b13 b14 d va vcap la lcap ws H E Gs y al c0 a0 cp0 hl400 hlt hwl hlen HI HM HE1 HS _ _ _ _ _ _ _ _ _ _ _ _ _ _ _ _ _ _ _ _ _ _ _ _ _ _ _ _ _ _ _ _ _ _ _ _ _ _ _ _ _ _ _ _ _ _ _ _ _ _ _ _ _ _ _ _ _ _ _ _ _ _ _ _ _ _ _ _ _ _ _ _ _ _ _ _ _ _ _ _ _ _ _ _ _ _ _ _ _ _ _ _ _ _ _ _ _ _ _ _ _ _ _ _ _ _ _ _ _ _ _ _ _ _ _ _ _ _ _ _ _ _ _ _ _ _ _ _ _ _ _ _ _ _ _ _ _ _ _ _ _ _ _ _ _ _ _ _ _ _ _ _ _ _ _ _ _ _ _ _ _ _ _ _ _ _ _ _ _ _ _ _ _ _ _ _ _ _ _ _ _ _ _ _ _ _ _ _ _ _ _ _ _ _ _ _ _ _ _ _ _ _ _ _ _ _ _ _ _ _ _ _ _ _ _ _ _ _ _ _ _ _ _ _ _ _ _ _ _ _ _ _ _ _ _ _ _ _ _ _ _ _ _ _ _ _ _ _ _ _ _ J K' hJ hK' _ (fun c d v a w h => by cases d <;> exact h)) ?_
          clear HS HI HM
          intro a' wc hcut
          unfold PFO at hcut
          obtain ⟨u16, hcut⟩ := hcut
          obtain ⟨u17, hcut⟩ := hcut
          obtain ⟨u18, hcut⟩ := hcut
          obtain ⟨u19, hcut⟩ := hcut
          obtain ⟨u20, hcut⟩ := hcut
          obtain ⟨u21, hcut⟩ := hcut
          obtain ⟨u22, hcut⟩ := hcut
          obtain ⟨u23, hcut⟩ := hcut
          obtain ⟨u24, hcut⟩ := hcut
          obtain ⟨u25, hcut⟩ := hcut
          obtain ⟨u63, hcut⟩ := hcut
          obtain ⟨u64, hcut⟩ := hcut
          obtain ⟨u65, hcut⟩ := hcut
          obtain ⟨u66, hcut⟩ := hcut
          obtain ⟨u67, hcut⟩ := hcut
          obtain ⟨u68, hcut⟩ := hcut
          obtain ⟨u69, hcut⟩ := hcut
          obtain ⟨u70, hcut⟩ := hcut
          obtain ⟨u71, hcut⟩ := hcut
          obtain ⟨u72, hcut⟩ := hcut
          obtain ⟨u73, hcut⟩ := hcut
          obtain ⟨u74, hcut⟩ := hcut
          obtain ⟨u75, hcut⟩ := hcut
          obtain ⟨u76, hcut⟩ := hcut
          obtain ⟨u77, hcut⟩ := hcut
          obtain ⟨u78, hcut⟩ := hcut
          obtain ⟨u79, hcut⟩ := hcut
          obtain ⟨u80, hcut⟩ := hcut
          obtain ⟨u81, hcut⟩ := hcut
          obtain ⟨u82, hcut⟩ := hcut
          obtain ⟨u83, hcut⟩ := hcut
          obtain ⟨u84, hcut⟩ := hcut
          obtain ⟨u85, hcut⟩ := hcut
          obtain ⟨u86, hcut⟩ := hcut
          obtain ⟨u87, hcut⟩ := hcut
          obtain ⟨u88, hcut⟩ := hcut
          obtain ⟨u89, hcut⟩ := hcut
          obtain ⟨u90, hcut⟩ := hcut
          obtain ⟨u91, hcut⟩ := hcut
          obtain ⟨u92, hcut⟩ := hcut
          obtain ⟨u93, hcut⟩ := hcut
          obtain ⟨u94, hcut⟩ := hcut
          obtain ⟨u95, hcut⟩ := hcut
          obtain ⟨u96, hcut⟩ := hcut
          obtain ⟨u97, hcut⟩ := hcut
          obtain ⟨u98, hcut⟩ := hcut
          obtain ⟨u99, hcut⟩ := hcut
          obtain ⟨u100, hcut⟩ := hcut
          obtain ⟨u101, hcut⟩ := hcut
          obtain ⟨u102, hcut⟩ := hcut
          obtain ⟨u103, hcut⟩ := hcut
          obtain ⟨u104, hcut⟩ := hcut
          obtain ⟨u105, hcut⟩ := hcut
          obtain ⟨u106, hcut⟩ := hcut
          obtain ⟨u107, hcut⟩ := hcut
          obtain ⟨u108, hcut⟩ := hcut
          obtain ⟨u109, hcut⟩ := hcut
          obtain ⟨u110, hcut⟩ := hcut
          obtain ⟨u111, hcut⟩ := hcut
          obtain ⟨u112, hcut⟩ := hcut
          obtain ⟨u113, hcut⟩ := hcut
          obtain ⟨u114, hcut⟩ := hcut
          obtain ⟨u115, hcut⟩ := hcut
          obtain ⟨u116, hcut⟩ := hcut
          obtain ⟨u117, hcut⟩ := hcut
          obtain ⟨u118, hcut⟩ := hcut
          obtain ⟨u119, hcut⟩ := hcut
          obtain ⟨u120, hcut⟩ := hcut
          obtain ⟨u121, hcut⟩ := hcut
          obtain ⟨u122, hcut⟩ := hcut
          obtain ⟨u123, hcut⟩ := hcut
          obtain ⟨u124, hcut⟩ := hcut
          obtain ⟨u125, hcut⟩ := hcut
          obtain ⟨u126, hcut⟩ := hcut
          obtain ⟨u127, hcut⟩ := hcut
          obtain ⟨u128, hcut⟩ := hcut
          obtain ⟨u129, hcut⟩ := hcut
          obtain ⟨u130, hcut⟩ := hcut
          obtain ⟨u131, hcut⟩ := hcut
          obtain ⟨u132, hcut⟩ := hcut
          obtain ⟨u133, hcut⟩ := hcut
          obtain ⟨u134, hcut⟩ := hcut
          obtain ⟨u135, hcut⟩ := hcut
          obtain ⟨u136, hcut⟩ := hcut
          obtain ⟨u137, hcut⟩ := hcut
          obtain ⟨u138, hcut⟩ := hcut
          obtain ⟨u139, hcut⟩ := hcut
          obtain ⟨u140, hcut⟩ := hcut
          obtain ⟨u141, hcut⟩ := hcut
          obtain ⟨u142, hcut⟩ := hcut
          obtain ⟨u143, hcut⟩ := hcut
          obtain ⟨u144, hcut⟩ := hcut
          obtain ⟨u145, hcut⟩ := hcut
          obtain ⟨u146, hcut⟩ := hcut
          obtain ⟨u147, hcut⟩ := hcut
          obtain ⟨u148, hcut⟩ := hcut
          obtain ⟨u149, hcut⟩ := hcut
          obtain ⟨u150, hcut⟩ := hcut
          obtain ⟨u151, hcut⟩ := hcut
          obtain ⟨u152, hcut⟩ := hcut
          obtain ⟨u153, hcut⟩ := hcut
          obtain ⟨u154, hcut⟩ := hcut
          obtain ⟨u155, hcut⟩ := hcut
          obtain ⟨u156, hcut⟩ := hcut
          obtain ⟨u157, hcut⟩ := hcut
          obtain ⟨u158, hcut⟩ := hcut
          obtain ⟨u159, hcut⟩ := hcut
          obtain ⟨u160, hcut⟩ := hcut
          obtain ⟨u161, hcut⟩ := hcut
          obtain ⟨u162, hcut⟩ := hcut
          obtain ⟨u163, hcut⟩ := hcut
          obtain ⟨u164, hcut⟩ := hcut
          obtain ⟨u165, hcut⟩ := hcut
          obtain ⟨u166, hcut⟩ := hcut
          obtain ⟨u167, hcut⟩ := hcut
          obtain ⟨u168, hcut⟩ := hcut
          obtain ⟨u169, hcut⟩ := hcut
          obtain ⟨u170, hcut⟩ := hcut
          obtain ⟨u171, hcut⟩ := hcut
          obtain ⟨u172, hcut⟩ := hcut
          obtain ⟨u173, hcut⟩ := hcut
          obtain ⟨u174, hcut⟩ := hcut
          obtain ⟨u175, hcut⟩ := hcut
          obtain ⟨u176, hcut⟩ := hcut
          obtain ⟨u177, hcut⟩ := hcut
          obtain ⟨u178, hcut⟩ := hcut
          obtain ⟨u179, hcut⟩ := hcut
          obtain ⟨u180, hcut⟩ := hcut
          obtain ⟨u181, hcut⟩ := hcut
          obtain ⟨u182, hcut⟩ := hcut
          obtain ⟨u183, hcut⟩ := hcut
          obtain ⟨u184, hcut⟩ := hcut
          obtain ⟨u185, hcut⟩ := hcut
          obtain ⟨u186, hcut⟩ := hcut
          obtain ⟨u187, hcut⟩ := hcut
          obtain ⟨u188, hcut⟩ := hcut
          obtain ⟨u189, hcut⟩ := hcut
          obtain ⟨u190, hcut⟩ := hcut
          obtain ⟨u191, hcut⟩ := hcut
          obtain ⟨u192, hcut⟩ := hcut
          obtain ⟨u193, hcut⟩ := hcut
          obtain ⟨u194, hcut⟩ := hcut
          obtain ⟨u195, hcut⟩ := hcut
          obtain ⟨u196, hcut⟩ := hcut
          obtain ⟨u197, hcut⟩ := hcut
          obtain ⟨u198, hcut⟩ := hcut
          obtain ⟨u199, hcut⟩ := hcut
          obtain ⟨u200, hcut⟩ := hcut
          obtain ⟨u201, hcut⟩ := hcut
          obtain ⟨u202, hcut⟩ := hcut
          obtain ⟨u203, hcut⟩ := hcut
          obtain ⟨u204, hcut⟩ := hcut
          obtain ⟨u205, hcut⟩ := hcut
          obtain ⟨u206, hcut⟩ := hcut
          obtain ⟨u207, hcut⟩ := hcut
          obtain ⟨u208, hcut⟩ := hcut
          obtain ⟨u209, hcut⟩ := hcut
          obtain ⟨u210, hcut⟩ := hcut
          obtain ⟨u211, hcut⟩ := hcut
          obtain ⟨u212, hcut⟩ := hcut
          obtain ⟨u213, hcut⟩ := hcut
          obtain ⟨u214, hcut⟩ := hcut
          obtain ⟨u215, hcut⟩ := hcut
          obtain ⟨u216, hcut⟩ := hcut
          obtain ⟨u217, hcut⟩ := hcut
          obtain ⟨u218, hcut⟩ := hcut
          obtain ⟨u219, hcut⟩ := hcut
          obtain ⟨u220, hcut⟩ := hcut
          obtain ⟨u221, hcut⟩ := hcut
          obtain ⟨u222, hcut⟩ := hcut
          obtain ⟨u223, hcut⟩ := hcut
          obtain ⟨u224, hcut⟩ := hcut
          obtain ⟨u225, hcut⟩ := hcut
          obtain ⟨u226, hcut⟩ := hcut
          obtain ⟨hcut, rfl⟩ := hcut
          obtain ⟨H2, E2, Gs2, ws2, lv2, inv2, hwl2, S⟩ := hcut
          unfold ownL at S
          have hEl := inv2.len
          have hl0 : 0 ≤ H2.live := by rw [inv2.ok.live_eq]; omega
          have hF : ∀ (w' : World) {L : List HProp} {b8 b9 r2 : Nat}, St w w' (heapAt p H2 :: cellsB b7 #[.map (some r1)] 58 :: cellsB b8 #[.map (some r2)] 59 :: cellsB b9 #[lv2] 32 :: mapB wv r1 (hasL E2) :: L) → (∀ o, w'.cell? ⟨b7, o, none⟩ = #[Value.map (some r1)][o]?) ∧ ∀ ty, (Builtin.len_ #[58] ty #[.map (some r1)]).run Try.prog w' = .ok (.int .i64 E2.length) w' := by
            intro w' L b8 b9 r2 S
            refine ⟨(S.pull 1).cell, fun ty => ?_⟩
            have := (S.pull 4).map_len_run Try.underlying58 ty
            rwa [has_len] at this
          have HI2 := Lib.hid inv2
          have HEL := Lib.hid hEl
          have HFF := Lib.hid (fun w' => @hF w')
          clear inv2 hF hEl
          have HS := Lib.hid S
          clear S
          go_upto_region 48 with fail
          refine wp_region_st HS.out [0, 2, 1, 3, 4] (fun w' => (∀ o, w'.cell? ⟨b7, o, none⟩ = #[Value.map (some r1)][o]?) ∧ ∀ ty, (Builtin.len_ #[58] ty #[.map (some r1)]).run Try.prog w' = .ok (.int .i64 E2.length) w') [2, 3] [1] [] (by kernel_rfl) (by kernel_rfl) (fun c d v a w h => by cases d <;> exact h) ?_
          clear HS
          intro w5 S
          have HF := Lib.hid (HFF.out _ S)
          iterate 2
            (first
              | refine walk_load rfl rfl rfl HF.out rfl (by rintro w' ⟨g0, g1⟩; go_simp; with_reducible rfl) ?_
              | refine walk_pure rfl rfl rfl rfl (by intro w'; go_simp; with_reducible rfl) ?_)
            simp only [List.getElem_toArray, List.getElem_cons_zero, List.getElem_cons_succ, Act.put, List.setIfInBounds_toArray, List.set_cons_zero, List.set_cons_succ]
          refine walk_do rfl rfl rfl (fun K hK => ?_)
          go_simp
          refine (live_c S).mono ?_
          rintro e wx ⟨rfl, m1, rfl⟩
          have S := S.drewN m1
          generalize World.drewN _ m1 = wd1 at S ⊢
          rw [← HEL.out]
          clear HF
          have HF := Lib.hid (HFF.out _ S)
          refine hK _ _ (fun _ => HF.out) ?_
          clear hK K
          try simp only [List.getElem_toArray, List.getElem_cons_zero, List.getElem_cons_succ, Act.put, List.setIfInBounds_toArray, List.set_cons_zero, List.set_cons_succ]
          iterate 2
            (first
              | refine walk_load rfl rfl rfl HF.out rfl (by rintro w' ⟨g0, g1⟩; go_simp; with_reducible rfl) ?_
              | refine walk_pure rfl rfl rfl rfl (by intro w'; go_simp; with_reducible rfl) ?_)
            simp only [List.getElem_toArray, List.getElem_cons_zero, List.getElem_cons_succ, Act.put, List.setIfInBounds_toArray, List.set_cons_zero, List.set_cons_succ]
          refine walk_nil ?_
          have HS := Lib.hid S
          clear S HF
          go_wp2_with fail
          refine ⟨?_, by simp [intOf]; omega⟩
          (repeat apply Exists.intro)
          exact ⟨⟨k + 1, H2, E2, Gs2, ws2, lv2, by omega, by go_num, HI2.out, hwl2, HS.out⟩, rfl⟩
        · have hcl := cells_len inv.ok
          have hl1 : H.live ≤ 100000 := by have := inv.le; have := inv.ok.most1; omega
          have hcm : H.cells.length ≤ 100000 := by omega
          have HI := Lib.hid inv
          have HS := Lib.hid S
          clear S inv hcl hl1
          go_wp2_with fail
          refine (cells_c HS.out HI.out.ok).mono ?_
          rintro e w8 ⟨vc, rfl, S8⟩
          obtain ⟨vca, vcc, rfl, _⟩ := St.own_form S8
          have S := HS.out.chain S8
          clear HS S8
          simp only [List.cons_append, List.nil_append] at S
          -- [vc, heap, b7, b8, b9, mD, mG, words, ent]
          have HS := Lib.hid (((((S.pull 3).tail.pull 3).tail.pull 4).tail).pull 4).tail
          clear S
          go_wp2_with fail
          go_loopw [236] (fun i wr => EndRel w H E p b7 r1 (.slice vca H.cells.length vcc) i wr) (fun i _ => H.cells.length - (intOf i).toNat)
          case atStart =>
            exact ⟨0, E, Nat.zero_le _, rfl, drained_zero HI.out, HS.out⟩
          case round =>
            obtain ⟨j, D, hj, rfl, hd, S⟩ := hrel
            clear HS
            by_cases hjl : j < H.cells.length
            · obtain ⟨x, hx⟩ : ∃ x, H.cells[j]? = some x := ⟨_, List.getElem?_eq_getElem hjl⟩
              obtain ⟨c, v0, g1, g2, g3, hcw, hd2⟩ := drained_step HI.out hd hx
              obtain ⟨b3, o3, rfl⟩ := rd_some S.own_rd (by omega)
              obtain ⟨f0, f1, f2, f3⟩ := rd_word S.own_rd hx
              obtain ⟨a0, cp0, e0⟩ := (S.pull 4).ent_form g1
              simp only at e0
              subst e0
              have S1 := S.allocC #[Value.int .u8 x.k, .int .i64 x.n, .string x.s, .int .i64 x.g] 36
              have HS := Lib.hid S1
              have HD2 := Lib.hid hd2
              have HG := Lib.hid (And.intro g1 g2)
              clear S S1 hd hd2 hx g1 g2
              go_wp2_with fail
              have ac := get_c (HS.out.pull 2) HI.out.ok x
              unfold GetPost at ac
              rw [g3] at ac
              refine ac.mono ?_
              clear ac g3
              rintro e w12 ⟨v1, rfl, S⟩
              obtain ⟨a1, cp1, rfl, _⟩ := St.own_form S
              simp only at S ⊢
              generalize wr.heap.size = b27 at S ⊢
              -- [v1, heap, b27, vc, b7, mD, ent]
              have S := S.allocC #[Value.int .u8 c.k, .int .i64 c.n, .slice a1 c.ws.length cp1] 34
              clear HS f0 f1 f2 f3
              have HS := Lib.hid S
              clear S
              go_upto_region 55 with fail
              generalize w12.heap.size = b28 at HS ⊢
              -- [b28, v1, heap, b27, vc, b7, mD, ent]
              refine wp_region_st HS.out [0, 1, 2, 3, 4, 5, 6, 7, 8, 9] (fun w' => (∀ o, w'.cell? ⟨b28, o, none⟩ = #[Value.int .u8 c.k, .int .i64 c.n, .slice a1 c.ws.length cp1][o]?) ∧ (∀ o, w'.cell? ⟨b7, o, none⟩ = #[Value.map (some r1)][o]?) ∧ (∀ o, w'.cell? ⟨b27, o, none⟩ = #[Value.int .u8 x.k, .int .i64 x.n, .string x.s, .int .i64 x.g][o]?)) [3, 4, 5] [6, 7] [7] (by kernel_rfl) (by kernel_rfl) (fun c d v a w h => by cases d <;> exact h) ?_
              clear HS
              intro w13 S
              have HF := Lib.hid (And.intro S.cell (And.intro (S.pull 5).cell (S.pull 3).cell))
              iterate 6
                (first
                  | refine walk_load rfl rfl rfl HF.out rfl (by rintro w' ⟨g0, g1, g2⟩; go_simp; with_reducible rfl) ?_
                  | refine walk_pure rfl rfl rfl rfl (by intro w'; go_simp; with_reducible rfl) ?_)
                simp only [List.getElem_toArray, List.getElem_cons_zero, List.getElem_cons_succ, Act.put, List.setIfInBounds_toArray, List.set_cons_zero, List.set_cons_succ]
              have hl := ((S.pull 6).map_lookup word_law Try.underlying58 (zero34 _) x).2
              rw [getA_has, HG.out.2] at hl
              simp only [Option.map_some, Option.getD_some] at hl
              unfold wv cv at hl
              refine walk_do rfl rfl rfl (fun K hK => ?_)
              go_simp
              refine hK _ _ (fun _ => HF.out) ?_
              clear hK K hl HF
              try simp only [List.getElem_toArray, List.getElem_cons_zero, List.getElem_cons_succ, Act.put, List.setIfInBounds_toArray, List.set_cons_zero, List.set_cons_succ]
              obtain ⟨jj, hjj, _, _⟩ := getA_get HG.out.1
              refine walk_do rfl rfl rfl (fun K hK => ?_)
              go_simp
              refine (same_c c _ _ _ (S.pull 1).own_rd ((S.pull 7).ent_rd hjj) (by unfold maxLen; omega)).mono ?_
              clear hjj
              rintro e w14 ⟨rfl, hb⟩
              have S := S.mono hb
              clear hb
              refine hK _ _ (fun q => by cases q) ?_
              clear hK K
              try simp only [List.getElem_toArray, List.getElem_cons_zero, List.getElem_cons_succ, Act.put, List.setIfInBounds_toArray, List.set_cons_zero, List.set_cons_succ]
              iterate 2
                refine walk_pure rfl rfl rfl rfl (by intro w'; go_simp; with_reducible rfl) ?_
                try simp only [List.getElem_toArray, List.getElem_cons_zero, List.getElem_cons_succ, Act.put, List.setIfInBounds_toArray, List.set_cons_zero, List.set_cons_succ]
              refine walk_nil ?_
              have HS := Lib.hid S
              clear S
              go_upto_region 57 with fail
              have d7 := (HS.out.pull 5).cell
              have d27 := (HS.out.pull 3).cell
              obtain ⟨w15, hrun, S⟩ := (HS.out.pull 6).map_delete word_law Try.underlying58 x
              unfold wv at hrun
              clear HS
              have HS := Lib.hid S
              clear S
              go_wp2_with fail
              have S := HS.out
              rw [← hasL_del] at S
              -- [mD', b28, v1, heap, b27, vc, b7, ent]
              have S := ((((S.pull 1).tail.pull 1).tail).pull 2).tail
              -- [mD', heap, vc, b7, ent]
              exact ⟨⟨j + 1, delA x D, by omega, by go_num, HD2.out, ((S.pull 3).pull 2).pull 3⟩, by simp [intOf]; omega⟩
            · have hdl : D.length = 0 := by have := hd.len; omega
              have hln := (S.pull 3).map_len_run Try.underlying58
              rw [has_len, hdl] at hln
              have d7 := (S.pull 2).cell
              have HS := Lib.hid S
              clear S hdl hd
              go_wp2_with fail
              go_ret
              exact ⟨rfl, HS.out.below⟩

end Go.Proofs.Ytciciaikajdenaa

