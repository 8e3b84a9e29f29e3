/- HeapCounts: the walk. -/
import Derived.Test.YtciciaikajdenaaD2
import Derived.Test.YtciciaikajdenaaH6M
import Derived.Test.YtciciaikajdenaaOrd2
import Derived.Deep.CutBlock
set_option linter.unusedSimpArgs false
set_option linter.unusedVariables false
namespace Go.Proofs.Ytciciaikajdenaa
open Go.RowKit

/-- While the script runs. -/
def CountRel (w : World) (room : Int) (p m : Nat) (v t8 i : Value) (wr : World) : Prop :=
  ∃ (k : Nat) (H : AHeap) (ws : List AWord), k ≤ m ∧ i = .int .i64 k ∧ t8 = .int .i64 H.most ∧ H.Ok (10 + k) ∧ H.room = room ∧ H.live ≤ H.most ∧ ws.length ≤ k ∧ St w wr [heapAt p H, wordsOwn v ws]

/-- Behind the call that a row of the script is. -/
def CountMid (w : World) (room : Int) (p k : Nat) (most : Int) (v : Value) (wr : World) : Prop :=
  ∃ (H : AHeap) (ws : List AWord), H.Ok (10 + (k + 1 : Nat)) ∧ H.room = room ∧ H.live ≤ H.most ∧ H.most = max most H.live ∧ ws.length ≤ k + 1 ∧ St w wr [heapAt p H, wordsOwn v ws]

theorem St.fst3 {W0 w : World} {P Q R : HProp} {L : List HProp} (h : St W0 w (P :: Q :: R :: L)) : St W0 w [P, Q, R] :=
  h.conv fun _ s => starL_cons (fun _ x => x) (fun _ s => starL_cons (fun _ x => x) (fun _ s => starL_cons (fun _ x => x) (fun _ _ => trivial) s) s) s

/-- While the copy's cells are freed. -/
def EmptyRel (w : World) (H : AHeap) (B : Int) (p q : Nat) (v i : Value) (wr : World) : Prop :=
  ∃ (j : Nat) (C : AHeap), j ≤ H.cells.length ∧ i = .int .i64 j ∧ Emptied H C B j ∧ St w wr [heapAt q C, heapAt p H, wordsOwn v H.cells]

/-- Behind a Renew whose word is not noted yet. -/
def CountMid4 (w : World) (room : Int) (p k : Nat) (most : Int) (ws : List AWord) (v v13 : Value) (wr : World) : Prop :=
  ∃ (b : Nat) (H : AHeap) (x : AWord), v13 = .pointer (some ⟨b, 0, none⟩) ∧ H.Ok (10 + (k + 1 : Nat)) ∧ H.room = room ∧ H.live ≤ H.most ∧ H.most = max most H.live ∧
    St w wr [cellsB b #[.int .u8 x.k, .int .i64 x.n, .string x.s, .int .i64 x.g] 36, heapAt p H, wordsOwn v ws]

set_option maxRecDepth 100000 in
set_option maxHeartbeats 40000000 in
theorem counts_c (room : Int) (v : Value) (l : List (ADo × Value)) (w : World) (h : DosIn w v l) :
    Calls Try.prog 6 #[.int .i64 room, v] w fun e w' => KnownPost w e w' := by
  obtain ⟨a, cap, rfl⟩ := rd_form h.row
  have hmax := h.max
  unfold maxLen at hmax
  have HD := Lib.hid h
  clear h
  go_enter Try.func6, Try.ntmps6
  go_wp2_with (go_at_call 13; refine (known_c _).mono ?_; rintro e w1 ⟨rfl, hb⟩)
  refine (heavy_c _ l w1 (HD.out.mono hb)).mono ?_
  rintro e w2 ⟨b, rfl, hlight, hb2⟩
  have hb3 := hb.trans (hb2.mono hb.size)
  have HB := Lib.hid hb3
  clear hb hb2 hb3
  cases b with
  | true =>
    go_wp2_with fail
    go_ret
    exact ⟨rfl, HB.out⟩
  | false =>
    obtain ⟨hl400, hws⟩ := hlight rfl
    clear hlight
    have HWS := Lib.hid hws
    clear hws
    go_wp2_with fail
    by_cases hroom : room < 0 ∨ 100000 < room
    · refine (new_bad room w2 hroom).mono ?_
      rintro e w3 ⟨rfl, rfl⟩
      go_wp2_with fail
      go_ret
      exact ⟨rfl, HB.out⟩
    · refine (new_ok room w2 (by omega) (by omega)).mono ?_
      rintro e w3 ⟨p, rfl, S⟩
      have S := ((St.refl w).mono HB.out).chain S
      have HS := Lib.hid S
      clear S
      go_wp2_with fail
      go_loopw [7, 8, 35] (fun v t8 i wr => CountRel w room p l.length v t8 i wr) (fun _ _ i _ => l.length - (intOf i).toNat)
      case atStart =>
        refine ⟨0, AHeap.new room, [], Nat.zero_le _, rfl, rfl, AHeap.new_ok _ (by omega) (by omega) _, rfl, by simp [AHeap.new, AHeap.live], Nat.le_refl _, ?_⟩
        have S := HS.out.own_nil (T := 36) (sz := 4)
        exact S.pull 1
      case round =>
        obtain ⟨k, H, ws, hk, rfl, rfl, ok, hrm, hlm, hwl, S⟩ := hrel
        clear HS
        by_cases hlt : k < l.length
        · obtain ⟨⟨d, vp⟩, hp⟩ : ∃ p, l[k]? = some p := ⟨_, List.getElem?_eq_getElem hlt⟩
          have hE := HD.out.each _ (List.mem_of_getElem? hp)
          simp only at hE
          obtain ⟨b, off, rfl⟩ := rd_some HD.out.row (by omega)
          obtain ⟨va, vcap, rfl⟩ := rd_form hE.1
          obtain ⟨q0, q1, q2, q3, q4, q5, q6, q7, q8, q9, q10, q11, q12, q13, q14⟩ := rd_do (HD.out.row.st S) hp
          simp only at q0 q1 q2 q3 q4 q5 q6 q7 q8 q9 q10 q11 q12 q13 q14
          have S1 := S.allocC (dCells (d, .slice va d.c.ws.length vcap)).toArray 38
          obtain ⟨vw, wcap, rfl, _⟩ := (S.pull 1).own_form
          have HS := Lib.hid S1
          have HE := Lib.hid hE
          have HK := Lib.hid (And.intro ok (And.intro hrm (And.intro hlm hwl)))
          clear S S1 hE hp ok hrm hlm hwl
          go_upto_block 2 with fail
          generalize wr.heap.size = b10 at HS ⊢
          clear q0 q1 q2 q3 q4 q5 q6 q7 q8 q9 q10 q11 q12 q13 q14
          go_cut [7, 11, 12, 13, 14, 35] from 35 to 118 (fun v _ _ _ _ i wx => i = .int .i64 k ∧ CountMid w room p k H.most v wx)
          case first =>
            refine abs_wp HS.out ?_
            clear HS
            intro w9 S
            have d10 := S.cell
            simp only [dCells] at d10
            have HS := Lib.hid S
            clear S
            have hE1 := fun (w' : World) (L : List HProp) (q : St w w' L) => HE.out.1.st q
            have HE1 := Lib.hid hE1
            clear hE1
            by_cases k0 : d.kind = 0
            · have kb : (d.kind == 0) = true := by simp [k0]
              clear k0
              go_wp2_with fail
              refine (alloc_c (HS.out.pull 1) HK.out.1 d.c (.slice va d.c.ws.length vcap) (fun w' q => HE1.out _ _ q) (by have := HE.out.2; exact this)).mono ?_
              rintro e w5 ⟨rfl, S⟩
              have kp := alloc_keeps HK.out.1 (by omega) HK.out.2.2.1 d.c
              generalize H.alloc d.c = r at S kp ⊢
              obtain ⟨⟨x, ee⟩, H5⟩ := r
              simp only at S kp ⊢
              have S := S.allocC #[Value.int .u8 x.k, .int .i64 x.n, .string x.s, .int .i64 x.g] 36
              have KP := Lib.hid kp
              clear HS d10 kp
              have HS := Lib.hid S
              clear S
              simp only [wv]
              go_upto_region 16 with fail
              generalize w5.heap.size = b11 at HS ⊢
              have d11 := HS.out.cell
              have S1 := HS.out.allocC #[Value.int .u8 x.k, .int .i64 x.n, .string x.s, .int .i64 x.g] 36
              simp only [World.size_alloc] at S1
              obtain ⟨ii, hi1, hz0, hz1, hz2⟩ := info_parts info36
              have hwl4 : ws.length ≤ 400 := by have := HK.out.2.2.2; omega
              have A := Lib.hid fun o rest ops Q x' => wpList_append_st (P := Try.prog) (o := o) (rest := rest) (ops := ops) (Q := Q) (a := x') (S1.pull 4) (rd_cells (sz := 4) (n := 1) (cap := 1) S1 (Nat.le_refl _) rfl) (one_flatW [x]) hi1 hz0 hz1 hz2 rfl (by unfold maxLen; omega) (by omega) Try.underlying32
              clear S1 hi1 hz0 hz1 hz2 hwl4
              go_wp2_with (at_builtin; refine A.out _ _ _ _ _ _ _ rfl rfl rfl rfl ?_; intro v' w1 S1 _; have S1 := Lib.hid S1)
              go_meet
              case rel =>
                have S2 := (((S1.out.pull 1).tail.pull 1).tail.pull 2).tail.pull 1
                refine ⟨rfl, H5, ws ++ [x], KP.out.ok.mono (by omega), by rw [KP.out.room]; exact HK.out.2.1, KP.out.le, KP.out.most, by have := HK.out.2.2.2; simp; omega, ?_⟩
                unfold wordsOwn
                rw [List.length_append, show flatW (ws ++ [x]) = flatW ws ++ flatW [x] from List.flatMap_append]
                exact S2
            · have kb0 : (d.kind == 0) = false := by simp [k0]
              have K0 := Lib.hid k0
              clear k0
              by_cases k2 : d.kind = 2
              · have kb2 : (d.kind == 2) = true := by simp [k2]
                clear k2
                go_upto_region 18 with fail
                refine wp_region_st HS.out [0, 1, 2, 4, 5, 6, 7, 3, 8] (fun w' => ∀ o, w'.cell? ⟨b10, o, none⟩ = (dCells (d, .slice va d.c.ws.length vcap)).toArray[o]?) [2, 5, 7] [3, 8] [] (by kernel_rfl) (by kernel_rfl) (fun c d v a w h => by cases d <;> exact h) ?_
                clear HS d10
                intro w5 S
                simp only [dCells] at S ⊢
                have HF := Lib.hid S.cell
                iterate 7
                  (first
                    | refine walk_load rfl rfl rfl HF.out rfl (by rintro w' g0; go_simp; with_reducible rfl) ?_
                    | refine walk_pure rfl rfl rfl rfl (by intro w'; go_simp; with_reducible rfl) ?_)
                  simp only [List.getElem_toArray, List.getElem_cons_zero, List.getElem_cons_succ, Act.put, List.setIfInBounds_toArray, List.set_cons_zero, List.set_cons_succ]
                refine walk_do rfl rfl rfl (fun K hK => ?_)
                go_simp
                have hwl4 : ws.length ≤ 1000000 := by have := HK.out.2.2.2; omega
                refine (meant_x ws vw wcap d va d.c.ws.length vcap _ (S.pull 2).own_rd hwl4).mono ?_
                rintro e w' ⟨rfl, hb⟩
                have S := S.mono hb
                clear hb HF
                have HF := Lib.hid S.cell
                refine hK _ _ (fun _ => HF.out) ?_
                clear hK K
                try simp only [List.getElem_toArray, List.getElem_cons_zero, List.getElem_cons_succ, Act.put, List.setIfInBounds_toArray, List.set_cons_zero, List.set_cons_succ]
                refine walk_do rfl rfl rfl (fun K hK => ?_)
                go_simp
                refine (set_c (S.pull 1) HK.out.1 (meantW ws d) d.i d.x).mono ?_
                rintro e w6 ⟨rfl, S⟩
                have kp := set_keeps HK.out.1 HK.out.2.2.1 (meantW ws d) d.i d.x
                generalize H.set (meantW ws d) d.i d.x = r at S kp ⊢
                clear HF
                have HF := Lib.hid (S.pull 1).cell
                refine hK _ _ (fun _ => HF.out) (walk_nil ?_)
                clear hK K HF
                have S := (S.pull 1).tail
                have HS := Lib.hid S
                clear S
                go_wp2_with fail
                go_meet
                case rel =>
                  exact ⟨rfl, r.2, ws, kp.ok.mono (by omega), by rw [kp.room]; exact HK.out.2.1, kp.le, kp.most, by have := HK.out.2.2.2; omega, HS.out⟩
              · have K2 := Lib.hid k2
                have kb2 : (d.kind == 2) = false := by simp [k2]
                clear k2
                have hwl4 : ws.length ≤ 1000000 := by have := HK.out.2.2.2; omega
                by_cases k3 : d.kind = 3
                · have kb3 : (d.kind == 3) = true := by simp [k3]
                  clear k3
                  go_wp2_with fail
                  refine (meant_x ws vw wcap d va d.c.ws.length vcap _ (HS.out.pull 2).own_rd hwl4).mono ?_
                  rintro e w' ⟨rfl, hb⟩
                  have S := HS.out.mono hb
                  clear hb HS d10
                  have HS := Lib.hid S
                  clear S
                  go_wp2_with fail
                  refine (drop_c (HS.out.pull 1) HK.out.1 (by omega) (meantW ws d)).mono ?_
                  rintro e w6 ⟨v6, rfl, S⟩
                  have kp := drop_keeps HK.out.1 HK.out.2.2.1 (meantW ws d)
                  generalize H.drop (meantW ws d) = r at S kp ⊢
                  have S := (S.tail.pull 1).tail
                  clear HS
                  have HS := Lib.hid S
                  clear S
                  go_wp2_with fail
                  go_meet
                  case rel =>
                    exact ⟨rfl, r.2, ws, kp.ok.mono (by omega), by rw [kp.room]; exact HK.out.2.1, kp.le, kp.most, by have := HK.out.2.2.2; omega, HS.out⟩
                · have K3 := Lib.hid k3
                  have kb3 : (d.kind == 3) = false := by simp [k3]
                  clear k3
                  by_cases k4 : d.kind = 4
                  · have kb4 : (d.kind == 4) = true := by simp [k4]
                    clear k4
                    go_upto_region 22 with fail
                    go_cut [13, 14] from 74 to 83 (fun v13 _ wx => CountMid4 w room p k H.most ws (.slice vw ws.length wcap) v13 wx)
                    case first =>
                      refine wp_region_tree HS.out (.one 0 (.one 1 (.one 2 (.one 4 (.one 5 (.fork 3 10 (.fork 6 10 (.list [7, 8, 9, 10, 11, 12]) (.list [6, 7, 8, 9, 11, 12])) (.list [3, 6, 7, 8, 9, 11, 12]))))))) (fun w' => ∀ o, w'.cell? ⟨b10, o, none⟩ = (dCells (d, .slice va d.c.ws.length vcap)).toArray[o]?) [2, 5] [3, 6, 10, 11] [] (by kernel_rfl) (by kernel_rfl) (fun c d v a w h => by cases d <;> exact h) ?_
                      clear HS d10
                      intro w5 S
                      simp only [dCells] at S ⊢
                      have HF := Lib.hid S.cell
                      iterate 5
                        (first
                          | refine tree_load rfl rfl rfl HF.out rfl (by rintro w' g0; go_simp; with_reducible rfl) ?_
                          | refine tree_pure rfl rfl rfl rfl (by intro w'; go_simp; with_reducible rfl) ?_)
                        simp only [List.getElem_toArray, List.getElem_cons_zero, List.getElem_cons_succ, Act.put, List.setIfInBounds_toArray, List.set_cons_zero, List.set_cons_succ]
                      have kp := renew_keeps HK.out.1 HK.out.2.2.1 (meantW ws d) d.c
                      have KP := Lib.hid kp
                      clear kp
                      refine tree_fork ?_ ?_
                      · refine fork_do rfl rfl (fun K hK => ?_)
                        go_simp
                        refine (meant_x ws vw wcap d va d.c.ws.length vcap _ (S.pull 2).own_rd hwl4).mono ?_
                        rintro e w' ⟨rfl, hb⟩
                        have S := S.mono hb
                        clear hb
                        clear HF
                        have HF := Lib.hid S.cell
                        refine hK _ _ (fun _ => HF.out) ?_
                        clear hK K
                        try simp only [List.getElem_toArray, List.getElem_cons_zero, List.getElem_cons_succ, Act.put, List.setIfInBounds_toArray, List.set_cons_zero, List.set_cons_succ]
                        refine tree_fork ?_ ?_
                        · refine fork_do rfl rfl (fun K hK => ?_)
                          go_simp
                          refine (renew_c (S.pull 1) HK.out.1 (by omega) (meantW ws d) d.c (.slice va d.c.ws.length vcap) (fun w' q => HE1.out _ _ q) (by have := HE.out.2; exact this)).mono ?_
                          rintro e w6 ⟨rfl, S⟩
                          generalize H.renew (meantW ws d) d.c = r at S KP ⊢
                          obtain ⟨⟨x, ee⟩, H5⟩ := r
                          simp only [wv] at S KP ⊢
                          clear HF
                          have HF := Lib.hid (S.pull 1).cell
                          refine hK _ _ (fun _ => HF.out) (tree_list ?_)
                          clear hK K
                          try simp only [List.getElem_toArray, List.getElem_cons_zero, List.getElem_cons_succ, Act.put, List.setIfInBounds_toArray, List.set_cons_zero, List.set_cons_succ]
                          iterate 3
                            (first
                              | refine walk_load rfl rfl rfl HF.out rfl (by rintro w' g0; go_simp; with_reducible rfl) ?_
                              | refine walk_pure rfl rfl rfl rfl (by intro w'; go_simp; with_reducible rfl) ?_)
                            simp only [List.getElem_toArray, List.getElem_cons_zero, List.getElem_cons_succ, Act.put, List.setIfInBounds_toArray, List.set_cons_zero, List.set_cons_succ]
                          have S := S.allocC #[Value.int .u8 0, .int .i64 0, .string ⟨#[]⟩, .int .i64 0] 36
                          refine walk_do rfl rfl rfl (fun K hK => ?_)
                          go_simp
                          generalize w6.heap.size = b13 at S ⊢
                          clear HF
                          have HF := Lib.hid (S.pull 2).cell
                          refine hK _ _ (fun _ => HF.out) ?_
                          clear hK K
                          try simp only [List.getElem_toArray, List.getElem_cons_zero, List.getElem_cons_succ, Act.put, List.setIfInBounds_toArray, List.set_cons_zero, List.set_cons_succ]
                          refine abs_walk S ?_
                          clear S HF
                          intro w8 S
                          have HF := Lib.hid (S.pull 2).cell
                          have S := S
                          have cp := S.cell
                          have fp := S.free
                          refine walk_do rfl rfl rfl (fun K hK => ?_)
                          go_simp
                          have S := (((S.set 0 (.int .u8 x.k)).set 1 (.int .i64 x.n)).set 2 (.string x.s)).set 3 (.int .i64 x.g)
                          simp only [List.setIfInBounds_toArray, List.set_cons_zero, List.set_cons_succ] at S
                          clear cp fp
                          clear HF
                          have HF := Lib.hid (S.pull 2).cell
                          refine hK _ _ (fun _ => HF.out) ?_
                          clear hK K
                          try simp only [List.getElem_toArray, List.getElem_cons_zero, List.getElem_cons_succ, Act.put, List.setIfInBounds_toArray, List.set_cons_zero, List.set_cons_succ]
                          iterate 1
                            (first
                              | refine walk_load rfl rfl rfl HF.out rfl (by rintro w' g0; go_simp; with_reducible rfl) ?_
                              | refine walk_pure rfl rfl rfl rfl (by intro w'; go_simp; with_reducible rfl) ?_)
                            simp only [List.getElem_toArray, List.getElem_cons_zero, List.getElem_cons_succ, Act.put, List.setIfInBounds_toArray, List.set_cons_zero, List.set_cons_succ]
                          refine walk_nil ?_
                          clear HF
                          have HS := Lib.hid S
                          clear S
                          go_wp2_with fail
                          go_meet
                          case rel =>
                            have S := HS.out
                            exact ⟨b13, H5, x, rfl, KP.out.ok.mono (by omega), by rw [KP.out.room]; exact HK.out.2.1, KP.out.le, KP.out.most, (S.pull 2).tail⟩
                        · have S := S.allocC #[Value.int .u8 0, .int .i64 0, .string ⟨#[]⟩, .int .i64 0] 36
                          refine fork_do rfl rfl (fun K hK => ?_)
                          go_simp
                          generalize w'.heap.size = b13 at S ⊢
                          clear HF
                          have HF := Lib.hid (S.pull 1).cell
                          refine hK _ _ (fun _ => HF.out) (tree_list ?_)
                          clear hK K
                          try simp only [List.getElem_toArray, List.getElem_cons_zero, List.getElem_cons_succ, Act.put, List.setIfInBounds_toArray, List.set_cons_zero, List.set_cons_succ]
                          refine abs_walk S ?_
                          clear S HF
                          intro w8 S
                          have HF := Lib.hid (S.pull 1).cell
                          refine walk_do rfl rfl rfl (fun K hK => ?_)
                          go_simp
                          refine (renew_c (S.pull 2) HK.out.1 (by omega) (meantW ws d) d.c (.slice va d.c.ws.length vcap) (fun w' q => HE1.out _ _ q) (by have := HE.out.2; exact this)).mono ?_
                          rintro e w6 ⟨rfl, S⟩
                          generalize H.renew (meantW ws d) d.c = r at S KP ⊢
                          obtain ⟨⟨x, ee⟩, H5⟩ := r
                          simp only [wv] at S KP ⊢
                          clear HF
                          have HF := Lib.hid (S.pull 2).cell
                          refine hK _ _ (fun _ => HF.out) ?_
                          clear hK K
                          try simp only [List.getElem_toArray, List.getElem_cons_zero, List.getElem_cons_succ, Act.put, List.setIfInBounds_toArray, List.set_cons_zero, List.set_cons_succ]
                          iterate 3
                            (first
                              | refine walk_load rfl rfl rfl HF.out rfl (by rintro w' g0; go_simp; with_reducible rfl) ?_
                              | refine walk_pure rfl rfl rfl rfl (by intro w'; go_simp; with_reducible rfl) ?_)
                            simp only [List.getElem_toArray, List.getElem_cons_zero, List.getElem_cons_succ, Act.put, List.setIfInBounds_toArray, List.set_cons_zero, List.set_cons_succ]
                          have S := S.pull 1
                          have cp := S.cell
                          have fp := S.free
                          refine walk_do rfl rfl rfl (fun K hK => ?_)
                          go_simp
                          have S := (((S.set 0 (.int .u8 x.k)).set 1 (.int .i64 x.n)).set 2 (.string x.s)).set 3 (.int .i64 x.g)
                          simp only [List.setIfInBounds_toArray, List.set_cons_zero, List.set_cons_succ] at S
                          clear cp fp
                          clear HF
                          have HF := Lib.hid (S.pull 2).cell
                          refine hK _ _ (fun _ => HF.out) ?_
                          clear hK K
                          try simp only [List.getElem_toArray, List.getElem_cons_zero, List.getElem_cons_succ, Act.put, List.setIfInBounds_toArray, List.set_cons_zero, List.set_cons_succ]
                          iterate 1
                            (first
                              | refine walk_load rfl rfl rfl HF.out rfl (by rintro w' g0; go_simp; with_reducible rfl) ?_
                              | refine walk_pure rfl rfl rfl rfl (by intro w'; go_simp; with_reducible rfl) ?_)
                            simp only [List.getElem_toArray, List.getElem_cons_zero, List.getElem_cons_succ, Act.put, List.setIfInBounds_toArray, List.set_cons_zero, List.set_cons_succ]
                          refine walk_nil ?_
                          clear HF
                          have HS := Lib.hid S
                          clear S
                          go_wp2_with fail
                          go_meet
                          case rel =>
                            have S := HS.out
                            exact ⟨b13, H5, x, rfl, KP.out.ok.mono (by omega), by rw [KP.out.room]; exact HK.out.2.1, KP.out.le, KP.out.most, ((S.pull 2).tail)⟩
                      · have S := S.allocC #[Value.int .u8 0, .int .i64 0, .string ⟨#[]⟩, .int .i64 0] 36
                        refine fork_do rfl rfl (fun K hK => ?_)
                        go_simp
                        generalize w5.heap.size = b13 at S ⊢
                        clear HF
                        have HF := Lib.hid (S.pull 1).cell
                        refine hK _ _ (fun _ => HF.out) (tree_list ?_)
                        clear hK K
                        try simp only [List.getElem_toArray, List.getElem_cons_zero, List.getElem_cons_succ, Act.put, List.setIfInBounds_toArray, List.set_cons_zero, List.set_cons_succ]
                        refine abs_walk S ?_
                        clear S HF
                        intro w8 S
                        have HF := Lib.hid (S.pull 1).cell
                        refine walk_do rfl rfl rfl (fun K hK => ?_)
                        go_simp
                        refine (meant_x ws vw wcap d va d.c.ws.length vcap _ (S.pull 3).own_rd hwl4).mono ?_
                        rintro e w' ⟨rfl, hb⟩
                        have S := S.mono hb
                        clear hb
                        clear HF
                        have HF := Lib.hid (S.pull 1).cell
                        refine hK _ _ (fun _ => HF.out) ?_
                        clear hK K
                        try simp only [List.getElem_toArray, List.getElem_cons_zero, List.getElem_cons_succ, Act.put, List.setIfInBounds_toArray, List.set_cons_zero, List.set_cons_succ]
                        refine walk_do rfl rfl rfl (fun K hK => ?_)
                        go_simp
                        refine (renew_c (S.pull 2) HK.out.1 (by omega) (meantW ws d) d.c (.slice va d.c.ws.length vcap) (fun w' q => HE1.out _ _ q) (by have := HE.out.2; exact this)).mono ?_
                        rintro e w6 ⟨rfl, S⟩
                        generalize H.renew (meantW ws d) d.c = r at S KP ⊢
                        obtain ⟨⟨x, ee⟩, H5⟩ := r
                        simp only [wv] at S KP ⊢
                        clear HF
                        have HF := Lib.hid (S.pull 2).cell
                        refine hK _ _ (fun _ => HF.out) ?_
                        clear hK K
                        try simp only [List.getElem_toArray, List.getElem_cons_zero, List.getElem_cons_succ, Act.put, List.setIfInBounds_toArray, List.set_cons_zero, List.set_cons_succ]
                        iterate 3
                          (first
                            | refine walk_load rfl rfl rfl HF.out rfl (by rintro w' g0; go_simp; with_reducible rfl) ?_
                            | refine walk_pure rfl rfl rfl rfl (by intro w'; go_simp; with_reducible rfl) ?_)
                          simp only [List.getElem_toArray, List.getElem_cons_zero, List.getElem_cons_succ, Act.put, List.setIfInBounds_toArray, List.set_cons_zero, List.set_cons_succ]
                        have S := S.pull 1
                        have cp := S.cell
                        have fp := S.free
                        refine walk_do rfl rfl rfl (fun K hK => ?_)
                        go_simp
                        have S := (((S.set 0 (.int .u8 x.k)).set 1 (.int .i64 x.n)).set 2 (.string x.s)).set 3 (.int .i64 x.g)
                        simp only [List.setIfInBounds_toArray, List.set_cons_zero, List.set_cons_succ] at S
                        clear cp fp
                        clear HF
                        have HF := Lib.hid (S.pull 2).cell
                        refine hK _ _ (fun _ => HF.out) ?_
                        clear hK K
                        try simp only [List.getElem_toArray, List.getElem_cons_zero, List.getElem_cons_succ, Act.put, List.setIfInBounds_toArray, List.set_cons_zero, List.set_cons_succ]
                        iterate 1
                          (first
                            | refine walk_load rfl rfl rfl HF.out rfl (by rintro w' g0; go_simp; with_reducible rfl) ?_
                            | refine walk_pure rfl rfl rfl rfl (by intro w'; go_simp; with_reducible rfl) ?_)
                          simp only [List.getElem_toArray, List.getElem_cons_zero, List.getElem_cons_succ, Act.put, List.setIfInBounds_toArray, List.set_cons_zero, List.set_cons_succ]
                        refine walk_nil ?_
                        clear HF
                        have HS := Lib.hid S
                        clear S
                        go_wp2_with fail
                        go_meet
                        case rel =>
                          have S := HS.out
                          exact ⟨b13, H5, x, rfl, KP.out.ok.mono (by omega), by rw [KP.out.room]; exact HK.out.2.1, KP.out.le, KP.out.most, ((S.pull 2).tail)⟩
                    case rest =>
                      obtain ⟨b13, H5, x, rfl, ok5, hr5, hl5, hm5, S⟩ := hcut
                      have d13 := S.cell
                      have S1 := S.allocC #[Value.int .u8 x.k, .int .i64 x.n, .string x.s, .int .i64 x.g] 36
                      obtain ⟨ii, hi1, hz0, hz1, hz2⟩ := info_parts info36
                      have A := Lib.hid fun o rest ops Q x' => wpList_append_st (P := Try.prog) (o := o) (rest := rest) (ops := ops) (Q := Q) (a := x') (S1.pull 3) (rd_cells (sz := 4) (n := 1) (cap := 1) S1 (Nat.le_refl _) rfl) (one_flatW [x]) hi1 hz0 hz1 hz2 rfl (by unfold maxLen; omega) (by omega) Try.underlying32
                      have K5 := Lib.hid (And.intro ok5 (And.intro hr5 (And.intro hl5 hm5)))
                      clear S S1 hi1 hz0 hz1 hz2 hwl4 ok5 hr5 hl5 hm5 HS d10
                      go_wp2_with (at_builtin; refine A.out _ _ _ _ _ _ _ rfl rfl rfl rfl ?_; intro v' w1 S1 _; have S1 := Lib.hid S1)
                      go_meet
                      case rel =>
                        have S2 := ((S1.out.pull 1).tail.pull 1).tail.pull 1
                        refine ⟨rfl, H5, ws ++ [x], K5.out.1, K5.out.2.1, K5.out.2.2.1, K5.out.2.2.2, by have := HK.out.2.2.2; simp; omega, ?_⟩
                        unfold wordsOwn
                        rw [List.length_append, show flatW (ws ++ [x]) = flatW ws ++ flatW [x] from List.flatMap_append]
                        exact S2
                  · have K4 := Lib.hid k4
                    have kb4 : (d.kind == 4) = false := by simp [k4]
                    clear k4
                    go_wp2_with fail
                    go_meet
                    case rel =>
                      have S := HS.out.tail
                      exact ⟨rfl, H, ws, HK.out.1.mono (by omega), HK.out.2.1, HK.out.2.2.1, by have := HK.out.2.2.1; omega, by have := HK.out.2.2.2; omega, S⟩
          case rest =>
            clear HS HK
            obtain ⟨rfl, H2, ws2, ok, hrm, hlm, hmost, hwl, S⟩ := hcut
            obtain ⟨vw2, wcap2, rfl, _⟩ := (S.pull 1).own_form
            have hmx : max H.most H2.live = H2.most := hmost.symm
            have hl0 : ¬ H2.live < 0 := by rw [ok.live_eq]; omega
            have hl1 : H2.live ≤ 100000 := by have := ok.most1; omega
            have hw1 : IntKind.i64.wrap (H2.live + (H2.room - H2.live)) = room := by
              rw [show H2.live + (H2.room - H2.live) = room by omega]
              exact IntWalk.i64_in _ (by omega)
            have hcl := cells_len ok
            have HS := Lib.hid S
            have HK := Lib.hid (And.intro ok (And.intro hrm (And.intro hlm hwl)))
            have OK := Lib.hid ok
            clear S ok hrm hlm hmost hwl
            go_wp2_with fail
            have hc := live_c HS.out
            refine hc.mono ?_
            rintro e wx1 ⟨rfl, m1, rfl⟩
            clear hc
            have S := HS.out.drewN m1
            clear HS
            generalize wc.drewN m1 = wy1 at S ⊢
            have HS := Lib.hid S
            clear S
            go_wp2_with fail
            have hc := live_c HS.out
            refine hc.mono ?_
            rintro e wx2 ⟨rfl, m2, rfl⟩
            clear hc
            have S := HS.out.drewN m2
            clear HS
            generalize wy1.drewN m2 = wy2 at S ⊢
            have HS := Lib.hid S
            clear S
            go_wp2_with fail
            have hc := live_c HS.out
            refine hc.mono ?_
            rintro e wx3 ⟨rfl, m3, rfl⟩
            clear hc
            have S := HS.out.drewN m3
            clear HS
            generalize wy2.drewN m3 = wy3 at S ⊢
            have HS := Lib.hid S
            clear S
            go_wp2_with fail
            have hc := left_c HS.out OK.out
            refine hc.mono ?_
            rintro e wx4 ⟨rfl, m4, rfl⟩
            clear hc
            have S := HS.out.drewN m4
            clear HS
            generalize wy3.drewN m4 = wy4 at S ⊢
            have HS := Lib.hid S
            clear S
            go_wp2_with fail
            refine (most_c HS.out).mono ?_
            rintro e wx ⟨rfl, rfl⟩
            go_wp2_with fail
            refine (cells_c HS.out OK.out).mono ?_
            rintro e w8 ⟨vc, rfl, S8⟩
            obtain ⟨vca, vcc, rfl, _⟩ := St.own_form S8
            have S := (HS.out.chain S8).tail
            clear HS S8
            have HS := Lib.hid S
            clear S
            go_wp2_with fail
            have hc := live_c HS.out
            refine hc.mono ?_
            rintro e wx5 ⟨rfl, m5, rfl⟩
            clear hc
            have S := HS.out.drewN m5
            clear HS
            generalize w8.drewN m5 = wy5 at S ⊢
            have HS := Lib.hid S
            clear S
            go_wp2_with fail
            refine ⟨⟨k + 1, H2, ws2, by omega, by go_num, rfl, HK.out.1, HK.out.2.1, HK.out.2.2.1, HK.out.2.2.2, HS.out⟩, by simp [intOf]; omega⟩
        · have hcl := cells_len ok
          have hl0 : 0 ≤ H.live := by rw [ok.live_eq]; omega
          have hl1 : H.live ≤ 100000 := by have := ok.most1; omega
          have hcm : H.cells.length ≤ 100000 := by omega
          have S := S.fst
          have HS := Lib.hid S
          have OK := Lib.hid ok
          have hw1 : IntKind.i64.wrap (H.live + (H.room - H.live)) = room := by
            rw [show H.live + (H.room - H.live) = room by omega]
            exact IntWalk.i64_in _ (by omega)
          clear S ok hrm hlm hwl
          go_wp2_with fail
          refine (copy_c HS.out OK.out).mono ?_
          rintro e w4 ⟨q, rfl, S4⟩
          have S := HS.out.chain S4
          clear HS S4
          simp only [List.cons_append, List.nil_append] at S
          have HS := Lib.hid S
          clear S
          go_wp2_with fail
          have hc := live_c HS.out
          refine hc.mono ?_
          rintro e wx1 ⟨rfl, m1, rfl⟩
          clear hc
          have S := HS.out.drewN m1
          clear HS
          generalize w4.drewN m1 = wy1 at S ⊢
          have HS := Lib.hid S
          clear S
          go_wp2_with fail
          have hc := live_c (HS.out.pull 1)
          refine hc.mono ?_
          rintro e wx2 ⟨rfl, m2, rfl⟩
          clear hc
          have S := HS.out.drewN m2
          clear HS
          generalize wy1.drewN m2 = wy2 at S ⊢
          have HS := Lib.hid S
          clear S
          go_wp2_with fail
          refine (most_c HS.out).mono ?_
          rintro e wx ⟨rfl, rfl⟩
          go_wp2_with fail
          refine (most_c (HS.out.pull 1)).mono ?_
          rintro e wx ⟨rfl, rfl⟩
          go_wp2_with fail
          refine (cells_c HS.out OK.out).mono ?_
          rintro e w8 ⟨vc, rfl, S8⟩
          obtain ⟨vca, vcc, rfl, _⟩ := St.own_form S8
          have S := HS.out.chain S8
          clear HS S8
          simp only [List.cons_append, List.nil_append] at S
          have HS := Lib.hid S
          clear S
          go_wp2_with fail
          refine (cells_c (HS.out.pull 2) OK.out).mono ?_
          rintro e w9 ⟨vc2, rfl, S8⟩
          obtain ⟨vca2, vcc2, rfl, _⟩ := St.own_form S8
          have S := HS.out.chain S8
          clear HS S8
          simp only [List.cons_append, List.nil_append] at S
          have HS := Lib.hid S
          clear S
          go_wp2_with fail
          refine (same_words_c H.cells _ _ _ (HS.out.pull 1).own_rd HS.out.own_rd (by unfold maxLen; omega)).mono ?_
          rintro e w10 ⟨rfl, hb⟩
          have S := (HS.out.mono hb).tail.tail
          clear HS hb
          have HS := Lib.hid S
          clear S
          go_wp2_with fail
          refine (cells_c (HS.out.pull 1) OK.out).mono ?_
          rintro e w11 ⟨vc3, rfl, S8⟩
          obtain ⟨vca3, vcc3, rfl, _⟩ := St.own_form S8
          have S := HS.out.chain S8
          clear HS S8
          simp only [List.cons_append, List.nil_append] at S
          have HS := Lib.hid S
          clear S
          go_wp2_with fail
          go_loopw [148] (fun i wr => EmptyRel w H (10 + k) p q (.slice vca3 H.cells.length vcc3) i wr) (fun i _ => H.cells.length - (intOf i).toNat)
          case atStart =>
            exact ⟨0, H, Nat.zero_le _, rfl, emptied_zero OK.out, HS.out.push 2⟩
          case round =>
            obtain ⟨j, C, hj, rfl, he, S⟩ := hrel
            clear HS
            by_cases hjl : j < H.cells.length
            · obtain ⟨x, hx⟩ : ∃ x, H.cells[j]? = some x := ⟨_, List.getElem?_eq_getElem hjl⟩
              obtain ⟨e1, e2, e3⟩ := emptied_step OK.out he hx
              have ro := (S.pull 2).own_rd
              obtain ⟨b3, o3, rfl⟩ := rd_some ro (by omega)
              obtain ⟨f0, f1, f2, f3⟩ := rd_word ro hx
              have S1 := S.allocC #[Value.int .u8 x.k, .int .i64 x.n, .string x.s, .int .i64 x.g] 36
              have HS := Lib.hid S1
              have HE := Lib.hid (And.intro e1 (And.intro e2 e3))
              have OKC := Lib.hid he.ok
              have HX := Lib.hid hx
              clear S S1 ro e1 e2 e3 he hx
              go_wp2_with fail
              refine (get_c (HS.out.pull 2) OK.out x).mono ?_
              rintro e w12 ⟨v1, rfl, S⟩
              rw [HE.out.1] at S ⊢
              simp only at S ⊢
              obtain ⟨a1, c1, rfl, _⟩ := St.own_form S
              generalize wr.heap.size = b17 at S ⊢
              have S := S.allocC #[Value.int .u8 (H.slot x.n.toNat).c.k, .int .i64 (H.slot x.n.toNat).c.n, .slice a1 (H.slot x.n.toNat).c.ws.length c1] 34
              have d17 := (S.pull 3).cell
              clear HS f0 f1 f2 f3
              have HS := Lib.hid S
              clear S
              go_wp2_with fail
              generalize w12.heap.size = b18 at HS ⊢
              refine (drop_c (HS.out.pull 4) OKC.out (by omega) x).mono ?_
              rintro e w13 ⟨v2, rfl, S⟩
              rw [HE.out.2.1] at S ⊢
              simp only at S ⊢
              obtain ⟨a2, c2, rfl, _⟩ := St.own_form S
              have S := S.allocC #[Value.int .u8 (H.slot x.n.toNat).c.k, .int .i64 (H.slot x.n.toNat).c.n, .slice a2 (H.slot x.n.toNat).c.ws.length c2] 34
              have d18 := (S.pull 3).cell
              have d20 := S.cell
              clear HS d17
              have HS := Lib.hid S
              clear S
              go_wp2_with fail
              refine (same_c (H.slot x.n.toNat).c _ _ _ (HS.out.pull 4).own_rd (HS.out.pull 1).own_rd (by have := OK.out.words _ (AHeap.slot_mem (cells_get OK.out (List.mem_of_getElem? HX.out)).2.1); unfold maxLen; omega)).mono ?_
              rintro e w14 ⟨rfl, hb⟩
              have S := ((((HS.out.mono hb).pull 7).pull 6).pull 4).fst3
              clear HS hb d18 d20
              have HS := Lib.hid S
              clear S
              go_wp2_with fail
              exact ⟨⟨j + 1, (C.drop x).2, by omega, by go_num, HE.out.2.2, HS.out⟩, by simp [intOf]; omega⟩
            · have hj2 : j = H.cells.length := by omega
              have hz : C.live = 0 := by have := he.live; omega
              have OKC := Lib.hid he.ok
              have HS := Lib.hid S
              clear S he hj2 hj
              go_wp2_with fail
              have hc := live_c HS.out
              refine hc.mono ?_
              rintro e wx1 ⟨rfl, m1, rfl⟩
              clear hc
              have S := HS.out.drewN m1
              clear HS
              generalize wr.drewN m1 = wy1 at S ⊢
              have HS := Lib.hid S
              clear S
              go_wp2_with fail
              refine (cells_c (HS.out.pull 1) OK.out).mono ?_
              rintro e w12 ⟨vc4, rfl, S8⟩
              obtain ⟨vca4, vcc4, rfl, _⟩ := St.own_form S8
              have S := (HS.out.chain S8).tail
              clear HS S8
              have HS := Lib.hid S
              clear S
              go_wp2_with fail
              have hc := live_c (HS.out.pull 1)
              refine hc.mono ?_
              rintro e wx2 ⟨rfl, m2, rfl⟩
              clear hc
              have S := HS.out.drewN m2
              clear HS
              generalize w12.drewN m2 = wy2 at S ⊢
              have HS := Lib.hid S
              clear S
              go_wp2_with fail
              have hc := live_c (HS.out.pull 1)
              refine hc.mono ?_
              rintro e wx3 ⟨rfl, m3, rfl⟩
              clear hc
              have S := HS.out.drewN m3
              clear HS
              generalize wy2.drewN m3 = wy3 at S ⊢
              have HS := Lib.hid S
              clear S
              go_wp2_with fail
              have hc := left_c (HS.out.pull 1) OK.out
              refine hc.mono ?_
              rintro e wx4 ⟨rfl, m4, rfl⟩
              clear hc
              have S := HS.out.drewN m4
              clear HS
              generalize wy3.drewN m4 = wy4 at S ⊢
              have HS := Lib.hid S
              clear S
              go_wp2_with fail
              go_ret
              exact ⟨rfl, HS.out.below⟩

end Go.Proofs.Ytciciaikajdenaa
