/- known: the chapter's rows are so. (Printed by gen_known.py.) -/
import Derived.Test.YtciciaikajdenaaW19
import Derived.Test.YtciciaikajdenaaK1
set_option linter.unusedSimpArgs false
set_option linter.unusedVariables false
namespace Go.Proofs.Ytciciaikajdenaa
open Go.RowKit

theorem abs_calls {P : Program} {f : FuncId} {args : Array Value} {R : Ending → World → Prop} {W0 w : World} {L : List HProp} (h : St W0 w L) (k : ∀ w', St W0 w' L → Calls P f args w' R) : Calls P f args w R := k _ h

def KnownPost (w : World) (e : Ending) (w' : World) : Prop := e = .returned (.bool true) ∧ Below w.heap.size w w'

set_option maxRecDepth 100000 in
set_option maxHeartbeats 4000000 in
theorem known_c (w : World) : Calls Try.prog 13 #[] w fun e w' => KnownPost w e w' := by
  go_enter Try.func13, Try.ntmps13
  go_wp2_with fail
  refine (new_ok 2 w (by decide) (by decide)).mono ?_
  rintro e w1 ⟨p, rfl, S⟩
  have S : St w w1 [heapAt p kH0] := S
  have HS := Lib.hid S
  clear S
  go_wp2_with fail
  refine (number_c 1 _).mono ?_
  rintro e w2 ⟨rfl, hb⟩
  have S := HS.out.mono hb
  clear hb HS
  have S := (S.allocC #[Value.int .u8 1, .int .i64 1, .string ⟨#[]⟩, .int .i64 0] 36).allocC #[Value.int .u8 1, .int .i64 7, .slice (some ⟨w2.heap.size, 0, none⟩) 1 1] 34
  simp only [World.size_alloc] at S
  have HS := Lib.hid S
  clear S
  go_wp2_with fail
  have S := HS.out
  clear HS
  generalize w2.heap.size = ba at S ⊢
  refine abs_calls S ?_
  clear S
  intro w11 S
  replace S := S.pull 2
  refine (alloc_c S k0ok kA _ (fun w' q => rd_cells (sz := 4) (n := 1) (cap := 1) (q.pull 1) (Nat.le_refl _) rfl) (by decide)).mono ?_
  clear S
  rintro e w4 ⟨rfl, S⟩
  rw [k01] at S ⊢
  simp only [wv, cellWord, AWord.zero] at S ⊢
  replace S := S.allocC #[Value.int .u8 5, .int .i64 0, .string ⟨#[]⟩, .int .i64 0] 36
  generalize hx : w4.heap.size = bx at S
  have da := (S.pull 2).cell
  have HS := Lib.hid S
  clear S
  go_wp2_with fail
  clear da
  have S := HS.out
  clear HS
  try rw [hx]
  clear hx
  refine abs_calls S ?_
  clear S
  intro w12 S
  replace S := S.pull 1
  refine (alloc_c S k1ok kA _ (fun w' q => rd_cells (sz := 4) (n := 1) (cap := 1) (q.pull 2) (Nat.le_refl _) rfl) (by decide)).mono ?_
  clear S
  rintro e w6 ⟨rfl, S⟩
  rw [k12] at S ⊢
  simp only [wv, cellWord, AWord.zero] at S ⊢
  replace S := S.allocC #[Value.int .u8 5, .int .i64 1, .string ⟨#[]⟩, .int .i64 0] 36
  generalize hx : w6.heap.size = yb at S
  have da := (S.pull 3).cell
  have HS := Lib.hid S
  clear S
  go_wp2_with fail
  clear da
  have S := HS.out
  clear HS
  try rw [hx]
  clear hx
  refine abs_calls S ?_
  clear S
  intro w13 S
  replace S := S.pull 1
  refine (alloc_c S k2ok kA _ (fun w' q => rd_cells (sz := 4) (n := 1) (cap := 1) (q.pull 3) (Nat.le_refl _) rfl) (by decide)).mono ?_
  clear S
  rintro e w8 ⟨rfl, S⟩
  rw [k2f] at S ⊢
  simp only [wv, cellWord, AWord.zero] at S ⊢
  replace S := S.allocC #[Value.int .u8 0, .int .i64 0, .string ⟨#[]⟩, .int .i64 0] 36
  generalize hx : w8.heap.size = b7 at S
  have HS := Lib.hid S
  clear S
  go_wp2_with fail
  have S := HS.out
  clear HS
  try rw [hx]
  clear hx
  refine wp_region_st S [0, 1, 2, 3, 4, 5, 6, 7, 8, 9, 10, 11, 12, 13, 14, 15, 16, 17, 18, 19] (fun w' => (∀ o, w'.cell? ⟨bx, o, none⟩ = #[Value.int .u8 5, .int .i64 0, .string ⟨#[]⟩, .int .i64 0][o]?) ∧ (∀ o, w'.cell? ⟨yb, o, none⟩ = #[Value.int .u8 5, .int .i64 1, .string ⟨#[]⟩, .int .i64 0][o]?)) [0, 8] [1, 9] [] (by kernel_rfl) (by kernel_rfl) (fun c d v a w h => by cases d <;> exact h) ?_
  clear S
  intro w14 S
  have HF := Lib.hid (And.intro (S.pull 3).cell (S.pull 2).cell)
  iterate 1
    (first
      | refine walk_load rfl rfl rfl HF.out rfl (by rintro w' ⟨g0, g1⟩; go_simp; with_reducible rfl) ?_
      | refine walk_pure rfl rfl rfl rfl (by intro w'; go_simp; with_reducible rfl) ?_)
    simp only [List.getElem_toArray, List.getElem_cons_zero, List.getElem_cons_succ, Act.put, List.setIfInBounds_toArray, List.set_cons_zero, List.set_cons_succ]
  refine walk_do rfl rfl rfl (fun K hK => ?_)
  go_simp
  refine (cell_c 0 0 _).mono ?_
  rintro e w' ⟨rfl, hb⟩
  replace S := S.mono hb
  clear hb
  clear HF
  have HF := Lib.hid (And.intro (S.pull 3).cell (S.pull 2).cell)
  refine hK _ _ (fun _ => HF.out) ?_
  clear hK K
  try simp only [List.getElem_toArray, List.getElem_cons_zero, List.getElem_cons_succ, Act.put, List.setIfInBounds_toArray, List.set_cons_zero, List.set_cons_succ]
  iterate 7
    (first
      | refine walk_load rfl rfl rfl HF.out rfl (by rintro w' ⟨g0, g1⟩; go_simp; with_reducible rfl) ?_
      | refine walk_pure rfl rfl rfl rfl (by intro w'; go_simp; with_reducible rfl) ?_)
    simp only [List.getElem_toArray, List.getElem_cons_zero, List.getElem_cons_succ, Act.put, List.setIfInBounds_toArray, List.set_cons_zero, List.set_cons_succ]
  refine walk_do rfl rfl rfl (fun K hK => ?_)
  go_simp
  refine (cell_c 1 0 _).mono ?_
  rintro e w' ⟨rfl, hb⟩
  replace S := S.mono hb
  clear hb
  clear HF
  have HF := Lib.hid (And.intro (S.pull 3).cell (S.pull 2).cell)
  refine hK _ _ (fun _ => HF.out) ?_
  clear hK K
  try simp only [List.getElem_toArray, List.getElem_cons_zero, List.getElem_cons_succ, Act.put, List.setIfInBounds_toArray, List.set_cons_zero, List.set_cons_succ]
  iterate 10
    (first
      | refine walk_load rfl rfl rfl HF.out rfl (by rintro w' ⟨g0, g1⟩; go_simp; with_reducible rfl) ?_
      | refine walk_pure rfl rfl rfl rfl (by intro w'; go_simp; with_reducible rfl) ?_)
    simp only [List.getElem_toArray, List.getElem_cons_zero, List.getElem_cons_succ, Act.put, List.setIfInBounds_toArray, List.set_cons_zero, List.set_cons_succ]
  refine walk_nil ?_
  clear HF
  have dx := (S.pull 3).cell
  have HS := Lib.hid S
  clear S
  go_wp2_with fail
  clear dx
  have S := HS.out
  clear HS
  replace S := S.pull 1
  refine (drop_c S k2ok (by decide) (cellWord 0 0)).mono ?_
  clear S
  rintro e w21 ⟨v, rfl, S⟩
  rw [k23] at S ⊢
  simp only [kA] at S ⊢
  obtain ⟨ac, capc, rfl, _⟩ := St.own_form S
  replace S := S.allocC #[Value.int .u8 1, .int .i64 7, .slice ac 1 capc] 34
  simp only [List.length_singleton] at S
  generalize hx : w21.heap.size = bc at S
  have dx := (S.pull 5).cell
  simp only [List.length_singleton]
  have HS := Lib.hid S
  clear S
  go_wp2_with fail
  clear dx
  have S := HS.out
  clear HS
  try rw [hx]
  clear hx
  refine abs_calls S ?_
  clear S
  intro w15 S
  replace S := S.pull 2
  refine (get_c S k3ok (cellWord 0 0)).mono ?_
  clear S
  rintro e w23 ⟨v, rfl, S⟩
  rw [k3get] at S ⊢
  simp only [ACell.zero] at S ⊢
  obtain ⟨ag, capg, rfl, _⟩ := St.own_form S
  replace S := S.tail
  have HS := Lib.hid S
  clear S
  go_wp2_with fail
  have S := HS.out
  clear HS
  replace S := S.pull 0
  refine (alloc_c S k3ok kArr _ (fun w' q => rd.nil w' 4) (by decide)).mono ?_
  clear S
  rintro e w25 ⟨rfl, S⟩
  rw [k34] at S ⊢
  simp only [wv, cellWord, AWord.zero] at S ⊢
  replace S := S.allocC #[Value.int .u8 5, .int .i64 0, .string ⟨#[]⟩, .int .i64 1] 36
  generalize hx : w25.heap.size = bz at S
  have dx := (S.pull 6).cell
  have HS := Lib.hid S
  clear S
  go_wp2_with fail
  clear dx
  have S := HS.out
  clear HS
  try rw [hx]
  clear hx
  refine abs_calls S ?_
  clear S
  intro w16 S
  replace S := S.pull 1
  refine (get_c S k4ok (cellWord 0 0)).mono ?_
  clear S
  rintro e w27 ⟨v, rfl, S⟩
  rw [k4get] at S ⊢
  simp only [ACell.zero] at S ⊢
  obtain ⟨ag, capg, rfl, _⟩ := St.own_form S
  replace S := S.tail
  replace S := S.allocC #[Value.int .u8 0, .int .i64 0, .slice ag 0 capg] 34
  simp only [List.length_nil] at S ⊢
  generalize hx : w27.heap.size = b11 at S
  have HS := Lib.hid S
  clear S
  go_wp2_with fail
  have S := HS.out
  clear HS
  try rw [hx]
  clear hx
  refine wp_region_st S [0, 1, 2, 3, 4, 5, 6, 7, 8, 9, 10, 11, 12, 13, 14, 15, 16, 17, 18, 19, 20, 21, 22, 23, 24] (fun w' => (∀ o, w'.cell? ⟨bc, o, none⟩ = #[Value.int .u8 1, .int .i64 7, .slice ac 1 capc][o]?) ∧ (∀ o, w'.cell? ⟨(ba + 1), o, none⟩ = #[Value.int .u8 1, .int .i64 7, .slice (some ⟨ba, 0, none⟩) 1 1][o]?) ∧ (∀ o, w'.cell? ⟨bz, o, none⟩ = #[Value.int .u8 5, .int .i64 0, .string ⟨#[]⟩, .int .i64 1][o]?)) [0, 1, 13] [2, 14] [] (by kernel_rfl) (by kernel_rfl) (fun c d v a w h => by cases d <;> exact h) ?_
  clear S
  intro w17 S
  have HF := Lib.hid (And.intro (S.pull 3).cell (And.intro (S.pull 8).cell (S.pull 2).cell))
  iterate 2
    (first
      | refine walk_load rfl rfl rfl HF.out rfl (by rintro w' ⟨g0, g1, g2⟩; go_simp; with_reducible rfl) ?_
      | refine walk_pure rfl rfl rfl rfl (by intro w'; go_simp; with_reducible rfl) ?_)
    simp only [List.getElem_toArray, List.getElem_cons_zero, List.getElem_cons_succ, Act.put, List.setIfInBounds_toArray, List.set_cons_zero, List.set_cons_succ]
  refine walk_do rfl rfl rfl (fun K hK => ?_)
  go_simp
  refine (same_c kA (.slice ac 1 capc) (.slice (some ⟨ba, 0, none⟩) 1 1) _ (S.pull 4).own_rd (rd_cells (sz := 4) (n := 1) (cap := 1) (S.pull 9) (Nat.le_refl _) rfl) (by decide)).mono ?_
  rintro e w' ⟨rfl, hb⟩
  replace S := S.mono hb
  clear hb
  clear HF
  have HF := Lib.hid (And.intro (S.pull 3).cell (And.intro (S.pull 8).cell (S.pull 2).cell))
  refine hK _ _ (fun _ => HF.out) ?_
  clear hK K
  try simp only [List.getElem_toArray, List.getElem_cons_zero, List.getElem_cons_succ, Act.put, List.setIfInBounds_toArray, List.set_cons_zero, List.set_cons_succ]
  iterate 11
    (first
      | refine walk_load rfl rfl rfl HF.out rfl (by rintro w' ⟨g0, g1, g2⟩; go_simp; with_reducible rfl) ?_
      | refine walk_pure rfl rfl rfl rfl (by intro w'; go_simp; with_reducible rfl) ?_)
    simp only [List.getElem_toArray, List.getElem_cons_zero, List.getElem_cons_succ, Act.put, List.setIfInBounds_toArray, List.set_cons_zero, List.set_cons_succ]
  refine walk_do rfl rfl rfl (fun K hK => ?_)
  go_simp
  refine (cell_c 0 1 _).mono ?_
  rintro e w' ⟨rfl, hb⟩
  replace S := S.mono hb
  clear hb
  clear HF
  have HF := Lib.hid (And.intro (S.pull 3).cell (And.intro (S.pull 8).cell (S.pull 2).cell))
  refine hK _ _ (fun _ => HF.out) ?_
  clear hK K
  try simp only [List.getElem_toArray, List.getElem_cons_zero, List.getElem_cons_succ, Act.put, List.setIfInBounds_toArray, List.set_cons_zero, List.set_cons_succ]
  iterate 10
    (first
      | refine walk_load rfl rfl rfl HF.out rfl (by rintro w' ⟨g0, g1, g2⟩; go_simp; with_reducible rfl) ?_
      | refine walk_pure rfl rfl rfl rfl (by intro w'; go_simp; with_reducible rfl) ?_)
    simp only [List.getElem_toArray, List.getElem_cons_zero, List.getElem_cons_succ, Act.put, List.setIfInBounds_toArray, List.set_cons_zero, List.set_cons_succ]
  refine walk_nil ?_
  clear HF
  have dy := (S.pull 6).cell
  have HS := Lib.hid S
  clear S
  go_wp2_with fail
  clear dy
  have S := HS.out
  clear HS
  replace S := S.pull 1
  refine (renew_c S k4ok (by decide) (cellWord 1 0) kFun (.slice none 0 0) (fun w' q => rd.nil w' 4) (by decide)).mono ?_
  clear S
  rintro e w31 ⟨rfl, S⟩
  rw [k45] at S ⊢
  simp only [wv, cellWord] at S ⊢
  have dy := (S.pull 6).cell
  have fy := (S.pull 6).free
  replace S := ((((S.pull 6).set 0 (.int .u8 5)).set 1 (.int .i64 1)).set 2 (.string ⟨#[]⟩)).set 3 (.int .i64 1)
  simp only [List.setIfInBounds_toArray, List.set_cons_zero, List.set_cons_succ] at S
  have HS := Lib.hid S
  clear S
  go_wp2_with fail
  clear dy fy
  have S := HS.out
  clear HS
  refine wp_region_st S [0, 1, 2, 3, 4, 5, 6, 7] (fun w' => (∀ o, w'.cell? ⟨yb, o, none⟩ = #[Value.int .u8 5, .int .i64 1, .string ⟨#[]⟩, .int .i64 1][o]?)) [1] [2, 3] [] (by kernel_rfl) (by kernel_rfl) (fun c d v a w h => by cases d <;> exact h) ?_
  clear S
  intro w18 S
  have HF := Lib.hid (S.pull 0).cell
  iterate 2
    (first
      | refine walk_load rfl rfl rfl HF.out rfl (by rintro w' g0; go_simp; with_reducible rfl) ?_
      | refine walk_pure rfl rfl rfl rfl (by intro w'; go_simp; with_reducible rfl) ?_)
    simp only [List.getElem_toArray, List.getElem_cons_zero, List.getElem_cons_succ, Act.put, List.setIfInBounds_toArray, List.set_cons_zero, List.set_cons_succ]
  refine walk_do rfl rfl rfl (fun K hK => ?_)
  go_simp
  refine (number_c 1 _).mono ?_
  rintro e w' ⟨rfl, hb⟩
  replace S := S.mono hb
  clear hb
  clear HF
  have HF := Lib.hid (S.pull 0).cell
  refine hK _ _ (fun _ => HF.out) ?_
  clear hK K
  try simp only [List.getElem_toArray, List.getElem_cons_zero, List.getElem_cons_succ, Act.put, List.setIfInBounds_toArray, List.set_cons_zero, List.set_cons_succ]
  refine walk_do rfl rfl rfl (fun K hK => ?_)
  go_simp
  replace S := S.pull 1
  refine (set_c S k5ok (cellWord 1 1) 0 (⟨1, 1, ⟨#[]⟩, 0⟩)).mono ?_
  rintro e w' ⟨rfl, S⟩
  rw [k5set] at S ⊢
  clear HF
  have HF := Lib.hid (S.pull 1).cell
  refine hK _ _ (fun _ => HF.out) ?_
  clear hK K
  simp only [wv, AWord.zero] at S ⊢
  try simp only [List.getElem_toArray, List.getElem_cons_zero, List.getElem_cons_succ, Act.put, List.setIfInBounds_toArray, List.set_cons_zero, List.set_cons_succ]
  iterate 4
    (first
      | refine walk_load rfl rfl rfl HF.out rfl (by rintro w' g0; go_simp; with_reducible rfl) ?_
      | refine walk_pure rfl rfl rfl rfl (by intro w'; go_simp; with_reducible rfl) ?_)
    simp only [List.getElem_toArray, List.getElem_cons_zero, List.getElem_cons_succ, Act.put, List.setIfInBounds_toArray, List.set_cons_zero, List.set_cons_succ]
  refine walk_nil ?_
  clear HF
  have HS := Lib.hid S
  clear S
  go_wp2_with fail
  have S := HS.out
  clear HS
  refine (cell_c 2 0 _).mono ?_
  rintro e w35 ⟨rfl, hb⟩
  replace S := S.mono hb
  clear hb
  have HS := Lib.hid S
  clear S
  go_wp2_with fail
  have S := HS.out
  clear HS
  replace S := S.pull 0
  refine (get_c S k5ok (cellWord 2 0)).mono ?_
  clear S
  rintro e w36 ⟨v, rfl, S⟩
  rw [k5get] at S ⊢
  simp only [ACell.zero] at S ⊢
  replace S := S.tail
  have HS := Lib.hid S
  clear S
  go_wp2_with fail
  have S := HS.out
  clear HS
  refine wp_region_st S [0, 1, 2, 3, 4, 5, 6, 7, 8, 9, 10, 11, 12, 13, 14, 15, 16, 17, 18, 19, 20, 21, 22, 23, 24] (fun w' => (∀ o, w'.cell? ⟨yb, o, none⟩ = #[Value.int .u8 5, .int .i64 1, .string ⟨#[]⟩, .int .i64 1][o]?)) [0] [1, 17, 22] [] (by kernel_rfl) (by kernel_rfl) (fun c d v a w h => by cases d <;> exact h) ?_
  clear S
  intro w19 S
  have HF := Lib.hid (S.pull 1).cell
  iterate 1
    (first
      | refine walk_load rfl rfl rfl HF.out rfl (by rintro w' g0; go_simp; with_reducible rfl) ?_
      | refine walk_pure rfl rfl rfl rfl (by intro w'; go_simp; with_reducible rfl) ?_)
    simp only [List.getElem_toArray, List.getElem_cons_zero, List.getElem_cons_succ, Act.put, List.setIfInBounds_toArray, List.set_cons_zero, List.set_cons_succ]
  refine walk_do rfl rfl rfl (fun K hK => ?_)
  go_simp
  refine (cell_c 1 1 _).mono ?_
  rintro e w' ⟨rfl, hb⟩
  replace S := S.mono hb
  clear hb
  clear HF
  have HF := Lib.hid (S.pull 1).cell
  refine hK _ _ (fun _ => HF.out) ?_
  clear hK K
  try simp only [List.getElem_toArray, List.getElem_cons_zero, List.getElem_cons_succ, Act.put, List.setIfInBounds_toArray, List.set_cons_zero, List.set_cons_succ]
  iterate 15
    (first
      | refine walk_load rfl rfl rfl HF.out rfl (by rintro w' g0; go_simp; with_reducible rfl) ?_
      | refine walk_pure rfl rfl rfl rfl (by intro w'; go_simp; with_reducible rfl) ?_)
    simp only [List.getElem_toArray, List.getElem_cons_zero, List.getElem_cons_succ, Act.put, List.setIfInBounds_toArray, List.set_cons_zero, List.set_cons_succ]
  replace S := S.pull 0
  have hl := live_c S
  rw [k5live] at hl
  refine walk_do rfl rfl rfl (fun K hK => ?_)
  go_simp
  refine (hl).mono ?_
  rintro e w' ⟨rfl, n, rfl⟩
  replace S := S.drewN n
  clear HF
  have HF := Lib.hid (S.pull 1).cell
  refine hK _ _ (fun _ => HF.out) ?_
  clear hK K
  try simp only [List.getElem_toArray, List.getElem_cons_zero, List.getElem_cons_succ, Act.put, List.setIfInBounds_toArray, List.set_cons_zero, List.set_cons_succ]
  clear hl
  iterate 4
    (first
      | refine walk_load rfl rfl rfl HF.out rfl (by rintro w' g0; go_simp; with_reducible rfl) ?_
      | refine walk_pure rfl rfl rfl rfl (by intro w'; go_simp; with_reducible rfl) ?_)
    simp only [List.getElem_toArray, List.getElem_cons_zero, List.getElem_cons_succ, Act.put, List.setIfInBounds_toArray, List.set_cons_zero, List.set_cons_succ]
  have hl := most_c S
  rw [show kH5.most = 2 from rfl] at hl
  refine walk_do rfl rfl rfl (fun K hK => ?_)
  go_simp
  refine (hl).mono ?_
  rintro e w' ⟨rfl, rfl⟩
  clear HF
  have HF := Lib.hid (S.pull 1).cell
  refine hK _ _ (fun _ => HF.out) ?_
  clear hK K
  try simp only [List.getElem_toArray, List.getElem_cons_zero, List.getElem_cons_succ, Act.put, List.setIfInBounds_toArray, List.set_cons_zero, List.set_cons_succ]
  iterate 2
    (first
      | refine walk_load rfl rfl rfl HF.out rfl (by rintro w' g0; go_simp; with_reducible rfl) ?_
      | refine walk_pure rfl rfl rfl rfl (by intro w'; go_simp; with_reducible rfl) ?_)
    simp only [List.getElem_toArray, List.getElem_cons_zero, List.getElem_cons_succ, Act.put, List.setIfInBounds_toArray, List.set_cons_zero, List.set_cons_succ]
  refine walk_nil ?_
  clear HF
  have da := (S.pull 8).cell
  have dx := (S.pull 7).cell
  have HS := Lib.hid S
  clear S
  go_wp2_with fail
  refine (alloc_nil kA (some ⟨ba, 0, none⟩) 1 1 _).mono ?_
  rintro e w41 ⟨rfl, hb⟩
  clear da dx
  have S := HS.out.mono hb
  clear hb HS
  simp only [wv, AWord.zero]
  have da := (S.pull 8).cell
  have dx := (S.pull 7).cell
  have HS := Lib.hid S
  clear S
  go_wp2_with fail
  refine (get_nil (cellWord 0 0) _).mono ?_
  rintro e w42 ⟨rfl, hb⟩
  clear da dx
  have S := HS.out.mono hb
  clear hb HS
  simp only [wv, AWord.zero]
  have da := (S.pull 8).cell
  have dx := (S.pull 7).cell
  have HS := Lib.hid S
  clear S
  go_wp2_with fail
  refine (drop_nil (cellWord 0 0) _).mono ?_
  rintro e w43 ⟨rfl, hb⟩
  clear da dx
  have S := HS.out.mono hb
  clear hb HS
  simp only [wv, AWord.zero]
  have da := (S.pull 8).cell
  have dx := (S.pull 7).cell
  have HS := Lib.hid S
  clear S
  go_wp2_with fail
  refine (renew_nil (cellWord 0 0) kA (some ⟨ba, 0, none⟩) 1 1 _).mono ?_
  rintro e w44 ⟨rfl, hb⟩
  clear da dx
  have S := HS.out.mono hb
  clear hb HS
  simp only [wv, AWord.zero]
  have da := (S.pull 8).cell
  have dx := (S.pull 7).cell
  have HS := Lib.hid S
  clear S
  go_wp2_with fail
  refine (set_nil (cellWord 0 0) 0 (cellWord 0 0) _).mono ?_
  rintro e w45 ⟨rfl, hb⟩
  clear da dx
  have S := HS.out.mono hb
  clear hb HS
  simp only [wv, AWord.zero]
  replace S := S.allocC #[Value.int .u8 0, .int .i64 0, .string ⟨#[]⟩, .int .i64 0] 36
  have HS := Lib.hid S
  clear S
  go_wp2_with fail
  refine (live_nil _).mono ?_
  rintro e w' ⟨rfl, rfl⟩
  go_wp2_with fail
  refine (left_nil _).mono ?_
  rintro e w' ⟨rfl, rfl⟩
  go_wp2_with fail
  refine (most_nil _).mono ?_
  rintro e w' ⟨rfl, rfl⟩
  go_wp2_with fail
  refine (cells_nil _).mono ?_
  rintro e w' ⟨rfl, rfl⟩
  go_wp2_with fail
  refine (copy_nil _).mono ?_
  rintro e w' ⟨rfl, rfl⟩
  go_wp2_with fail
  exact bodyPost_ret (v := .bool true) (by simp [results, Try.results13, go_sem]) rfl ⟨rfl, HS.out.below⟩

end Go.Proofs.Ytciciaikajdenaa
