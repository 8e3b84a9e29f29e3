/- Copy. -/
import Derived.Test.YtlpgekodoiioaaaA12
set_option linter.unusedSimpArgs false
set_option linter.unusedVariables false
namespace Go.Proofs.Ytlpgekodoiioaaa
open Go.RowKit

section
variable {W0 w : World} {L : List HProp} {p n : Nat} {W : AW}

theorem St.own_tail {T : TypeId} {v : Value} {n : Nat} {xs : List Value} (h : St W0 w (ownS T 1 v n xs :: L)) : St W0 w (tailS T v xs :: L) := by
  obtain ⟨hl, ⟨⟨a, e⟩, h0, hx⟩ | ⟨b, cap, rest, e, h1, h2, h3, S⟩⟩ := h.own_cases
  · subst e hx; exact h.tail.tail_nil a 0
  · have hl : xs.length = n := by omega
    subst e hl
    have := St.tail_mk (T := T) (pre := []) (cap := cap) (bs := xs) (rest := rest) (by exact S) h1 h2 (by omega)
    exact this

set_option maxRecDepth 100000 in
set_option maxHeartbeats 1000000 in
theorem copy_c (h : St W0 w (worldAt p W :: L)) (ok : W.Ok n) (hn : n ≤ 100000) (hb : W.fails.length ≤ 100000) : Calls Try.prog 14 #[.pointer (some ⟨p, 0, none⟩)] w fun e w' =>
    ∃ q, e = .returned (.pointer (some ⟨q, 0, none⟩)) ∧ St W0 w' (worldAt q W :: worldAt p W :: L) := by
  have hhn : W.handles.length ≤ 100000 := Nat.le_trans ok.handles hn
  have htn : W.trace.length ≤ 100000 := Nat.le_trans ok.trace hn
  have hfn : W.files.length ≤ 100000 := Nat.le_trans ok.few (by omega)
  obtain ⟨vf, vb, vh, vt, S⟩ := h.world_open
  unfold worldL at S
  simp only [List.cons_append, List.nil_append] at S
  have HS := Lib.hid S
  clear h ok S
  go_enter Try.func14, Try.ntmps14
  go_upto_region 3 with fail
  refine wp_region_st HS.out [0, 1, 2, 3, 5, 6, 7, 8, 10, 11, 12, 13, 15, 16, 17, 18, 4, 9, 14, 19, 20, 21, 22] (fun w' => (∀ o, w'.cell? ⟨p, o, none⟩ = #[vf, vb, vh, vt][o]?)) [3, 8, 13, 18] [4, 9, 14, 19, 21] [19, 21] (by kernel_rfl) (by kernel_rfl) (fun c d v a w h => by cases d <;> exact h) ?_
  clear HS
  intro w3 S
  have HF := Lib.hid S.cell
  iterate 16
    (first
      | refine walk_load rfl rfl rfl HF.out rfl (by rintro w' g0; go_simp; with_reducible rfl) ?_
      | refine walk_pure rfl rfl rfl rfl (by intro w'; go_simp; with_reducible rfl) ?_)
    simp only [List.getElem_toArray, List.getElem_cons_zero, List.getElem_cons_succ, Act.put, List.setIfInBounds_toArray, List.set_cons_zero, List.set_cons_succ]
  clear HF
  -- [p, files, tail, handles, trace, L]
  refine walk_do rfl rfl rfl (fun K hK => ?_)
  go_simp
  refine (clone34_c S (S.pull 1).own_rd (one_flat one_fCells _) (by omega)).mono ?_
  rintro e w4 ⟨vf2, rfl, S⟩
  refine hK _ _ (fun _ => (S.pull 1).cell) ?_
  clear hK K
  try simp only [List.getElem_toArray, List.getElem_cons_zero, List.getElem_cons_succ, Act.put, List.setIfInBounds_toArray, List.set_cons_zero, List.set_cons_succ]
  refine walk_do rfl rfl rfl (fun K hK => ?_)
  go_simp
  refine (clone35_c S (S.pull 3).tail_rd (one_boolsV _) (by simp [boolsV]; omega)).mono ?_
  rintro e w5 ⟨vb2, rfl, S⟩
  refine hK _ _ (fun _ => (S.pull 2).cell) ?_
  clear hK K
  try simp only [List.getElem_toArray, List.getElem_cons_zero, List.getElem_cons_succ, Act.put, List.setIfInBounds_toArray, List.set_cons_zero, List.set_cons_succ]
  refine walk_do rfl rfl rfl (fun K hK => ?_)
  go_simp
  refine (clone36_c S (S.pull 5).own_rd (one_flat one_hCells _) (by omega)).mono ?_
  rintro e w6 ⟨vh2, rfl, S⟩
  refine hK _ _ (fun _ => (S.pull 3).cell) ?_
  clear hK K
  try simp only [List.getElem_toArray, List.getElem_cons_zero, List.getElem_cons_succ, Act.put, List.setIfInBounds_toArray, List.set_cons_zero, List.set_cons_succ]
  refine walk_do rfl rfl rfl (fun K hK => ?_)
  go_simp
  refine (clone37_c S (S.pull 7).own_rd (one_flat one_oCells _) (by omega)).mono ?_
  rintro e w7 ⟨vt2, rfl, S⟩
  refine hK _ _ (fun h => by cases h) ?_
  clear hK K
  try simp only [List.getElem_toArray, List.getElem_cons_zero, List.getElem_cons_succ, Act.put, List.setIfInBounds_toArray, List.set_cons_zero, List.set_cons_succ]
  -- [t2, h2, b2, f2, p, files, tail, handles, trace, L]
  obtain ⟨x1, y1, rfl, _⟩ := S.own_form
  obtain ⟨x2, y2, rfl, _⟩ := (S.pull 1).own_form
  obtain ⟨x3, y3, rfl, _⟩ := (S.pull 2).own_form
  obtain ⟨x4, y4, rfl, _⟩ := (S.pull 3).own_form
  refine walk_pure rfl rfl rfl rfl (by intro w'; go_simp; with_reducible rfl) ?_
  simp only [List.getElem_toArray, List.getElem_cons_zero, List.getElem_cons_succ, Act.put, List.setIfInBounds_toArray, List.set_cons_zero, List.set_cons_succ]
  have S := S.allocC #[.slice x4 W.files.length y4, .slice x3 (boolsV W.fails).length y3, .slice x2 W.handles.length y2, .slice x1 W.trace.length y1] 78
  refine walk_do rfl rfl rfl (fun K hK => ?_)
  go_simp
  refine hK _ _ (fun h => by cases h) ?_
  clear hK K
  try simp only [List.getElem_toArray, List.getElem_cons_zero, List.getElem_cons_succ, Act.put, List.setIfInBounds_toArray, List.set_cons_zero, List.set_cons_succ]
  refine walk_pure rfl rfl rfl rfl (by intro w'; go_simp; with_reducible rfl) ?_
  refine walk_nil ?_
  have T := (((((S.pull 1).pull 2).pull 4).pull 3).pull 4).own_tail
  have T2 := (T.pull 2).pull 2
  have HS := Lib.hid T2
  clear S T T2
  go_wp2_with fail
  go_ret
  refine ⟨_, rfl, ?_⟩
  have S := HS.out
  have S := (St.world_close (W := W) (L := _ :: _ :: _ :: _ :: _ :: L) (by unfold worldL; exact S))
  have S2 := S.push 5
  simp only [push] at S2
  exact (St.world_close (p := p) (vf := vf) (vb := vb) (vh := vh) (vt := vt) (W := W) (L := worldAt _ W :: L) S2).pull 1
end
end Go.Proofs.Ytlpgekodoiioaaa
