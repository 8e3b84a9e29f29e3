/- note, deferred. -/
import Derived.Test.YtlpgekodoiioaaaA1
import Derived.Defers
set_option linter.unusedSimpArgs false
set_option linter.unusedVariables false
namespace Go.Proofs.Ytlpgekodoiioaaa
open Go.RowKit

theorem info68 : (Try.prog.info? 68).map (fun i => (i.zero, i.size, i.bytes)) = some (some (.agg #[.int .u8 0, .int .i64 0, .string ⟨#[]⟩, .string ⟨#[]⟩, .bool false]), 5, 56) := by kernel_rfl

theorem one_oCells (o : AOp) : ∀ u ∈ oCells o, u.oneCell' = true := by
  intro u hu
  simp [oCells] at hu
  rcases hu with rfl | rfl | rfl | rfl | rfl <;> rfl

section
variable {W0 w : World} {L : List HProp} {p b : Nat} {W : AW} {o : AOp}

def NotePost (W0 : World) (L : List HProp) (p b : Nat) (W : AW) (o : AOp) (e : Ending) (w' : World) : Prop :=
  e = .returned (.tuple #[]) ∧ St W0 w' (worldAt p (W.note o) :: L)

set_option maxRecDepth 100000 in
theorem note_d (h : St W0 w (cellsB b (oCells o).toArray 68 :: worldAt p W :: L)) (hn : W.trace.length ≤ 100000) (u : FrameMode) :
    CallsD Try.prog 38 #[.pointer (some ⟨p, 0, none⟩), .pointer (some ⟨b, 0, none⟩)] u w fun e u' w' => u' = u ∧ NotePost W0 L p b W o e w' := by
  obtain ⟨vf, vb, vh, vt, hO⟩ := (h.pull 1).world_open
  unfold worldL at hO
  simp only [List.cons_append, List.nil_append] at hO
  obtain ⟨ta, tcap, rfl, _⟩ := (hO.pull 4).own_form
  have HS := Lib.hid hO
  clear h hO
  go_enter_d Try.func38, Try.ntmps38
  refine wp_region_st HS.out [0, 1, 2, 3, 4, 5, 6, 7, 8, 9, 10, 11, 12] (fun w' => (∀ o, w'.cell? ⟨p, o, none⟩ = #[vf, vb, vh, Value.slice ta W.trace.length tcap][o]?) ∧ (∀ i, w'.cell? ⟨b, i, none⟩ = (oCells o).toArray[i]?)) [4, 7] [8, 9, 12] [9, 12] (by kernel_rfl) (by kernel_rfl) (fun c d v a w h => by cases d <;> exact h) ?_
  clear HS
  intro w3 S
  unfold oCells at S ⊢
  have HF := Lib.hid (And.intro S.cell (S.pull 5).cell)
  iterate 8
    (first
      | refine walk_load rfl rfl rfl HF.out rfl (by rintro w' ⟨g0, g1⟩; go_simp; with_reducible rfl) ?_
      | refine walk_pure rfl rfl rfl rfl (by intro w'; go_simp; with_reducible rfl) ?_)
    simp only [List.getElem_toArray, List.getElem_cons_zero, List.getElem_cons_succ, Act.put, List.setIfInBounds_toArray, List.set_cons_zero, List.set_cons_succ]
  clear HF
  have S := S.allocC #[Value.int .u8 o.kind, .int .i64 o.h, .string o.name, .string o.text, .bool o.ok] 68
  refine walk_do rfl rfl rfl (fun K hK => ?_)
  go_simp
  refine hK _ _ (fun _ => And.intro (S.pull 1).cell (S.pull 6).cell) ?_
  clear hK K
  try simp only [List.getElem_toArray, List.getElem_cons_zero, List.getElem_cons_succ, Act.put, List.setIfInBounds_toArray, List.set_cons_zero, List.set_cons_succ]
  generalize w3.heap.size = B9 at S ⊢
  refine abs_walk S ?_
  clear S
  intro w4 S
  -- [B9, p, files, tail, handles, trace, b, L]
  obtain ⟨ii, hi1, hz0, hz1, hz2⟩ := info_parts info68
  refine walk_do rfl rfl rfl (fun K hK => ?_)
  refine wp_append_st (S.pull 5) (rd_cells (sz := 5) (n := 1) (cap := 1) S (Nat.le_refl _) rfl) (one_oCells o) hi1 hz0 hz1 hz2 rfl (by unfold maxLen; omega) (by omega) Try.underlying47 _ _ rfl rfl rfl ?_
  intro vt' w5 S2 _
  obtain ⟨a2, cap2, rfl, _⟩ := S2.own_form
  refine hK _ _ (fun q => by cases q) ?_
  clear hK K S
  try simp only [List.getElem_toArray, List.getElem_cons_zero, List.getElem_cons_succ, Act.put, List.setIfInBounds_toArray, List.set_cons_zero, List.set_cons_succ]
  iterate 2
    refine walk_pure rfl rfl rfl rfl (by intro w'; go_simp; with_reducible rfl) ?_
    simp only [List.getElem_toArray, List.getElem_cons_zero, List.getElem_cons_succ, Act.put, List.setIfInBounds_toArray, List.set_cons_zero, List.set_cons_succ]
  -- [trace', B9, p, files, tail, handles, b, L]
  have cp := (S2.pull 2).cell
  have fp := (S2.pull 2).free
  refine walk_do rfl rfl rfl (fun K hK => ?_)
  go_simp
  refine hK _ _ (fun h => by cases h) (walk_nil ?_)
  clear hK K cp fp
  have S := (S2.pull 2).set 3 (.slice a2 (W.trace.length + 1) cap2)
  simp only [List.setIfInBounds_toArray, List.set_cons_zero, List.set_cons_succ] at S
  have HS := Lib.hid S
  clear S S2
  go_wp2_with fail
  refine bodyPost_ret (results_none rfl _ _ _) rfl ⟨rfl, ?_⟩
  -- [p, trace', B9, files, tail, handles, b, L]
  have T := ((HS.out.pull 6).tail.pull 2).tail
  -- [p, trace', files, tail, handles, L]
  refine St.world_close (vf := vf) (vb := vb) (vh := vh) (vt := .slice a2 (W.trace.length + 1) cap2) ?_
  have e : (W.note o).trace.flatMap oCells = W.trace.flatMap oCells ++ [Value.int .u8 o.kind, .int .i64 o.h, .string o.name, .string o.text, .bool o.ok] := by simp [AW.note, oCells]
  have e2 : (W.note o).trace.length = W.trace.length + 1 := by simp [AW.note]
  unfold worldL
  rw [e, e2]
  exact (((T.pull 4).pull 4).pull 4).pull 3
end
end Go.Proofs.Ytlpgekodoiioaaa
