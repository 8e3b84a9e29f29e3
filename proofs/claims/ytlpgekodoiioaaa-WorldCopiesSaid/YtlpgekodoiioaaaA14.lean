/- Handles. -/
import Derived.Test.YtlpgekodoiioaaaA13
set_option linter.unusedSimpArgs false
set_option linter.unusedVariables false
namespace Go.Proofs.Ytlpgekodoiioaaa
open Go.RowKit

/-- The numbers of the handles that are open. -/
def opens : List AHandle → Nat → List Nat
  | [], _ => []
  | x :: l, i => if x.shut then opens l (i + 1) else i :: opens l (i + 1)
theorem opens_len : ∀ (l : List AHandle) (i : Nat), (opens l i).length ≤ l.length
  | [], _ => Nat.le_refl _
  | x :: l, i => by
    have := opens_len l (i + 1)
    unfold opens; split <;> simp <;> omega
theorem opens_app : ∀ (l m : List AHandle) (i : Nat), opens (l ++ m) i = opens l i ++ opens m (i + l.length)
  | [], m, i => rfl
  | x :: l, m, i => by
    have := opens_app l m (i + 1)
    simp only [List.cons_append, opens, List.length_cons]
    rw [this, show i + 1 + l.length = i + (l.length + 1) by omega]
    split <;> rfl
theorem opens_take {l : List AHandle} {k : Nat} {x : AHandle} (h : l[k]? = some x) : opens (l.take (k + 1)) 0 = opens (l.take k) 0 ++ (if x.shut then [] else [k]) := by
  have hk := (List.getElem?_eq_some_iff.1 h).1
  rw [List.take_add_one, h, opens_app, List.length_take, Nat.min_eq_left (by omega)]
  simp only [Option.toList_some, opens, Nat.zero_add]

def natsV (l : List Nat) : List Value := l.map fun (n : Nat) => Value.int .i64 (n : Int)
theorem one_natsV (l : List Nat) : ∀ u ∈ natsV l, u.oneCell' = true := by
  intro u hu
  obtain ⟨b, _, rfl⟩ := List.mem_map.1 hu
  rfl
theorem info3 : (Try.prog.info? 3).map (fun i => (i.zero, i.size, i.bytes)) = some (some (.int .i64 0), 1, 8) := by kernel_rfl

section
variable {W0 w : World} {L : List HProp} {p n : Nat} {W : AW}

def HandRel (W0 : World) (L : List HProp) (p : Nat) (vf vb vh vt : Value) (W : AW) (v i : Value) (wr : World) : Prop :=
  ∃ k : Nat, k ≤ W.handles.length ∧ i = .int .i64 k ∧ St W0 wr (ownS 3 1 v (opens (W.handles.take k) 0).length (natsV (opens (W.handles.take k) 0)) :: ownS 86 3 vh W.handles.length (W.handles.flatMap hCells) :: cellsB p #[vf, vb, vh, vt] 78 :: ownS 62 2 vf W.files.length (W.files.flatMap fCells) :: tailS 4 vb (boolsV W.fails) :: ownS 68 5 vt W.trace.length (W.trace.flatMap oCells) :: L)

set_option maxRecDepth 100000 in
set_option maxHeartbeats 1000000 in
theorem handles_c (h : St W0 w (worldAt p W :: L)) (hn : W.handles.length ≤ 100000) : Calls Try.prog 28 #[.pointer (some ⟨p, 0, none⟩)] w fun e w' =>
    ∃ v, e = .returned v ∧ St W0 w' (ownS 3 1 v (opens W.handles 0).length (natsV (opens W.handles 0)) :: worldAt p W :: L) := by
  obtain ⟨vf, vb, vh, vt, S⟩ := h.world_open
  unfold worldL at S
  simp only [List.cons_append, List.nil_append] at S
  obtain ⟨ha, hcap, rfl, _⟩ := (S.pull 3).own_form
  have d0 := S.cell
  have HS := Lib.hid S
  clear h S
  go_enter Try.func28, Try.ntmps28
  go_upto_region 4 with fail
  go_wp2_with fail
  go_loopw [3, 13] (fun v i wr => HandRel W0 L p vf vb (.slice ha W.handles.length hcap) vt W v i wr) (fun _ i _ => W.handles.length - (intOf i).toNat)
  case atStart => exact ⟨0, Nat.zero_le _, rfl, (HS.out.pull 3).own_nil⟩
  case round =>
    obtain ⟨k, hk, rfl, S⟩ := hrel
    clear HS d0
    obtain ⟨vo, ocap, rfl, _⟩ := S.own_form
    by_cases hlt : k < W.handles.length
    · obtain ⟨x, hx⟩ : ∃ x, W.handles[k]? = some x := ⟨_, List.getElem?_eq_getElem hlt⟩
      obtain ⟨hl, hc⟩ := St.own_cases (S.pull 1)
      obtain ⟨bh, cap, rest, e0, m1, m2, m3, T⟩ := hc.resolve_left (fun q => by have := q.2.1; omega)
      injection e0 with e1 _ e3
      subst e1 e3
      obtain ⟨c0, c1, c2⟩ := handle_cells T hx
      have HT := Lib.hid (T.allocC #[.int .i64 x.file, .int .i64 x.pos, .bool x.shut] 86)
      have HX := Lib.hid hx
      have HM := Lib.hid (And.intro hl (And.intro m1 (And.intro m2 m3)))
      have OT := Lib.hid (opens_take hx)
      have ol := opens_len (W.handles.take k) 0
      rw [List.length_take] at ol
      clear S T hc hx hl m1 m2 m3
      go_upto_region 7 with fail
      generalize wr.heap.size = bx at HT ⊢
      refine abs_wp HT.out ?_
      clear HT c0 c1 c2
      intro w2 S
      have d0 := S.cell
      -- [bx, bh, out, p, files, tail, trace, L]
      obtain ⟨file, pos, shut⟩ := x
      cases shut with
      | true =>
        go_wp2_with fail
        refine ⟨⟨k + 1, by omega, by go_num, ?_⟩, by simp [intOf]; omega⟩
        rw [OT.out]
        simp only [if_true, List.append_nil]
        exact (St.own_mk ((S.tail)) HM.out.1 HM.out.2.1 HM.out.2.2.1 HM.out.2.2.2).pull 1
      | false =>
        have S1 := S.tail.allocC #[Value.int .i64 k] 3
        obtain ⟨ii, hi1, hz0, hz1, hz2⟩ := info_parts info3
        -- [b9, bh, out, p, ..]
        have A := Lib.hid fun o rest ops Q x => wpList_append_st (P := Try.prog) (o := o) (rest := rest) (ops := ops) (Q := Q) (a := x) (S1.pull 2) (rd_cells (sz := 1) (n := 1) (cap := 1) S1 (Nat.le_refl _) rfl) (by intro u hu; simp at hu; subst hu; rfl) hi1 hz0 hz1 hz2 rfl (by unfold maxLen; omega) (by omega) Try.underlying58
        clear S S1 hi1 hz0 hz1 hz2
        go_wp2_with (at_builtin; refine A.out _ _ _ _ _ _ _ rfl rfl rfl rfl ?_; intro v' w7 S1 _; have HS := Lib.hid S1; clear S1)
        refine ⟨⟨k + 1, by omega, by go_num, ?_⟩, by simp [intOf]; omega⟩
        rw [OT.out]
        simp only [if_false, Bool.false_eq_true]
        have S := (HS.out.pull 1).tail
        have S := ((St.own_mk (S.pull 1) HM.out.1 HM.out.2.1 HM.out.2.2.1 HM.out.2.2.2).pull 1)
        rw [List.length_append]
        unfold natsV at S ⊢
        rw [List.map_append]
        exact S
    · have hk' : k = W.handles.length := by omega
      subst hk'
      simp only [List.take_length] at S ⊢
      have HS := Lib.hid S
      clear S
      go_wp2_with fail
      go_ret
      refine ⟨.slice vo (opens W.handles 0).length ocap, rfl, ?_⟩
      -- [out, handles, p, files, tail, trace, L]
      have S := HS.out
      have T := ((((S.pull 5).pull 2).pull 5).pull 5).pull 5
      simp only [pull] at T
      exact (St.world_close (p := p) (vf := vf) (vb := vb) (vh := .slice ha W.handles.length hcap) (vt := vt) (W := W) (L := _ :: L) T).pull 1
end
end Go.Proofs.Ytlpgekodoiioaaa
