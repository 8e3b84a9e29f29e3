/- Files, Trace, Copy. -/
import Derived.Test.YtlpgekodoiioaaaA11
set_option linter.unusedSimpArgs false
set_option linter.unusedVariables false
namespace Go.Proofs.Ytlpgekodoiioaaa
open Go.RowKit

theorem one_flat {α : Type} {f : α → List Value} (hf : ∀ x, ∀ u ∈ f x, u.oneCell' = true) (l : List α) : ∀ u ∈ l.flatMap f, u.oneCell' = true := by
  intro u hu
  obtain ⟨x, _, h⟩ := List.mem_flatMap.1 hu
  exact hf x u h
theorem one_fCells (o : AFile) : ∀ u ∈ fCells o, u.oneCell' = true := by
  intro u hu
  simp only [fCells, List.mem_cons, List.not_mem_nil, or_false] at hu
  rcases hu with rfl | rfl <;> rfl
theorem one_boolsV (l : List Bool) : ∀ u ∈ boolsV l, u.oneCell' = true := by
  intro u hu
  obtain ⟨b, _, rfl⟩ := List.mem_map.1 hu
  rfl

section
variable {W0 w : World} {L : List HProp} {p : Nat} {W : AW}

theorem St.tail_rd {T : TypeId} {v : Value} {bs : List Value} (h : St W0 w (tailS T v bs :: L)) : rd w 1 v bs.length bs := by
  rcases h.tail_cases with ⟨⟨a, c, e⟩, h0⟩ | ⟨b, cap, pre, rest, e, h1, h2, h3, S⟩
  · subst h0; exact ⟨by simp, .inl ⟨⟨a, c, e⟩, rfl⟩⟩
  · refine ⟨by simp, .inr ⟨b, pre.length, cap, e, h1, fun _ => S.lt, fun j u hj => ?_⟩⟩
    rw [S.cell, List.getElem?_toArray, List.append_assoc, List.getElem?_append_right (by omega), Nat.add_sub_cancel_left, List.getElem?_append_left (List.getElem?_eq_some_iff.1 hj).1]
    exact hj

set_option maxRecDepth 100000 in
theorem files_c (h : St W0 w (worldAt p W :: L)) (hn : W.files.length ≤ 100000) : Calls Try.prog 26 #[.pointer (some ⟨p, 0, none⟩)] w fun e w' =>
    ∃ v, e = .returned v ∧ St W0 w' (ownS 62 2 v W.files.length (W.files.flatMap fCells) :: worldAt p W :: L) := by
  obtain ⟨vf, vb, vh, vt, S⟩ := h.world_open
  unfold worldL at S
  simp only [List.cons_append, List.nil_append] at S
  have d0 := S.cell
  have C := Lib.hid (clone34_c S (S.pull 1).own_rd (one_flat one_fCells _) (by omega))
  clear S h
  go_enter Try.func26, Try.ntmps26
  go_wp2_with (go_at_call 34; refine C.out.mono ?_; rintro e w2 ⟨v', rfl, S⟩; have HS := Lib.hid S; clear S)
  go_ret
  refine ⟨_, rfl, ?_⟩
  exact (St.world_close (p := p) (W := W) (L := _ :: L) (by unfold worldL; exact HS.out.push 5)).pull 1
set_option maxRecDepth 100000 in
theorem trace_c (h : St W0 w (worldAt p W :: L)) (hn : W.trace.length ≤ 100000) : Calls Try.prog 21 #[.pointer (some ⟨p, 0, none⟩)] w fun e w' =>
    ∃ v, e = .returned v ∧ St W0 w' (ownS 68 5 v W.trace.length (W.trace.flatMap oCells) :: worldAt p W :: L) := by
  obtain ⟨vf, vb, vh, vt, S⟩ := h.world_open
  unfold worldL at S
  simp only [List.cons_append, List.nil_append] at S
  have d0 := S.cell
  have C := Lib.hid (clone37_c S (S.pull 4).own_rd (one_flat one_oCells _) (by omega))
  clear S h
  go_enter Try.func21, Try.ntmps21
  go_wp2_with (go_at_call 37; refine C.out.mono ?_; rintro e w2 ⟨v', rfl, S⟩; have HS := Lib.hid S; clear S)
  go_ret
  refine ⟨_, rfl, ?_⟩
  exact (St.world_close (p := p) (W := W) (L := _ :: L) (by unfold worldL; exact HS.out.push 5)).pull 1

theorem nil26_c : Calls Try.prog 26 #[.pointer none] w fun e w' => e = .returned (.slice none 0 0) ∧ w' = w := by
  go_enter Try.func26, Try.ntmps26
  go_wp2
  go_ret
  exact ⟨rfl, rfl⟩

theorem nil21_c : Calls Try.prog 21 #[.pointer none] w fun e w' => e = .returned (.slice none 0 0) ∧ w' = w := by
  go_enter Try.func21, Try.ntmps21
  go_wp2
  go_ret
  exact ⟨rfl, rfl⟩

theorem nil28_c : Calls Try.prog 28 #[.pointer none] w fun e w' => e = .returned (.slice none 0 0) ∧ w' = w := by
  go_enter Try.func28, Try.ntmps28
  go_wp2
  go_ret
  exact ⟨rfl, rfl⟩

theorem nil14_c : Calls Try.prog 14 #[.pointer none] w fun e w' => e = .returned (.pointer none) ∧ w' = w := by
  go_enter Try.func14, Try.ntmps14
  go_wp2
  go_ret
  exact ⟨rfl, rfl⟩

theorem nil42_c (x : Int) : Calls Try.prog 42 #[.pointer none, .int .i64 x] w fun e w' => e = .returned (.tuple #[.pointer none, .int .i64 1]) ∧ w' = w := by
  go_enter Try.func42, Try.ntmps42
  go_wp2
  go_ret2
  exact ⟨rfl, rfl⟩
theorem nil22_c (x : Int) : Calls Try.prog 22 #[.pointer none, .int .i64 x] w fun e w' => e = .returned (.int .i64 1) ∧ w' = w := by
  go_enter Try.func22, Try.ntmps22
  go_wp2_with (go_at_call 42; refine (nil42_c x).mono ?_; rintro e w' ⟨rfl, rfl⟩)
  go_ret
  exact ⟨rfl, rfl⟩
theorem nil15_c (s : ByteArray) : Calls Try.prog 15 #[.pointer none, .string s] w fun e w' => e = .returned (.tuple #[.int .i64 0, .bool false]) ∧ St w w' [cellsB w.heap.size #[.string s] 9] := by
  have HS := Lib.hid ((St.refl w).allocC #[Value.string s] 9)
  go_enter_defers Try.func15, Try.ntmps15
  go_wp2
  exact ⟨.tuple #[.int .i64 0, .bool false], by simp [results, Try.results15, go_sem], rfl, HS.out⟩
theorem nil17_c (x : Int) : Calls Try.prog 17 #[.pointer none, .int .i64 x] w fun e w' => e = .returned (.tuple #[.bool false, .int .i64 1]) ∧ w' = w := by
  go_enter_defers Try.func17, Try.ntmps17
  go_wp2_with (go_at_call 42; refine (nil42_c x).mono ?_; rintro e w' ⟨rfl, rfl⟩)
  exact ⟨.tuple #[.bool false, .int .i64 1], by simp [results, Try.results17, go_sem], rfl, rfl⟩
theorem nil16_c (x : Int) (s : ByteArray) : Calls Try.prog 16 #[.pointer none, .int .i64 x, .string s] w fun e w' => e = .returned (.tuple #[.bool false, .int .i64 1]) ∧ w' = w := by
  go_enter_defers Try.func16, Try.ntmps16
  go_wp2_with (go_at_call 42; refine (nil42_c x).mono ?_; rintro e w' ⟨rfl, rfl⟩)
  exact ⟨.tuple #[.bool false, .int .i64 1], by simp [results, Try.results16, go_sem], rfl, rfl⟩
theorem nil23_c (x : Int) : Calls Try.prog 23 #[.pointer none, .int .i64 x] w fun e w' => e = .returned (.tuple #[.int .u8 0, .string ⟨#[]⟩, .int .i64 1]) ∧ w' = w := by
  go_enter_defers Try.func23, Try.ntmps23
  go_wp2_with (go_at_call 42; refine (nil42_c x).mono ?_; rintro e w' ⟨rfl, rfl⟩)
  exact ⟨.tuple #[.int .u8 0, .string ⟨#[]⟩, .int .i64 1], by simp [results, Try.results23, go_sem], rfl, rfl⟩
end
end Go.Proofs.Ytlpgekodoiioaaa
