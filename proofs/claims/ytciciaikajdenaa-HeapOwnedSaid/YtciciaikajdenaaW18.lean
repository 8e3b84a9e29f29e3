/- The heap's functions of no heap. -/
import Derived.Test.YtciciaikajdenaaW17
set_option linter.unusedSimpArgs false
set_option linter.unusedVariables false
namespace Go.Proofs.Ytciciaikajdenaa
open Go.RowKit

theorem live_nil (w : World) : Calls Try.prog 33 #[.pointer none] w fun e w' => e = .returned (.int .i64 0) ∧ w' = w := by
  go_enter Try.func33, Try.ntmps33
  go_wp2
  go_ret
  exact ⟨rfl, rfl⟩
theorem left_nil (w : World) : Calls Try.prog 35 #[.pointer none] w fun e w' => e = .returned (.int .i64 0) ∧ w' = w := by
  go_enter Try.func35, Try.ntmps35
  go_wp2
  go_ret
  exact ⟨rfl, rfl⟩
theorem most_nil (w : World) : Calls Try.prog 36 #[.pointer none] w fun e w' => e = .returned (.int .i64 0) ∧ w' = w := by
  go_enter Try.func36, Try.ntmps36
  go_wp2
  go_ret
  exact ⟨rfl, rfl⟩
theorem cells_nil (w : World) : Calls Try.prog 38 #[.pointer none] w fun e w' => e = .returned (.slice none 0 0) ∧ w' = w := by
  go_enter Try.func38, Try.ntmps38
  go_wp2
  go_ret
  exact ⟨rfl, rfl⟩
theorem copy_nil (w : World) : Calls Try.prog 31 #[.pointer none] w fun e w' => e = .returned (.pointer none) ∧ w' = w := by
  go_enter Try.func31, Try.ntmps31
  go_wp2
  go_ret
  exact ⟨rfl, rfl⟩

set_option maxRecDepth 100000 in
theorem alloc_nil (c : ACell) (a : Option Addr) (n cap : Nat) (w : World) : Calls Try.prog 20 #[.pointer none, cv c (.slice a n cap)] w fun e w' => e = .returned (.tuple #[wv .zero, .int .i64 1]) ∧ Below w.heap.size w w' := by
  unfold cv
  go_enter Try.func20, Try.ntmps20
  go_wp2
  refine bodyPost_ret (v := .tuple #[.agg #[.int .u8 0, .int .i64 0, .string ⟨#[]⟩, .int .i64 0], .int .i64 1]) (by simp [results, Try.results20, go_sem]) rfl ⟨rfl, ?_⟩
  exact ((Below.refl _ _).alloc (Nat.le_refl _) _).alloc (by simp) _

set_option maxRecDepth 100000 in
theorem get_nil (x : AWord) (w : World) : Calls Try.prog 22 #[.pointer none, wv x] w fun e w' => e = .returned (.tuple #[.agg #[.int .u8 0, .int .i64 0, .slice none 0 0], .int .i64 1]) ∧ Below w.heap.size w w' := by
  have AT := Lib.hid (at_bad (q := .pointer none) (x := x) (k := 1) (w := (((w.alloc (.cells #[Value.int .u8 x.k, .int .i64 x.n, .string x.s, .int .i64 x.g] 36)).alloc (.cells #[Value.int .u8 0, .int .i64 0, .slice none 0 0] 34)).alloc (.cells #[Value.int .u8 0, .int .i64 0, .slice none 0 0] 118)))
      (by decide) (.func (.func 77) #[.pointer (some ⟨w.heap.size + 1 + 1, 0, none⟩)] #[]) (fun w' hb => find_nil x w'))
  have HS := Lib.hid ((((St.refl w).allocC #[Value.int .u8 x.k, .int .i64 x.n, .string x.s, .int .i64 x.g] 36).allocC #[Value.int .u8 0, .int .i64 0, .slice none 0 0] 34).allocC #[Value.int .u8 0, .int .i64 0, .slice none 0 0] 118)
  unfold wv at *
  go_enter Try.func22, Try.ntmps22
  go_wp2_with (go_at_call 76; refine AT.out.mono ?_; rintro e2 w2 ⟨rfl, hb⟩; have S := HS.out.mono hb; simp only [World.size_alloc] at S; have d := S.cell; have r := (S.pull 1).cell; have rf := (S.pull 1).free; have SS := Lib.hid S; clear S hb)
  have S2 := (((SS.out.pull 1).set 0 (.int .u8 0)).set 1 (.int .i64 0)).set 2 (.slice none 0 0)
  have d2 := S2.cell
  refine bodyPost_ret (v := .tuple #[.agg #[.int .u8 0, .int .i64 0, .slice none 0 0], .int .i64 1]) (by simp [results, Try.results22, go_sem, d2]) rfl ⟨rfl, ?_⟩
  exact S2.below

set_option maxRecDepth 100000 in
theorem set_nil (x : AWord) (i : Int) (y : AWord) (w : World) : Calls Try.prog 27 #[.pointer none, wv x, .int .i64 i, wv y] w fun e w' => e = .returned (.tuple #[wv .zero, .int .i64 1]) ∧ Below w.heap.size w w' := by
  have AT := Lib.hid (at_bad (q := .pointer none) (x := x) (k := 1) (w := setWorld w i x y)
      (by decide) (.func (.func 80) #[] #[.pointer (some ⟨w.heap.size + 1, 0, none⟩), .pointer (some ⟨w.heap.size + 2, 0, none⟩), .pointer (some ⟨w.heap.size + 4, 0, none⟩)]) (fun w' hb => find_nil x w'))
  have s0 := (((((St.refl w).allocC #[Value.int .u8 x.k, .int .i64 x.n, .string x.s, .int .i64 x.g] 36).allocC #[Value.int .i64 i] 3).allocC #[Value.int .u8 y.k, .int .i64 y.n, .string y.s, .int .i64 y.g] 36).allocC #[Value.int .u8 0, .int .i64 0, .string ⟨#[]⟩, .int .i64 0] 36).allocC #[Value.int .u8 0, .int .i64 0, .string ⟨#[]⟩, .int .i64 0] 36
  simp only [World.size_alloc, Nat.add_assoc, Nat.reduceAdd] at s0
  have HS := Lib.hid s0
  clear s0
  unfold wv setWorld at *
  go_enter Try.func27, Try.ntmps27
  go_wp2_with (go_at_call 76; refine AT.out.mono ?_; rintro e2 w2 ⟨rfl, hb⟩; have S := HS.out.mono hb; have d0 := S.cell; have d1 := (S.pull 1).cell; have f1 := (S.pull 1).free; have SS := Lib.hid S; clear S hb)
  simp only [Nat.add_assoc, Nat.reduceAdd]
  have S2 := ((((SS.out.pull 1).set 0 (.int .u8 0)).set 1 (.int .i64 0)).set 2 (.string ⟨#[]⟩)).set 3 (.int .i64 0)
  have d2 := S2.cell
  refine bodyPost_ret (v := .tuple #[.agg #[.int .u8 0, .int .i64 0, .string ⟨#[]⟩, .int .i64 0], .int .i64 1]) (by simp [results, Try.results27, go_sem, d2]) rfl ⟨rfl, S2.below⟩

set_option maxRecDepth 100000 in
theorem drop_nil (x : AWord) (w : World) : Calls Try.prog 24 #[.pointer none, wv x] w fun e w' => e = .returned (.tuple #[.agg #[.int .u8 0, .int .i64 0, .slice none 0 0], .int .i64 1]) ∧ Below w.heap.size w w' := by
  have AT := Lib.hid (at_bad (q := .pointer none) (x := x) (k := 1) (w := ((((w.alloc (.cells #[Value.pointer none] 25)).alloc (.cells #[Value.int .u8 x.k, .int .i64 x.n, .string x.s, .int .i64 x.g] 36)).alloc (.cells #[Value.int .u8 0, .int .i64 0, .slice none 0 0] 34)).alloc (.cells #[Value.int .u8 0, .int .i64 0, .slice none 0 0] 118)).alloc (.cells #[Value.pointer (some ⟨w.heap.size + 3, 0, none⟩)] 116))
      (by decide) (.func (.func 79) #[] #[.pointer (some ⟨w.heap.size + 4, 0, none⟩), .pointer (some ⟨w.heap.size, 0, none⟩), .pointer (some ⟨w.heap.size + 1, 0, none⟩)]) (fun w' hb => find_nil x w'))
  have s0 := (((((St.refl w).allocC #[Value.pointer none] 25).allocC #[Value.int .u8 x.k, .int .i64 x.n, .string x.s, .int .i64 x.g] 36).allocC #[Value.int .u8 0, .int .i64 0, .slice none 0 0] 34).allocC #[Value.int .u8 0, .int .i64 0, .slice none 0 0] 118).allocC #[Value.pointer (some ⟨w.heap.size + 3, 0, none⟩)] 116
  simp only [World.size_alloc, Nat.add_assoc, Nat.reduceAdd] at s0
  have HS := Lib.hid s0
  clear s0
  unfold wv at *
  go_enter Try.func24, Try.ntmps24
  go_wp2_with (go_at_call 76; refine AT.out.mono ?_; rintro e2 w2 ⟨rfl, hb⟩; have S := HS.out.mono hb; have d0 := S.cell; have d1 := (S.pull 1).cell; have d2 := (S.pull 2).cell; have f2 := (S.pull 2).free; have SS := Lib.hid S; clear S hb)
  simp only [Nat.add_assoc, Nat.reduceAdd]
  have S2 := (((SS.out.pull 2).set 0 (.int .u8 0)).set 1 (.int .i64 0)).set 2 (.slice none 0 0)
  have d2 := S2.cell
  refine bodyPost_ret (v := .tuple #[.agg #[.int .u8 0, .int .i64 0, .slice none 0 0], .int .i64 1]) (by simp [results, Try.results24, go_sem, d2]) rfl ⟨rfl, S2.below⟩

set_option maxRecDepth 100000 in
theorem renew_nil (x : AWord) (c : ACell) (a : Option Addr) (n cap : Nat) (w : World) : Calls Try.prog 29 #[.pointer none, wv x, cv c (.slice a n cap)] w fun e w' => e = .returned (.tuple #[wv .zero, .int .i64 1]) ∧ Below w.heap.size w w' := by
  have AT := Lib.hid (at_bad (q := .pointer none) (x := x) (k := 1) (w := renewWorld w x c (.slice a n cap))
      (by decide) (.func (.func 81) #[] #[.pointer (some ⟨w.heap.size + 1, 0, none⟩)]) (fun w' hb => find_nil x w'))
  have s0 := ((((St.refl w).allocC #[Value.int .u8 x.k, .int .i64 x.n, .string x.s, .int .i64 x.g] 36).allocC #[Value.int .u8 c.k, .int .i64 c.n, .slice a n cap] 34).allocC #[Value.int .u8 0, .int .i64 0, .string ⟨#[]⟩, .int .i64 0] 36)
  simp only [World.size_alloc, Nat.add_assoc, Nat.reduceAdd] at s0
  have HS := Lib.hid s0
  clear s0
  unfold wv cv renewWorld at *
  go_enter Try.func29, Try.ntmps29
  go_wp2_with (go_at_call 76; refine AT.out.mono ?_; rintro e2 w2 ⟨rfl, hb⟩; have S := HS.out.mono hb; have d0 := S.cell; have f0 := S.free; have SS := Lib.hid S; clear S hb)
  simp only [Nat.add_assoc, Nat.reduceAdd]
  have S2 := (((SS.out.set 0 (.int .u8 0)).set 1 (.int .i64 0)).set 2 (.string ⟨#[]⟩)).set 3 (.int .i64 0)
  have d2 := S2.cell
  refine bodyPost_ret (v := .tuple #[.agg #[.int .u8 0, .int .i64 0, .string ⟨#[]⟩, .int .i64 0], .int .i64 1]) (by simp [results, Try.results29, go_sem, d2]) rfl ⟨rfl, S2.below⟩

end Go.Proofs.Ytciciaikajdenaa
