/- slices.Clone of slots and of numbers. -/
import Derived.Test.YtciciaikajdenaaW15
set_option linter.unusedSimpArgs false
set_option linter.unusedVariables false
namespace Go.Proofs.Ytciciaikajdenaa
open Go.RowKit

def ClonePost (T sz n : Nat) (xs : List Value) (w : World) (e : Ending) (w' : World) : Prop := ∃ v, e = .returned v ∧ St w w' [ownS T sz v n xs]

set_option maxRecDepth 100000 in
theorem clone83_c (v : Value) (n : Nat) (xs : List Value) (w : World) (h : rd w 5 v n xs) (h1 : ∀ u ∈ xs, u.oneCell' = true) (hn : n ≤ 1000000) :
    Calls Try.prog 83 #[v] w fun e w' => ClonePost 124 5 n xs w e w' := by
  have hx := h
  obtain ⟨hl, hc⟩ := h
  obtain ⟨oa, cap, rfl⟩ : ∃ a cap, v = .slice a n cap := by
    rcases hc with ⟨⟨_, _, rfl⟩, e⟩ | ⟨b, off, cap, rfl, _⟩
    · exact ⟨_, _, by rw [e]⟩
    · exact ⟨_, _, rfl⟩
  cases oa with
  | none =>
    obtain rfl : n = 0 := by
      rcases hc with ⟨_, e⟩ | ⟨b, off, cap, e, _⟩
      · exact e
      · cases e
    obtain rfl : xs = [] := List.eq_nil_of_length_eq_zero (by simpa using hl)
    clear hl hx h1 hc
    have hnil := fun w => Lib.run_eql_slice_nil (P := Try.prog) w 107 124 none 0 cap 0 0 Try.underlying107
    go_enter Try.func83, Try.ntmps83
    go_wp2
    go_ret
    exact ⟨_, rfl, (St.refl w).own_nil⟩
  | some a =>
    have s0 := (St.refl w).allocC #[] 124
    have s1 : St w _ (ownS 124 5 (.slice (some ⟨w.heap.size, 0, none⟩) 0 0) 0 [] :: []) := St.own_mk (rest := []) s0 (by simp) (Nat.le_refl _) (Nat.zero_le _) (by simp)
    obtain ⟨ii, hi1, hz0, hz1, hz2⟩ := info_parts info124
    have A := Lib.hid fun o rest ops Q x => wpList_append_st (P := Try.prog) (o := o) (rest := rest) (ops := ops) (Q := Q) (a := x) s1 (hx.st s0) h1 hi1 hz0 hz1 hz2 rfl (by unfold maxLen; omega) (by omega) Try.underlying107
    clear hl hx h1 hc s0 s1 hi1 hz0 hz1 hz2 hn
    have hnil := fun w => Lib.run_eql_slice_nil (P := Try.prog) w 107 124 (some a) n cap 0 0 Try.underlying107
    go_enter Try.func83, Try.ntmps83
    go_wp2_with (at_builtin; refine A.out _ _ _ _ _ _ _ rfl rfl rfl rfl ?_; intro v' w1 S1 _; have S1 := Lib.hid S1)
    go_ret
    have S2 := S1.out
    simp only [Nat.zero_add, List.nil_append] at S2
    exact ⟨_, rfl, S2⟩

set_option maxRecDepth 100000 in
theorem clone84_c (v : Value) (n : Nat) (xs : List Value) (w : World) (h : rd w 1 v n xs) (h1 : ∀ u ∈ xs, u.oneCell' = true) (hn : n ≤ 1000000) :
    Calls Try.prog 84 #[v] w fun e w' => ClonePost 3 1 n xs w e w' := by
  have hx := h
  obtain ⟨hl, hc⟩ := h
  obtain ⟨oa, cap, rfl⟩ : ∃ a cap, v = .slice a n cap := by
    rcases hc with ⟨⟨_, _, rfl⟩, e⟩ | ⟨b, off, cap, rfl, _⟩
    · exact ⟨_, _, by rw [e]⟩
    · exact ⟨_, _, rfl⟩
  cases oa with
  | none =>
    obtain rfl : n = 0 := by
      rcases hc with ⟨_, e⟩ | ⟨b, off, cap, e, _⟩
      · exact e
      · cases e
    obtain rfl : xs = [] := List.eq_nil_of_length_eq_zero (by simpa using hl)
    clear hl hx h1 hc
    have hnil := fun w => Lib.run_eql_slice_nil (P := Try.prog) w 52 3 none 0 cap 0 0 Try.underlying52
    go_enter Try.func84, Try.ntmps84
    go_wp2
    go_ret
    exact ⟨_, rfl, (St.refl w).own_nil⟩
  | some a =>
    have s0 := (St.refl w).allocC #[] 3
    have s1 : St w _ (ownS 3 1 (.slice (some ⟨w.heap.size, 0, none⟩) 0 0) 0 [] :: []) := St.own_mk (rest := []) s0 (by simp) (Nat.le_refl _) (Nat.zero_le _) (by simp)
    obtain ⟨ii, hi1, hz0, hz1, hz2⟩ := info_parts info3
    have A := Lib.hid fun o rest ops Q x => wpList_append_st (P := Try.prog) (o := o) (rest := rest) (ops := ops) (Q := Q) (a := x) s1 (hx.st s0) h1 hi1 hz0 hz1 hz2 rfl (by unfold maxLen; omega) (by omega) Try.underlying52
    clear hl hx h1 hc s0 s1 hi1 hz0 hz1 hz2 hn
    have hnil := fun w => Lib.run_eql_slice_nil (P := Try.prog) w 52 3 (some a) n cap 0 0 Try.underlying52
    go_enter Try.func84, Try.ntmps84
    go_wp2_with (at_builtin; refine A.out _ _ _ _ _ _ _ rfl rfl rfl rfl ?_; intro v' w1 S1 _; have S1 := Lib.hid S1)
    go_ret
    have S2 := S1.out
    simp only [Nat.zero_add, List.nil_append] at S2
    exact ⟨_, rfl, S2⟩

end Go.Proofs.Ytciciaikajdenaa
