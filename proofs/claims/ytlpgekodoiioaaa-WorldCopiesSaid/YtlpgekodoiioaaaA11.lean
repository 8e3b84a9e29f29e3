/- slices.Clone, four times. Printed by gen_clone.py. -/
import Derived.Test.YtlpgekodoiioaaaA10
set_option linter.unusedSimpArgs false
set_option linter.unusedVariables false
namespace Go.Proofs.Ytlpgekodoiioaaa
open Go.RowKit
theorem info62 : (Try.prog.info? 62).map (fun i => (i.zero, i.size, i.bytes)) = some (some (.agg #[.string ⟨#[]⟩, .string ⟨#[]⟩]), 2, 32) := by kernel_rfl
theorem info4 : (Try.prog.info? 4).map (fun i => (i.zero, i.size, i.bytes)) = some (some (.bool false), 1, 1) := by kernel_rfl


set_option maxRecDepth 100000 in
theorem clone34_c {W0 w : World} {L : List HProp} {v : Value} {n : Nat} {xs : List Value} (h : St W0 w L) (hr : rd w 2 v n xs) (h1 : ∀ u ∈ xs, u.oneCell' = true) (hn : n ≤ 200000) :
    Calls Try.prog 34 #[v] w fun e w' => ∃ v', e = .returned v' ∧ St W0 w' (ownS 62 2 v' n xs :: L) := by
  obtain ⟨ii, hi1, hz0, hz1, hz2⟩ := info_parts info62
  by_cases hnil : ∃ c, v = .slice none 0 c
  · obtain ⟨c, rfl⟩ := hnil
    have hx : xs = [] ∧ n = 0 := by
      obtain ⟨hl, ⟨_, h0⟩ | ⟨_, _, _, e, _⟩⟩ := hr
      · subst h0; simp at hl; exact ⟨hl, rfl⟩
      · cases e
    obtain ⟨rfl, rfl⟩ := hx
    have HS := Lib.hid (h.own_nil (T := 62) (sz := 2))
    clear h hr h1 hi1 hz0 hz1 hz2
    have hb : ∀ w, Sem.run Try.prog (binOp .eql 22 (.slice none 0 c) (.slice none 0 0)) w = .ok (.bool true) w := by
      intro w
      exact Lib.run_eql_slice_nil w 22 62 none 0 c 0 0 Try.underlying22
    go_enter Try.func34, Try.ntmps34
    go_wp2
    go_ret
    exact ⟨_, rfl, HS.out⟩
  · obtain ⟨a, len, cap, rfl⟩ : ∃ a len cap, v = .slice (some a) len cap := by
      obtain ⟨hl, ⟨⟨a, c, e⟩, h0⟩ | ⟨b, off, cap, e, _⟩⟩ := hr
      · cases a with
        | none => exact absurd ⟨c, e⟩ hnil
        | some a => exact ⟨a, _, _, e⟩
      · exact ⟨_, _, _, e⟩
    clear hnil
    have hb : ∀ w, Sem.run Try.prog (binOp .eql 22 (.slice (some a) len cap) (.slice none 0 0)) w = .ok (.bool false) w := by
      intro w
      exact Lib.run_eql_slice_nil w 22 62 (some a) len cap 0 0 Try.underlying22
    have S := h.allocC #[] 62
    have S1 := St.own_mk (sz := 2) (n := 0) (cap := 0) (xs := []) (rest := []) (by exact S) (by simp) (Nat.le_refl _) (Nat.zero_le _) (by simp)
    have A := Lib.hid fun o rest ops Q x => wpList_append_st (P := Try.prog) (o := o) (rest := rest) (ops := ops) (Q := Q) (a := x) S1 (hr.mono ((Below.refl _ _).alloc (Nat.le_refl _) _)) h1 hi1 hz0 hz1 hz2 rfl (by unfold maxLen; omega) (by omega) Try.underlying22
    clear h hr h1 hi1 hz0 hz1 hz2 S S1
    go_enter Try.func34, Try.ntmps34
    go_wp2_with (at_builtin; refine A.out _ _ _ _ _ _ _ rfl rfl rfl rfl ?_; intro v' w7 S1 _; have HS := Lib.hid S1; clear S1)
    go_ret
    have S := HS.out
    rw [List.nil_append, Nat.zero_add] at S
    exact ⟨_, rfl, S⟩


set_option maxRecDepth 100000 in
theorem clone35_c {W0 w : World} {L : List HProp} {v : Value} {n : Nat} {xs : List Value} (h : St W0 w L) (hr : rd w 1 v n xs) (h1 : ∀ u ∈ xs, u.oneCell' = true) (hn : n ≤ 200000) :
    Calls Try.prog 35 #[v] w fun e w' => ∃ v', e = .returned v' ∧ St W0 w' (ownS 4 1 v' n xs :: L) := by
  obtain ⟨ii, hi1, hz0, hz1, hz2⟩ := info_parts info4
  by_cases hnil : ∃ c, v = .slice none 0 c
  · obtain ⟨c, rfl⟩ := hnil
    have hx : xs = [] ∧ n = 0 := by
      obtain ⟨hl, ⟨_, h0⟩ | ⟨_, _, _, e, _⟩⟩ := hr
      · subst h0; simp at hl; exact ⟨hl, rfl⟩
      · cases e
    obtain ⟨rfl, rfl⟩ := hx
    have HS := Lib.hid (h.own_nil (T := 4) (sz := 1))
    clear h hr h1 hi1 hz0 hz1 hz2
    have hb : ∀ w, Sem.run Try.prog (binOp .eql 23 (.slice none 0 c) (.slice none 0 0)) w = .ok (.bool true) w := by
      intro w
      exact Lib.run_eql_slice_nil w 23 4 none 0 c 0 0 Try.underlying23
    go_enter Try.func35, Try.ntmps35
    go_wp2
    go_ret
    exact ⟨_, rfl, HS.out⟩
  · obtain ⟨a, len, cap, rfl⟩ : ∃ a len cap, v = .slice (some a) len cap := by
      obtain ⟨hl, ⟨⟨a, c, e⟩, h0⟩ | ⟨b, off, cap, e, _⟩⟩ := hr
      · cases a with
        | none => exact absurd ⟨c, e⟩ hnil
        | some a => exact ⟨a, _, _, e⟩
      · exact ⟨_, _, _, e⟩
    clear hnil
    have hb : ∀ w, Sem.run Try.prog (binOp .eql 23 (.slice (some a) len cap) (.slice none 0 0)) w = .ok (.bool false) w := by
      intro w
      exact Lib.run_eql_slice_nil w 23 4 (some a) len cap 0 0 Try.underlying23
    have S := h.allocC #[] 4
    have S1 := St.own_mk (sz := 1) (n := 0) (cap := 0) (xs := []) (rest := []) (by exact S) (by simp) (Nat.le_refl _) (Nat.zero_le _) (by simp)
    have A := Lib.hid fun o rest ops Q x => wpList_append_st (P := Try.prog) (o := o) (rest := rest) (ops := ops) (Q := Q) (a := x) S1 (hr.mono ((Below.refl _ _).alloc (Nat.le_refl _) _)) h1 hi1 hz0 hz1 hz2 rfl (by unfold maxLen; omega) (by omega) Try.underlying23
    clear h hr h1 hi1 hz0 hz1 hz2 S S1
    go_enter Try.func35, Try.ntmps35
    go_wp2_with (at_builtin; refine A.out _ _ _ _ _ _ _ rfl rfl rfl rfl ?_; intro v' w7 S1 _; have HS := Lib.hid S1; clear S1)
    go_ret
    have S := HS.out
    rw [List.nil_append, Nat.zero_add] at S
    exact ⟨_, rfl, S⟩


set_option maxRecDepth 100000 in
theorem clone36_c {W0 w : World} {L : List HProp} {v : Value} {n : Nat} {xs : List Value} (h : St W0 w L) (hr : rd w 3 v n xs) (h1 : ∀ u ∈ xs, u.oneCell' = true) (hn : n ≤ 200000) :
    Calls Try.prog 36 #[v] w fun e w' => ∃ v', e = .returned v' ∧ St W0 w' (ownS 86 3 v' n xs :: L) := by
  obtain ⟨ii, hi1, hz0, hz1, hz2⟩ := info_parts info86
  by_cases hnil : ∃ c, v = .slice none 0 c
  · obtain ⟨c, rfl⟩ := hnil
    have hx : xs = [] ∧ n = 0 := by
      obtain ⟨hl, ⟨_, h0⟩ | ⟨_, _, _, e, _⟩⟩ := hr
      · subst h0; simp at hl; exact ⟨hl, rfl⟩
      · cases e
    obtain ⟨rfl, rfl⟩ := hx
    have HS := Lib.hid (h.own_nil (T := 86) (sz := 3))
    clear h hr h1 hi1 hz0 hz1 hz2
    have hb : ∀ w, Sem.run Try.prog (binOp .eql 76 (.slice none 0 c) (.slice none 0 0)) w = .ok (.bool true) w := by
      intro w
      exact Lib.run_eql_slice_nil w 76 86 none 0 c 0 0 Try.underlying76
    go_enter Try.func36, Try.ntmps36
    go_wp2
    go_ret
    exact ⟨_, rfl, HS.out⟩
  · obtain ⟨a, len, cap, rfl⟩ : ∃ a len cap, v = .slice (some a) len cap := by
      obtain ⟨hl, ⟨⟨a, c, e⟩, h0⟩ | ⟨b, off, cap, e, _⟩⟩ := hr
      · cases a with
        | none => exact absurd ⟨c, e⟩ hnil
        | some a => exact ⟨a, _, _, e⟩
      · exact ⟨_, _, _, e⟩
    clear hnil
    have hb : ∀ w, Sem.run Try.prog (binOp .eql 76 (.slice (some a) len cap) (.slice none 0 0)) w = .ok (.bool false) w := by
      intro w
      exact Lib.run_eql_slice_nil w 76 86 (some a) len cap 0 0 Try.underlying76
    have S := h.allocC #[] 86
    have S1 := St.own_mk (sz := 3) (n := 0) (cap := 0) (xs := []) (rest := []) (by exact S) (by simp) (Nat.le_refl _) (Nat.zero_le _) (by simp)
    have A := Lib.hid fun o rest ops Q x => wpList_append_st (P := Try.prog) (o := o) (rest := rest) (ops := ops) (Q := Q) (a := x) S1 (hr.mono ((Below.refl _ _).alloc (Nat.le_refl _) _)) h1 hi1 hz0 hz1 hz2 rfl (by unfold maxLen; omega) (by omega) Try.underlying76
    clear h hr h1 hi1 hz0 hz1 hz2 S S1
    go_enter Try.func36, Try.ntmps36
    go_wp2_with (at_builtin; refine A.out _ _ _ _ _ _ _ rfl rfl rfl rfl ?_; intro v' w7 S1 _; have HS := Lib.hid S1; clear S1)
    go_ret
    have S := HS.out
    rw [List.nil_append, Nat.zero_add] at S
    exact ⟨_, rfl, S⟩


set_option maxRecDepth 100000 in
theorem clone37_c {W0 w : World} {L : List HProp} {v : Value} {n : Nat} {xs : List Value} (h : St W0 w L) (hr : rd w 5 v n xs) (h1 : ∀ u ∈ xs, u.oneCell' = true) (hn : n ≤ 200000) :
    Calls Try.prog 37 #[v] w fun e w' => ∃ v', e = .returned v' ∧ St W0 w' (ownS 68 5 v' n xs :: L) := by
  obtain ⟨ii, hi1, hz0, hz1, hz2⟩ := info_parts info68
  by_cases hnil : ∃ c, v = .slice none 0 c
  · obtain ⟨c, rfl⟩ := hnil
    have hx : xs = [] ∧ n = 0 := by
      obtain ⟨hl, ⟨_, h0⟩ | ⟨_, _, _, e, _⟩⟩ := hr
      · subst h0; simp at hl; exact ⟨hl, rfl⟩
      · cases e
    obtain ⟨rfl, rfl⟩ := hx
    have HS := Lib.hid (h.own_nil (T := 68) (sz := 5))
    clear h hr h1 hi1 hz0 hz1 hz2
    have hb : ∀ w, Sem.run Try.prog (binOp .eql 47 (.slice none 0 c) (.slice none 0 0)) w = .ok (.bool true) w := by
      intro w
      exact Lib.run_eql_slice_nil w 47 68 none 0 c 0 0 Try.underlying47
    go_enter Try.func37, Try.ntmps37
    go_wp2
    go_ret
    exact ⟨_, rfl, HS.out⟩
  · obtain ⟨a, len, cap, rfl⟩ : ∃ a len cap, v = .slice (some a) len cap := by
      obtain ⟨hl, ⟨⟨a, c, e⟩, h0⟩ | ⟨b, off, cap, e, _⟩⟩ := hr
      · cases a with
        | none => exact absurd ⟨c, e⟩ hnil
        | some a => exact ⟨a, _, _, e⟩
      · exact ⟨_, _, _, e⟩
    clear hnil
    have hb : ∀ w, Sem.run Try.prog (binOp .eql 47 (.slice (some a) len cap) (.slice none 0 0)) w = .ok (.bool false) w := by
      intro w
      exact Lib.run_eql_slice_nil w 47 68 (some a) len cap 0 0 Try.underlying47
    have S := h.allocC #[] 68
    have S1 := St.own_mk (sz := 5) (n := 0) (cap := 0) (xs := []) (rest := []) (by exact S) (by simp) (Nat.le_refl _) (Nat.zero_le _) (by simp)
    have A := Lib.hid fun o rest ops Q x => wpList_append_st (P := Try.prog) (o := o) (rest := rest) (ops := ops) (Q := Q) (a := x) S1 (hr.mono ((Below.refl _ _).alloc (Nat.le_refl _) _)) h1 hi1 hz0 hz1 hz2 rfl (by unfold maxLen; omega) (by omega) Try.underlying47
    clear h hr h1 hi1 hz0 hz1 hz2 S S1
    go_enter Try.func37, Try.ntmps37
    go_wp2_with (at_builtin; refine A.out _ _ _ _ _ _ _ rfl rfl rfl rfl ?_; intro v' w7 S1 _; have HS := Lib.hid S1; clear S1)
    go_ret
    have S := HS.out
    rw [List.nil_append, Nat.zero_add] at S
    exact ⟨_, rfl, S⟩

end Go.Proofs.Ytlpgekodoiioaaa
