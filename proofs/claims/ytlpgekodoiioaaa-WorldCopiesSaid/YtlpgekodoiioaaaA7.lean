/- strings.Cut at a line's end. -/
import Derived.Test.YtlpgekodoiioaaaA6
import Derived.Lib.Bytealg
import Derived.Laws.Strings3
set_option linter.unusedSimpArgs false
set_option linter.unusedVariables false
namespace Go.Proofs.Ytlpgekodoiioaaa
open Go.RowKit

theorem lineOf_index : ∀ (l : List UInt8), (Lib.indexByte l 10 = -1 ∧ lineOf l = (l, false)) ∨ ∃ i : Nat, Lib.indexByte l 10 = i ∧ i < l.length ∧ lineOf l = (l.take i, true)
  | [] => .inl ⟨rfl, rfl⟩
  | b :: l => by
    unfold Lib.indexByte lineOf
    by_cases hb : b = 10
    · subst hb
      exact .inr ⟨0, by simp, by simp, by simp⟩
    · have hb' : (b == 10) = false := by simpa using hb
      rw [hb', if_neg hb]
      rcases lineOf_index l with ⟨h1, h2⟩ | ⟨i, h1, h2, h3⟩
      · rw [h1, h2]; exact .inl ⟨rfl, rfl⟩
      · rw [h1, h3]
        refine .inr ⟨i + 1, ?_, by simp only [List.length_cons]; omega, by simp⟩
        have : ((i : Int) == -1) = false := by rw [beq_eq_false_iff_ne]; omega
        rw [this]
        simp

def nl : ByteArray := ⟨#[10]⟩

section
variable {w : World}

set_option maxRecDepth 100000 in
theorem ib_c (s : ByteArray) (c : Int) : Calls Try.prog 56 #[.string s, .int .u8 c] w fun e w' => e = .returned (.int .i64 (Lib.indexByte s.data.toList c.toNat.toUInt8)) ∧ w' = w := by
  go_enter Try.func56, Try.ntmps56
  go_wp2
  rw [run_callFunc_extern Try.func60 (by kernel_rfl) (by kernel_rfl) (by kernel_rfl) (e := Extern.BytealgIndexByte.indexByte) (by kernel_rfl), Lib.run_indexByteString]
  simp only [Result.andThen]
  rw [Oper.upon_value]
  go_wp2
  go_ret
  exact ⟨rfl, rfl⟩

set_option maxRecDepth 100000 in
theorem ix_c (s : ByteArray) (hs : s.size ≤ 4000) : Calls Try.prog 55 #[.string s, .string nl] w fun e w' => e = .returned (.int .i64 (Lib.indexByte s.data.toList 10)) ∧ w' = w := by
  have IB := Lib.hid (ib_c (w := w) s 10)
  by_cases he : s = nl
  · subst he
    clear IB
    unfold nl
    go_enter Try.func55, Try.ntmps55
    go_wp2
    go_ret
    exact ⟨rfl, rfl⟩
  · have hb : ([10] == s.toList) = false := by
      simp only [beq_eq_false_iff_ne]
      intro q
      rw [Lib.toList_data] at q
      exact he (by rw [← Lib.mk_data s, ← q]; rfl)
    unfold nl
    go_enter Try.func55, Try.ntmps55
    go_wp2_with (go_at_call 56; refine IB.out.mono ?_; rintro e w' ⟨rfl, rfl⟩)
    go_ret
    exact ⟨rfl, rfl⟩

def CutP (s : ByteArray) (w : World) (e : Ending) (w' : World) : Prop :=
  (∃ a, e = .returned (.tuple #[.string (bytesOf (lineOf s.data.toList).1), .string a, .bool (lineOf s.data.toList).2])) ∧ ∃ n, w' = w.drewN n

set_option maxRecDepth 100000 in
theorem cut54_c (s : ByteArray) (hs : s.size ≤ 4000) : Calls Try.prog 54 #[.string s, .string nl] w fun e w' => CutP s w e w' := by
  unfold CutP
  have IX := Lib.hid (ix_c (w := w) s hs)
  rcases lineOf_index s.data.toList with ⟨h1, h2⟩ | ⟨i, h1, h2, h3⟩
  · rw [h1] at IX
    rw [h2]
    clear h1 h2
    unfold nl at IX ⊢
    have e : bytesOf s.data.toList = s := by unfold bytesOf; rw [Array.toArray_toList]
    rw [e]
    clear e
    go_enter Try.func54, Try.ntmps54
    go_wp2_with (go_at_call 55; refine IX.out.mono ?_; rintro e w' ⟨rfl, rfl⟩)
    go_ret3
    exact ⟨⟨_, rfl⟩, 0, rfl⟩
  · rw [h1] at IX
    rw [h3]
    have hsz : s.data.toList.length = s.size := by rw [← Lib.size_eq]
    rw [hsz] at h2
    have e : bytesOf (s.data.toList.take i) = s.extract 0 i := by rw [Lib.extract_eq]; simp [bytesOf]
    simp only []
    rw [e]
    have c1 : (0 : Int) ≤ (i : Int) := by omega
    have c2 : (i : Int) ≤ (s.size : Int) := by omega
    have c3 : (0 : Int) ≤ (i : Int) + 1 := by omega
    have c4 : (i : Int) + 1 ≤ (s.size : Int) := by omega
    clear e h1 h3 hsz
    unfold nl at IX ⊢
    go_enter Try.func54, Try.ntmps54
    go_wp2_with (go_at_call 55; refine IX.out.mono ?_; rintro e w' ⟨rfl, rfl⟩)
    go_quiet (go_wp2)
    go_wp2
    go_ret3
    exact ⟨⟨_, rfl⟩, nq, rfl⟩

set_option maxRecDepth 100000 in
theorem cut_c (s : ByteArray) (hs : s.size ≤ 4000) : Calls Try.prog 48 #[.string s, .string nl] w fun e w' => CutP s w e w' := by
  have IX := Lib.hid (cut54_c (w := w) s hs)
  unfold CutP at IX ⊢
  unfold nl at IX ⊢
  go_enter Try.func48, Try.ntmps48
  go_wp2_with (go_at_call 54; refine IX.out.mono ?_; rintro e w' ⟨⟨a, rfl⟩, n, rfl⟩)
  go_ret3
  exact ⟨⟨_, rfl⟩, n, rfl⟩
end
end Go.Proofs.Ytlpgekodoiioaaa
