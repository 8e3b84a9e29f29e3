/- The document's Wrong. -/
import Derived.Test.YtciciaikajdenaaR3
set_option linter.unusedSimpArgs false
set_option linter.unusedVariables false
namespace Go.Proofs.Ytciciaikajdenaa
open Go.RowKit

section
variable {W0 w : World} {L : List HProp} {p : Nat} {H : AHeap}

set_option maxRecDepth 100000 in
set_option maxHeartbeats 1000000 in
theorem wrong_c {B : Int} (h : St W0 w (heapRAt p H :: L)) (ok : H.Ok B) (x : AWord) :
    Calls Try.prog 78 #[.pointer (some ⟨p, 0, none⟩), wv x] w fun e w' => e = .returned (.int .i64 (H.find x).1) ∧ Below w.heap.size w w' := by
  have hlen : H.slots.length ≤ 100000 := by have := ok.few; have := ok.room1; omega
  have s0 := h.allocC #[Value.int .u8 x.k, .int .i64 x.n, .string x.s, .int .i64 x.g] 36
  have HS := Lib.hid s0
  have HW := Lib.hid (word_r x)
  clear h s0 ok
  obtain ⟨k, n, s, g⟩ := x
  unfold wv at *
  simp only at *
  by_cases hk : k = 5
  case neg =>
    have kb : (k != 5) = true := by simp [hk]
    have hr : (H.find ⟨k, n, s, g⟩).1 = 2 := by unfold AHeap.find; rw [if_pos (Or.inl hk)]
    rw [hr]
    clear hr hk
    go_enter Try.func78, Try.ntmps78
    go_wp2_with fail
    go_ret
    exact ⟨rfl, (Below.refl _ _).alloc (Nat.le_refl _) _⟩
  case pos =>
    subst hk
    cases ho : AWord.ok ⟨5, n, s, g⟩
    · have hr : (H.find ⟨5, n, s, g⟩).1 = 2 := by unfold AHeap.find; rw [if_pos (Or.inr ho)]
      rw [hr]
      have HO := Lib.hid ho
      clear hr ho
      go_enter Try.func78, Try.ntmps78
      go_wp2_with (go_at_call 73; refine (HW.out _).mono ?_; rintro e w' ⟨rfl, hb2⟩; rw [HO.out])
      go_ret
      exact ⟨rfl, ((Below.refl _ _).alloc (Nat.le_refl _) _).trans (hb2.mono (by simp))⟩
    · have hn : 0 ≤ n := by
        unfold AWord.ok at ho
        simp at ho
        exact ho.1.1
      obtain ⟨i, rfl⟩ : ∃ i : Nat, n = i := ⟨n.toNat, by omega⟩
      have hfi : ¬ ((⟨5, (i : Int), s, g⟩ : AWord).k ≠ 5 ∨ AWord.ok ⟨5, i, s, g⟩ = false) := by rw [ho]; simp
      have HO := Lib.hid ho
      by_cases hi : i < H.slots.length
      · have hr : (H.find ⟨5, i, s, g⟩).1 = if (H.slot i).lives = true ∧ (H.slot i).gen = g then 0 else 230 := by
          unfold AHeap.find
          rw [if_neg hfi, if_neg (by simp only; omega)]
          simp only [Int.toNat_natCast, AHeap.slot_get hi]
          split <;> rfl
        obtain ⟨y, hy⟩ : ∃ y, (H.find ⟨5, i, s, g⟩).1 = y := ⟨_, rfl⟩
        rw [hy]
        rw [hy] at hr
        have HR := Lib.hid hr
        clear hr ho hfi hy
        go_enter Try.func78, Try.ntmps78
        go_upto_region 3 with (go_at_call 73; refine (HW.out _).mono ?_; rintro e w' ⟨rfl, hb2⟩; rw [HO.out]; have S := HS.out.mono hb2)
        have hb3 := ((Below.refl w.heap.size w).alloc (Nat.le_refl _) (.cells #[Value.int .u8 5, .int .i64 i, .string s, .int .i64 g] 36)).trans (hb2.mono (by simp))
        obtain ⟨a, cap, vf, d0, _, _, key⟩ := (S.pull 1).heapR_view
        have d1 := S.cell
        obtain ⟨b, rfl, v, c0, c1, c2, c3, c4, _⟩ := key i hi
        clear key HS HW hb2 S
        have HB := Lib.hid hb3
        clear hb3
        cases hl : (H.slot i).lives
        · rw [hl] at c4
          have HL := Lib.hid hl
          clear hl
          go_wp2_with fail
          go_quiet (fail)
          go_wp2_with fail
          go_quiet (fail)
          go_wp2_with fail
          go_ret
          exact ⟨by rw [HR.out, HL.out]; rfl, by first | exact (HB.out.trans (below_drewN _)).trans (below_drewN _) | exact HB.out.trans (below_drewN _)⟩
        · rw [hl] at c4
          have HL := Lib.hid hl
          clear hl
          by_cases hg : (H.slot i).gen = g
          · have hgb : ((H.slot i).gen != g) = false := by simp [hg]
            have HG := Lib.hid hg
            clear hg
            go_wp2_with fail
            go_quiet (fail)
            go_wp2_with fail
            go_quiet (fail)
            go_wp2_with fail
            go_ret
            exact ⟨by rw [HR.out, if_pos ⟨HL.out, HG.out⟩]; rfl, by first | exact (HB.out.trans (below_drewN _)).trans (below_drewN _) | exact HB.out.trans (below_drewN _)⟩
          · have hgb : ((H.slot i).gen != g) = true := by simp [hg]
            have HG := Lib.hid hg
            clear hg
            go_wp2_with fail
            go_quiet (fail)
            go_wp2_with fail
            go_quiet (fail)
            go_wp2_with fail
            go_ret
            exact ⟨by rw [HR.out, if_neg (fun q => HG.out q.2)]; rfl, by first | exact (HB.out.trans (below_drewN _)).trans (below_drewN _) | exact HB.out.trans (below_drewN _)⟩
      · have hr : (H.find ⟨5, i, s, g⟩).1 = 4 := by
          unfold AHeap.find
          rw [if_neg hfi, if_pos (by simp only; omega)]
        rw [hr]
        clear hr ho hfi
        go_enter Try.func78, Try.ntmps78
        go_upto_region 3 with (go_at_call 73; refine (HW.out _).mono ?_; rintro e w' ⟨rfl, hb2⟩; rw [HO.out]; have S := HS.out.mono hb2)
        have hb3 := ((Below.refl w.heap.size w).alloc (Nat.le_refl _) (.cells #[Value.int .u8 5, .int .i64 i, .string s, .int .i64 g] 36)).trans (hb2.mono (by simp))
        obtain ⟨a, cap, vf, d0, _, _, key⟩ := (S.pull 1).heapR_view
        have d1 := S.cell
        clear key HS HW hb2 S
        have HB := Lib.hid hb3
        clear hb3
        go_wp2_with fail
        go_quiet (fail)
        go_wp2_with fail
        go_ret
        exact ⟨rfl, by first | exact (HB.out.trans (below_drewN _)).trans (below_drewN _) | exact HB.out.trans (below_drewN _)⟩
end
end Go.Proofs.Ytciciaikajdenaa
