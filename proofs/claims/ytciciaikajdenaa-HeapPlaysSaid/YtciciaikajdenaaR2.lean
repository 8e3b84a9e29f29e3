/- Walks: the document's May. -/
import Derived.Test.YtciciaikajdenaaR1
import Derived.Deep.CutBlock
set_option linter.unusedSimpArgs false
set_option linter.unusedVariables false
namespace Go.Proofs.Ytciciaikajdenaa
open Go.RowKit

def okAt (c : ACell) (k : Nat) : Bool := c.headOk && decide (k ≤ 64) && (c.ws.take k).all AWord.ok

theorem okAt_len (c : ACell) : okAt c c.ws.length = c.ok := by simp [okAt, ACell.ok]
theorem okAt_zero (c : ACell) : okAt c 0 = c.headOk := by simp [okAt]
theorem okAt_succ {c : ACell} {k : Nat} {x : AWord} (hx : c.ws[k]? = some x) : okAt c (k + 1) = (okAt c k && (decide (k < 64) && x.ok)) := by
  unfold okAt
  rw [List.take_add_one, hx]
  simp only [Option.toList_some, List.all_append, List.all_cons, List.all_nil, Bool.and_true]
  by_cases h : k < 64
  · have h1 : k + 1 ≤ 64 := by omega
    have h2 : k ≤ 64 := by omega
    simp [h, h1, h2, Bool.and_assoc]
  · have h1 : ¬ k + 1 ≤ 64 := by omega
    simp [h, h1]

def MayRel (c : ACell) (a : Option Addr) (cap : Nat) (w : World) (v i : Value) (wr : World) : Prop :=
  ∃ k : Nat, k ≤ c.ws.length ∧ i = .int .i64 k ∧ v = .bool (okAt c k) ∧ St w wr [cellsB w.heap.size #[Value.int .u8 c.k, .int .i64 c.n, .slice a c.ws.length cap] 34]

set_option maxRecDepth 100000 in
set_option maxHeartbeats 2000000 in
theorem may_r (c : ACell) (v : Value) (w : World) (h : rd w 4 v c.ws.length (flatW c.ws)) (hm : c.ws.length ≤ maxLen) :
    Calls Try.prog 19 #[cv c v] w fun e w' => e = .returned (.bool c.ok) ∧ Below w.heap.size w w' := by
  obtain ⟨a, cap, rfl⟩ := rd_form h
  have H := Lib.hid h; clear h
  unfold maxLen at hm
  have s0 := (St.refl w).allocC #[Value.int .u8 c.k, .int .i64 c.n, .slice a c.ws.length cap] 34
  have HS := Lib.hid s0
  clear s0
  unfold cv
  go_enter Try.func19, Try.ntmps19
  go_upto_region 1 with fail
  go_cut [3] from 5 to 27 (fun t wx => t = .bool c.headOk ∧ St w wx [cellsB w.heap.size #[Value.int .u8 c.k, .int .i64 c.n, .slice a c.ws.length cap] 34])
  case first =>
    refine abs_wp HS.out ?_
    clear HS
    intro w1 S
    have d0 := S.cell
    rcases (show c.k = 1 ∨ c.k = 2 ∨ c.k = 3 ∨ (c.k ≠ 1 ∧ c.k ≠ 2 ∧ c.k ≠ 3) by omega) with e | e | e | ⟨e1, e2, e3⟩
    case inr.inr.inr =>
      have h1 := beq_eq_false_iff_ne.2 e1
      have h2 := beq_eq_false_iff_ne.2 e2
      have h3 := beq_eq_false_iff_ne.2 e3
      have hh : c.headOk = false := by simp [ACell.headOk, e1, e2, e3]
      have HS := Lib.hid S
      clear S e1 e2 e3
      go_wp2_with fail
      go_meet
      case rel => exact ⟨by rw [hh], HS.out⟩
    all_goals
      have HS := Lib.hid S
      have E := Lib.hid e
      rw [e] at d0
      clear S e
      go_wp2_with fail
      all_goals
        go_meet
        case rel =>
          refine ⟨?_, HS.out⟩
          simp [ACell.headOk, E.out, *]
          try omega
  case rest =>
    obtain ⟨rfl, S⟩ := hcut
    clear HS
    have HS := Lib.hid S
    clear S
    go_wp2_with fail
    go_loopw [3, 4] (fun v i wr => MayRel c a cap w v i wr) (fun _ i _ => c.ws.length - (intOf i).toNat)
    case atStart => exact ⟨0, Nat.zero_le _, rfl, by rw [okAt_zero], HS.out⟩
    case round =>
      obtain ⟨k, hk, rfl, rfl, S⟩ := hrel
      clear HS
      have d0 := S.cell
      by_cases hlt : k < c.ws.length
      · obtain ⟨x, hx⟩ : ∃ x, c.ws[k]? = some x := ⟨_, List.getElem?_eq_getElem hlt⟩
        obtain ⟨b, off, rfl⟩ := rd_some H.out (by omega)
        obtain ⟨f0, f1, f2, f3⟩ := rd_word (H.out.st S) hx
        have es := okAt_succ hx
        have W := Lib.hid (word_r x)
        unfold wv at W
        have HS := Lib.hid S
        have ES := Lib.hid es
        clear S hx es
        cases hq : okAt c k
        · rw [hq] at ES
          have HQ := Lib.hid hq
          clear hq
          go_wp2_with fail
          refine ⟨⟨k + 1, by omega, by go_num, by rw [ES.out]; rfl, HS.out⟩, by simp [intOf]; omega⟩
        · rw [hq] at ES
          have HQ := Lib.hid hq
          clear hq
          by_cases h64 : k < 64
          · have E64 : decide (k < 64) = true := by simp [h64]
            rw [E64] at ES
            clear E64
            go_wp2_with (go_at_call 73; refine (W.out _).mono ?_; rintro e w' ⟨rfl, hb⟩; have S := HS.out.mono hb)
            refine ⟨⟨k + 1, by omega, by go_num, by rw [ES.out]; simp, S⟩, by simp [intOf]; omega⟩
          · have E64 : decide (k < 64) = false := by simp [h64]
            rw [E64] at ES
            clear E64
            go_wp2_with fail
            refine ⟨⟨k + 1, by omega, by go_num, by rw [ES.out]; rfl, HS.out⟩, by simp [intOf]; omega⟩
      · have e : k = c.ws.length := by omega
        subst e
        rw [okAt_len]
        have HS := Lib.hid S
        clear S
        go_wp2_with fail
        go_ret
        exact ⟨rfl, HS.out.below⟩

end Go.Proofs.Ytciciaikajdenaa
