/- Alloc. -/
import Derived.Test.YtciciaikajdenaaW13
set_option linter.unusedSimpArgs false
set_option linter.unusedVariables false
namespace Go.Proofs.Ytciciaikajdenaa
open Go.RowKit

theorem give_c {W0 w : World} {L : List HProp} {p : Nat} {H : AHeap} {B : Int} (h : St W0 w (heapAt p H :: L)) (ok : H.Ok B) (c : ACell) (vc : Value)
    (hR : ∀ w', St W0 w' L → rd w' 4 vc c.ws.length (flatW c.ws)) (hm : c.ws.length ≤ 64) (hroom : H.live < H.room) :
    Calls Try.prog 74 #[.pointer (some ⟨p, 0, none⟩), cv c vc] w fun e w' => GivePost W0 L p (H.give c) e w' := by
  rcases List.eq_nil_or_concat H.free with hf | ⟨fs, i, hf⟩
  · exact give_new h ok c vc hR hm hf
  · exact give_old h ok c vc hR hm fs i (by simpa using hf) hroom

theorem AHeap.Ok.live_le {H : AHeap} {B : Int} (ok : H.Ok B) : 0 ≤ H.live ∧ H.live ≤ H.room := by
  have := ok.live_eq
  have := countLive_le H.slots
  have := ok.few
  omega

set_option maxRecDepth 100000 in
theorem alloc_c {W0 w : World} {L : List HProp} {p : Nat} {H : AHeap} {B : Int} (h : St W0 w (heapAt p H :: L)) (ok : H.Ok B) (c : ACell) (vc : Value)
    (hR : ∀ w', St W0 w' L → rd w' 4 vc c.ws.length (flatW c.ws)) (hm : c.ws.length ≤ maxLen) :
    Calls Try.prog 20 #[.pointer (some ⟨p, 0, none⟩), cv c vc] w fun e w' => RenewPost W0 L p (H.alloc c) e w' := by
  obtain ⟨a, cap, rfl⟩ : ∃ a cap, vc = .slice a c.ws.length cap := by
    rcases (hR w h.tail).2 with ⟨⟨_, _, rfl⟩, e⟩ | ⟨b, off, cap, rfl, _⟩
    · exact ⟨_, _, by rw [e]⟩
    · exact ⟨_, _, rfl⟩
  have s0 := (h.allocC #[Value.int .u8 c.k, .int .i64 c.n, .slice a c.ws.length cap] 34).allocC #[Value.int .u8 0, .int .i64 0, .string ⟨#[]⟩, .int .i64 0] 36
  simp only [World.size_alloc] at s0
  have MY := Lib.hid (may_c c (.slice a c.ws.length cap) _ (hR _ s0.tail.tail.tail) hm)
  have HR := Lib.hid hR
  have HO := Lib.hid ok
  have HS := Lib.hid s0
  obtain ⟨l0, l1⟩ := ok.live_le
  clear h s0 ok hR hm
  unfold RenewPost
  cases hok : c.ok
  · have hal : H.alloc c = ((.zero, 2), H) := by unfold AHeap.alloc; rw [if_pos hok]
    rw [hal]
    have HOK := Lib.hid hok
    clear hok hal
    unfold cv at *
    go_enter Try.func20, Try.ntmps20
    go_wp2_with (go_at_call 18; refine MY.out.mono ?_; rintro e w1 ⟨rfl, hb⟩; rw [HOK.out]; have S := HS.out.mono hb; have d0 := S.cell; have f0 := S.free; have SS := Lib.hid S; clear S hb)
    have S2 := (((SS.out.set 0 (.int .u8 0)).set 1 (.int .i64 0)).set 2 (.string ⟨#[]⟩)).set 3 (.int .i64 0)
    have d2 := S2.cell
    refine bodyPost_ret (v := .tuple #[.agg #[.int .u8 0, .int .i64 0, .string ⟨#[]⟩, .int .i64 0], .int .i64 2]) (by simp [results, Try.results20, go_sem, d2]) rfl ⟨rfl, S2.tail.tail⟩
  · have hw : c.ws.length ≤ 64 := by
      have := hok
      unfold ACell.ok at this
      simp only [Bool.and_eq_true, decide_eq_true_eq] at this
      omega
    have HOK := Lib.hid hok
    have HW := Lib.hid hw
    by_cases hfull : H.room ≤ H.live
    · have hal : H.alloc c = ((.zero, 7), H) := by unfold AHeap.alloc; rw [if_neg (by rw [hok]; exact Bool.noConfusion), if_pos hfull]
      rw [hal]
      have hz : (H.room - H.live == 0) = true := by simp; omega
      clear hok hal hw hfull
      unfold cv at *
      go_enter Try.func20, Try.ntmps20
      go_wp2_with (first
        | (go_at_call 18; refine MY.out.mono ?_; rintro e w1 ⟨rfl, hb⟩; rw [HOK.out]; have S := HS.out.mono hb; have SS := Lib.hid S; clear S hb)
        | (go_at_call 35; refine (left_c (SS.out.pull 2) HO.out).mono ?_; rintro e w2 ⟨rfl, n, rfl⟩; have S := SS.out.drewN n; have d0 := S.cell; have f0 := S.free; have SS2 := Lib.hid S; clear S))
      have S2 := (((SS2.out.set 0 (.int .u8 0)).set 1 (.int .i64 0)).set 2 (.string ⟨#[]⟩)).set 3 (.int .i64 0)
      have d2 := S2.cell
      refine bodyPost_ret (v := .tuple #[.agg #[.int .u8 0, .int .i64 0, .string ⟨#[]⟩, .int .i64 0], .int .i64 7]) (by simp [results, Try.results20, go_sem, d2]) rfl ⟨rfl, S2.tail.tail⟩
    · have hal : H.alloc c = (((H.give c).1, 0), (H.give c).2) := by unfold AHeap.alloc; rw [if_neg (by rw [hok]; exact Bool.noConfusion), if_neg hfull]
      rw [hal]
      have hz : (H.room - H.live == 0) = false := by simp; omega
      clear hok hal hw
      have HL : Hid (H.live < H.room) := by show H.live < H.room; omega
      clear hfull
      unfold cv at *
      go_enter Try.func20, Try.ntmps20
      go_wp2_with (first
        | (go_at_call 18; refine MY.out.mono ?_; rintro e w1 ⟨rfl, hb⟩; rw [HOK.out]; have S := HS.out.mono hb; have d1 := (S.pull 1).cell; have SS := Lib.hid S; clear S hb)
        | (go_at_call 35; refine (left_c (SS.out.pull 2) HO.out).mono ?_; rintro e w2 ⟨rfl, n, rfl⟩)
        | (go_at_call 74; refine (give_c (((SS.out.drewN _).pull 2)) HO.out c (.slice a c.ws.length cap) (fun w' q => HR.out w' q.tail.tail) HW.out HL.out).mono ?_; rintro e w3 ⟨rfl, S⟩; have d0 := (S.pull 1).cell; have f0 := (S.pull 1).free; have SS2 := Lib.hid S; clear S; simp only [wv]))
      have S2 := ((((SS2.out.pull 1).set 0 (.int .u8 (H.give c).1.k)).set 1 (.int .i64 (H.give c).1.n)).set 2 (.string (H.give c).1.s)).set 3 (.int .i64 (H.give c).1.g)
      have d2 := S2.cell
      refine bodyPost_ret (v := .tuple #[.agg #[.int .u8 (H.give c).1.k, .int .i64 (H.give c).1.n, .string (H.give c).1.s, .int .i64 (H.give c).1.g], .int .i64 0]) (by simp [results, Try.results20, go_sem, d2]) rfl ⟨rfl, ((S2.pull 2).tail.tail).pull 0⟩

end Go.Proofs.Ytciciaikajdenaa
