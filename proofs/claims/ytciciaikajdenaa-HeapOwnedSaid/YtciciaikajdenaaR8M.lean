/- What Alloc comes through: the heap ahead of its being given. -/
import Derived.Test.YtciciaikajdenaaHModel
set_option linter.unusedSimpArgs false
set_option linter.unusedVariables false
namespace Go.Proofs.Ytciciaikajdenaa

def AHeap.pre (H : AHeap) : AHeap :=
  match H.free.getLast? with
  | some _ => { H with free := H.free.dropLast }
  | none => { H with slots := H.slots ++ [⟨.zero, 0, false⟩] }

def AHeap.mid (H : AHeap) (c : ACell) : AHeap := { H.pre with slots := H.pre.slots.set H.next ⟨c, (H.pre.slot H.next).gen, true⟩ }

theorem AHeap.pre_room (H : AHeap) : H.pre.room = H.room := by unfold AHeap.pre; split <;> rfl
theorem AHeap.pre_most (H : AHeap) : H.pre.most = H.most := by unfold AHeap.pre; split <;> rfl

theorem AHeap.next_lt {H : AHeap} {B : Int} (h : H.Ok B) : H.next < H.pre.slots.length := by
  unfold AHeap.pre AHeap.next
  cases hl : H.free.getLast? with
  | some i => exact (h.dead i (List.mem_of_getLast? hl)).1
  | none => simp

theorem AHeap.give_mid {H : AHeap} {B : Int} (h : H.Ok B) (c : ACell) : H.give c = (cellWord H.next (H.pre.slot H.next).gen, { H.mid c with most := max H.most (H.live + 1) }) := by
  unfold AHeap.give AHeap.mid AHeap.pre AHeap.next
  cases hl : H.free.getLast? with
  | some i => rfl
  | none =>
    simp only [Option.getD_none]
    have e : (({ H with slots := H.slots ++ [⟨.zero, 0, false⟩] } : AHeap).slot H.slots.length) = ⟨.zero, 0, false⟩ := by simp [AHeap.slot, List.getD]
    rw [e]
    simp

theorem AHeap.mid_ok {H : AHeap} {B : Int} (h : H.Ok B) (hB : 0 ≤ B) {c : ACell} (hc : c.ws.length ≤ 64) (hr : H.live < H.room) : (H.mid c).Ok B ∧ (H.mid c).live = H.live + 1 ∧ (H.mid c).most = H.most ∧ (H.mid c).room = H.room := by
  have h1 := h.give hB hc hr
  rw [AHeap.give_mid h] at h1
  simp only at h1
  have hm : (H.mid c).most = H.most := AHeap.pre_most H
  refine ⟨⟨h1.room0, h1.room1, by rw [hm]; exact h.most0, by rw [hm]; exact h.most1, h1.few, h1.count, h1.nodup, h1.dead, h1.words, h1.gens⟩, ?_, hm, AHeap.pre_room H⟩
  unfold AHeap.mid AHeap.pre AHeap.live
  cases hl : H.free.getLast? with
  | some i =>
    have hne : H.free ≠ [] := by intro e; rw [e] at hl; simp at hl
    have : 0 < H.free.length := List.length_pos_iff.2 hne
    simp; omega
  | none =>
    have he : H.free = [] := by simpa using hl
    simp [he]

end Go.Proofs.Ytciciaikajdenaa
