/- N28: rooms, in plain data. No program in sight. -/
import Derived.Test.YtciciaikajdenaaQN21
set_option linter.unusedSimpArgs false
set_option linter.unusedVariables false
namespace Go.Proofs.Ytciciaikajdenaa
open Go.RowKit

theorem make_room {H : AHeap} {v : Val} (h : mayV v = true) (hr : H.room - H.live < cellsV v) : buildM H v = ((.zero, 7), H) := by
  have e : makeE H v = 7 := by unfold makeE; rw [if_neg (by rw [h]; simp), if_pos hr]
  unfold buildM
  rw [e, if_neg (by decide)]
theorem live_of_new (r : Int) : (AHeap.new r).live = 0 := by simp [AHeap.new, AHeap.live]
theorem leaf_same {v : Val} (h : cellsV v = 0) (hm : mayV v = true) (H : AHeap) : (buildF H v).2 = H := by
  obtain ⟨k, n, s, l⟩ := v
  by_cases hk : k < 11
  · simp [buildF, hk]
  · simp only [cellsV, if_pos (show 10 < k by omega)] at h
    omega
structure Rooms (v : Val) (K : AHeap) (w : AWord) : Prop where
  made : buildM (.new (cellsV v)) v = ((w, 0), K)
  ok : K.Ok 0
  live : LiveOk K
  left : K.room - K.live = 0
  has : K.live = cellsV v
  most : K.most = cellsV v
  few : K.slots.length ≤ 3000
  walk : ∃ come fl, walkF K 3001 w [] false = .ok v come fl
  copy : (0 < cellsV v → (copyM K 3001 w).1.2 = 7 ∨ (copyM K 3001 w).1.2 = 240) ∧ (copyM K 3001 w).2.live = cellsV v ∧ (copyM K 3001 w).2.most = cellsV v
theorem rooms {v : Val} (hm : mayV v = true) (hs : massV v ≤ 3000) : ∃ K w, Rooms v K w := by
  have hc := cells_mass v
  have ok0 := AHeap.new_ok (cellsV v : Int) (by omega) (by omega) 0
  have l0 := live_of_new (cellsV v : Int)
  have r0 : (AHeap.new (cellsV v : Int)).room = cellsV v := rfl
  have m0 : (AHeap.new (cellsV v : Int)).most = 0 := rfl
  have hroom : (cellsV v : Int) ≤ (AHeap.new (cellsV v : Int)).room - (AHeap.new (cellsV v : Int)).live := by rw [l0, r0]; omega
  obtain ⟨b, bw⟩ := build_ok (B := 0) (by decide) v _ hm ok0 hroom
  obtain ⟨g, S, h1, h2, h3⟩ := build_holds (B := 0) (by decide) v _ hm ok0 hroom
  have hmo := build_most (B := 0) (by decide) v _ hm ok0 hroom (by rw [l0, m0]; omega)
  have hl := b.live
  have hr := b.room
  rw [l0] at hl
  rw [r0] at hr
  rw [m0] at hmo
  have hlive : LiveOk (buildF (.new (cellsV v)) v).2 := LiveOk.buildF v _ (live_new _)
  have made : buildM (.new (cellsV v)) v = (((buildF (.new (cellsV v)) v).1, 0), (buildF (.new (cellsV v)) v).2) := makeOf hm (by rw [l0, r0]; omega)
  have few := b.ok.few
  generalize buildF (.new (cellsV v)) v = R at *
  have hcp := h1.copyM b.ok h2 (f := 3001) (by omega)
  refine ⟨R.2, R.1, made, b.ok, hlive, by omega, by omega, by omega, by omega, ⟨_, _, h1.value b.ok h2 (by omega)⟩, ?_⟩
  rw [hcp]
  by_cases hf : filesV v = true
  · rw [if_pos hf]
    exact ⟨fun _ => .inr rfl, by simp only; omega, by simp only; omega⟩
  · rw [if_neg hf]
    by_cases hn : cellsV v = 0
    · have e : (buildM R.2 v).2 = R.2 := by
        unfold buildM
        split
        · exact leaf_same hn hm _
        · rfl
      exact ⟨fun h => by omega, by rw [e]; omega, by rw [e]; omega⟩
    · rw [make_room hm (by omega)]
      exact ⟨fun _ => .inl rfl, by simp only; omega, by simp only; omega⟩
theorem rooms_less {v : Val} (hm : mayV v = true) {r : Int} (h : r < cellsV v) : buildM (.new r) v = ((.zero, 7), .new r) := make_room hm (by rw [live_of_new]; show r - 0 < _; omega)
theorem rooms_over {v : Val} (hm : mayV v = true) {less : Int} (h : 0 ≤ less) (hn : 0 < cellsV v) : 0 ≤ less.tmod (cellsV v) ∧ less.tmod (cellsV v) < cellsV v := by
  constructor
  · exact Int.tmod_nonneg _ h
  · exact Int.tmod_lt_of_pos _ (by omega)
end Go.Proofs.Ytciciaikajdenaa
