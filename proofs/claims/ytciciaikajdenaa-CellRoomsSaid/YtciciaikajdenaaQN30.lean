/- N30: CellRooms (joined). -/
import Derived.Test.YtciciaikajdenaaQN27
import Derived.Test.YtciciaikajdenaaQN29
import Derived.Test.YtciciaikajdenaaQN31
import Derived.Test.YtciciaikajdenaaQN32
import Derived.Test.YtciciaikajdenaaQN33
set_option linter.unusedSimpArgs false
set_option linter.unusedVariables false
namespace Go.Proofs.Ytciciaikajdenaa
open Go.RowKit

theorem known_is : Known := fun σ => known_c
theorem room_copy {v : Val} (hv : v.low) (hm : mayV v = true) (hs : massV v ≤ 3000) {K : AHeap} {w : AWord} (R : Rooms v K w) : Mut2 46 [.d (.agg (wordD w))] K (.tup [.agg (wordD (copyM K 3001 w).1.1), .v (.int .i64 (copyM K 3001 w).1.2)]) (copyM K 3001 w).2 := fun σ loc hH => by
  obtain ⟨come, fl, hw⟩ := R.walk
  have hf := R.few
  exact copy_c46 (σ := σ) (f := 3001) (w := w) R.ok (by decide) R.live.cells hH (walk_fine K (by omega) _ _) (fun u c2 f2 hu => by
    rw [hw] at hu
    injection hu with hu
    subst hu
    exact ⟨Val.low_kok _ hv, by omega⟩)
theorem room_build {v : Val} (hv : v.low) (hs : massV v ≤ 3000) {H : AHeap} (ok : H.Ok 0) : Mut2 45 [.d (.agg (valD v))] H (.tup [.agg (wordD (buildM H v).1.1), .v (.int .i64 (buildM H v).1.2)]) (buildM H v).2 := fun σ loc hH => build_c45 ok (by decide) hH (Val.low_kok _ hv) (by omega)
theorem cellRooms_c (v : Val) (less : Int) (hv : v.low) : RunsP Try.prog 9 [.agg (valD v), .v (.int .i64 less)] (fun r => r = .v (.bool true)) := by
  have hs := size_c v hv 0 (by decide) (by decide)
  have hmay := may55_c v hv
  obtain ⟨vk, vn, vs, vl⟩ := v
  by_cases hm : massV (.mk vk vn vs vl) ≤ 3000
  · have hsz : RunsP Try.prog 43 [.agg (valD (.mk vk vn vs vl)), .v (.int .i64 0)] (fun v => ∃ z : Int, v = .v (.int .i64 z)) := hs.mono fun _ ⟨z, e, _⟩ => ⟨z, e⟩
    by_cases hl : less < 0
    · exact rooms_not known_is hsz hmay (.inr hl)
    cases hmv : mayV (.mk vk vn vs vl) with
    | false =>
      rw [hmv] at hmay
      exact rooms_not known_is hsz hmay (.inl rfl)
    | true =>
      rw [hmv] at hmay
      obtain ⟨K, w, R⟩ := rooms hmv hm
      have hc := cells_mass (.mk vk vn vs vl)
      have b0 : NewH (cellsV (.mk vk vn vs vl)) (.new (cellsV (.mk vk vn vs vl))) := fun σ => new_r (by omega) (by omega)
      have m1 := room_build hv hm (AHeap.new_ok (cellsV (.mk vk vn vs vl) : Int) (by omega) (by omega) 0)
      rw [R.made] at m1
      have l1 : Look 35 K (.v (.int .i64 (K.room - K.live))) := fun σ loc hH => left_r hH R.ok
      rw [R.left] at l1
      have m2 := room_copy hv hmv hm R
      obtain ⟨c1, c2, c3⟩ := R.copy
      have l2 : Look 33 (copyM K 3001 w).2 (.v (.int .i64 (copyM K 3001 w).2.live)) := fun σ loc hH => live_r hH
      have l3 : Look 36 (copyM K 3001 w).2 (.v (.int .i64 (copyM K 3001 w).2.most)) := fun σ loc hH => most_r hH
      rw [c2] at l2
      rw [c3] at l3
      have h47 := cells_c47 (.mk vk vn vs vl) (by omega)
      by_cases hn : cellsV (.mk vk vn vs vl) = 0
      · rw [hn] at b0 m1 l2 l3 h47
        exact rooms_0 known_is hsz hmay (by omega) h47 b0 m1 l1 m2 l2 l3
      · have hp : 0 < cellsV (.mk vk vn vs vl) := by omega
        obtain ⟨o1, o2⟩ := rooms_over hmv (less := less) (by omega) hp
        have b1 : NewH (less.tmod (cellsV (.mk vk vn vs vl))) (.new (less.tmod (cellsV (.mk vk vn vs vl)))) := fun σ => new_r o1 (by omega)
        have m3 := room_build hv hm (AHeap.new_ok (less.tmod (cellsV (.mk vk vn vs vl))) o1 (by omega) 0)
        rw [rooms_less hmv o2] at m3
        have l4 : Look 33 (.new (less.tmod (cellsV (.mk vk vn vs vl)))) (.v (.int .i64 (AHeap.new (less.tmod (cellsV (.mk vk vn vs vl)))).live)) := fun σ loc hH => live_r hH
        rw [live_of_new] at l4
        have l5 : Look 36 (.new (less.tmod (cellsV (.mk vk vn vs vl)))) (.v (.int .i64 (AHeap.new (less.tmod (cellsV (.mk vk vn vs vl)))).most)) := fun σ loc hH => most_r hH
        have hp2 : (0 : Int) < (cellsV (.mk vk vn vs vl) : Int) := by omega
        rcases c1 hp with e | e
        · rw [e] at m2
          exact rooms_7 known_is hsz hmay (by omega) hp2 h47 b0 m1 l1 m2 l2 l3 b1 rfl m3 l4 l5
        · rw [e] at m2
          exact rooms_240 known_is hsz hmay (by omega) hp2 h47 b0 m1 l1 m2 l2 l3 b1 rfl m3 l4 l5
  · refine rooms_big known_is (hs.mono ?_)
    rintro _ ⟨z, rfl, h1, h2⟩
    obtain ⟨h3, h4, h5⟩ := h2 (by decide)
    refine ⟨z, rfl, ?_⟩
    by_cases hz : z ≤ 9000
    · have := h5 hz; omega
    · omega
end Go.Proofs.Ytciciaikajdenaa
