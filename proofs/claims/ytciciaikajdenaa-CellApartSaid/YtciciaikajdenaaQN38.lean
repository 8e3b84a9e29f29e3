/- N38: CellApart (joined, but for the chapter's rows). -/
import Derived.Test.YtciciaikajdenaaQNB
import Derived.Test.YtciciaikajdenaaQN34
import Derived.Test.YtciciaikajdenaaQN35
import Derived.Test.YtciciaikajdenaaQN36
import Derived.Test.YtciciaikajdenaaQN37
set_option linter.unusedSimpArgs false
set_option linter.unusedVariables false
namespace Go.Proofs.Ytciciaikajdenaa
open Go.RowKit

theorem kok_ok {v : Val} {n : Nat} (hv : v.low) (hs : massV v ≤ 4000) {H : AHeap} {w : AWord} (hw : ∃ come fl, walkF H n w [] false = .ok v come fl) : ∀ u come fl, walkF H n w [] false = .ok u come fl → u.kok ∧ massV u ≤ 1000000000 := fun u c2 f2 hu => by
  obtain ⟨come, fl, hw⟩ := hw
  rw [hw] at hu
  injection hu with hu
  subst hu
  exact ⟨Val.low_kok _ hv, by omega⟩
theorem cellApart_w (kn : Known) (v : Val) (tw : Bool) (hv : v.low) : RunsP Try.prog 7 [.agg (valD v), .v (.bool tw)] (fun r => r = .v (.bool true)) := by
  by_cases hm : massV v ≤ 4000
  · have hsz := size_small hv
    have b0 : NewH 100000 (.new 100000) := new_m (by decide) (by decide)
    have m1 := build_m (H := .new 100000) hv (by omega) (AHeap.new_ok 100000 (by decide) (by decide) 0) (by decide)
    have h47 := cells_c47 v (by omega)
    have h51 := same_c51 v hv
    have hc := cells_mass v
    cases hmv : mayV v with
    | false =>
      rw [build_not hmv] at m1
      have l1 := live_m (.new 100000)
      rw [live_of_new] at l1
      obtain ⟨vk, vn, vs, vl⟩ := v
      exact apart_bad kn hsz b0 m1 (by decide) l1
    | true =>
      obtain ⟨K1, K2, w, y, A⟩ := aparted (v := v) (r := 100000) (by decide) hmv hm (by decide)
      rw [A.made] at m1
      have hkm := kok_ok (H := K1) hv hm A.walk1
      have ln1 := A.len1
      have m2 := copy_m (f := 8003) A.ok1 (by decide) A.live1 (by omega) hkm
      cases hf : filesV v with
      | true =>
        rw [A.files hf] at m2
        have l1 := live_m K1
        rw [A.lives1] at l1
        obtain ⟨vk, vn, vs, vl⟩ := v
        obtain ⟨wk, wn, ws, wg⟩ := w
        exact apart_file kn hsz b0 m1 m2 l1 h47
      | false =>
        obtain ⟨cp, ok2, live2, len2, hk, htwo, K4, hd, dn, fo, ok4, live4, len4, vy, vw5, vw, lv4⟩ := A.copy hf
        rw [cp] at m2
        have m3 := drop_m (w := w) (f := 8003) ok2 live2 (by omega) (fun _ => ⟨by omega, fo⟩)
        rw [hd] at m3
        have v1 := value_m (f := 8003) ok4 live4 (by omega) y
        rw [vy] at v1
        have v2 := value_m (f := 8003) ok4 live4 (by omega) w
        have l1 := live_m K4
        rw [lv4] at l1
        by_cases h5 : w.k = 5
        · obtain ⟨r1, r2, K3, b, al, ok3, live3, len3, vb, cb, wb, db, lv3⟩ := htwo h5
          rw [vw5 h5] at v2
          cases tw with
          | false =>
            obtain ⟨vk, vn, vs, vl⟩ := v
            obtain ⟨wk, wn, ws, wg⟩ := w
            obtain ⟨yk, yn, ys, yg⟩ := y
            simp only at h5
            subst h5
            exact apart_cell (wk := 0) kn hsz b0 m1 m2 m3 v1 v2 h51 l1 h47
          | true =>
            have c1 := reach_m (f := 8003) ok2 live2 (by omega) [w, y] (by simp)
            rw [r1] at c1
            have c2 := reach_m (f := 8003) ok2 live2 (by omega) [w, y, w] (by simp)
            rw [r2] at c2
            have m4 := alloc_m ok2 ⟨3, 0, [y, y]⟩ (by simp [maxLen])
            rw [al] at m4
            have v3 := value_m (f := 8003) ok3 live3 (by omega) b
            rw [vb] at v3
            have m5 := copy_m (w := b) (f := 8003) ok3 (by decide) live3 (by omega) (fun u come fl hu => by rw [wb] at hu; cases hu)
            rw [cb] at m5
            have m6 := drop_m (w := b) (f := 8003) ok3 live3 (by omega) (fun h => by
              exfalso
              simp only [reachM, walksF, wb] at h
              exact absurd h (by decide))
            rw [db] at m6
            have l2 := live_m K3
            rw [lv3] at l2
            obtain ⟨vk, vn, vs, vl⟩ := v
            obtain ⟨wk, wn, ws, wg⟩ := w
            obtain ⟨yk, yn, ys, yg⟩ := y
            obtain ⟨bk, bn, bs, bg⟩ := b
            simp only at h5
            subst h5
            exact apart_two kn hsz (n := (cellsV (.mk vk vn vs vl) : Int)) ⟨by omega, by omega⟩ b0 m1 m2 c1 c2 m4 v3 m5 m6 l2 h47
        · rw [vw h5] at v2
          obtain ⟨vk, vn, vs, vl⟩ := v
          obtain ⟨wk, wn, ws, wg⟩ := w
          obtain ⟨yk, yn, ys, yg⟩ := y
          exact apart_leaf kn hsz h5 b0 m1 m2 m3 v1 v2 h51 l1 h47
  · have hsz := size_great (n := 4000) hv (by decide) hm
    obtain ⟨vk, vn, vs, vl⟩ := v
    exact apart_big kn hsz
end Go.Proofs.Ytciciaikajdenaa
