/- N50: CellLast (joined, but for the chapter's rows). -/
import Derived.Test.YtciciaikajdenaaQNB
import Derived.Test.YtciciaikajdenaaQN48
import Derived.Test.YtciciaikajdenaaQN49
set_option linter.unusedSimpArgs false
set_option linter.unusedVariables false
namespace Go.Proofs.Ytciciaikajdenaa
open Go.RowKit

theorem cellLast_w (kn : Known) (v u : Val) (hv : v.low) (hu : u.low) : RunsP Try.prog 11 [.agg (valD v), .agg (valD u)] (fun r => r = .v (.bool true)) := by
  have sv := size_small hv
  have su := size_small hu
  have mv := may55_c v hv
  have mu := may55_c u hu
  have ev := same_c51 v hv
  have eu := same_c51 u hu
  by_cases hmv : massV v ≤ 2000
  · by_cases hmu : massV u ≤ 2000
    · cases hyv : mayV v with
      | false =>
        rw [hyv] at mv
        obtain ⟨vk, vn, vs, vl⟩ := v
        obtain ⟨uk, un, us, ul⟩ := u
        exact last_no1 kn sv su mv
      | true =>
        rw [hyv] at mv
        cases hyu : mayV u with
        | false =>
          rw [hyu] at mu
          obtain ⟨vk, vn, vs, vl⟩ := v
          obtain ⟨uk, un, us, ul⟩ := u
          exact last_no2 kn sv su mv mu
        | true =>
          rw [hyu] at mu
          obtain ⟨K1, K2, K3, K4, b, w, a, A⟩ := lasted (r := 100000) (by decide) hyv hyu hmv hmu (by decide)
          have b0 : NewH 100000 (.new 100000) := new_m (by decide) (by decide)
          have m1 := build_m (H := .new 100000) hu (by omega) (AHeap.new_ok 100000 (by decide) (by decide) 0) (by decide)
          rw [A.made1] at m1
          have m2 := build_m hv (by omega) A.ok1 (by decide)
          rw [A.made2] at m2
          have l2 := A.len2
          have d1 := A.dropN.1
          have m3 := drop_m (w := w) (f := 4001) A.ok2 A.live2 (by omega) (fun _ => ⟨by omega, A.dropN.2⟩)
          rw [A.drop] at m3
          have m4 := build_m hv (by omega) A.ok3 (by decide)
          rw [A.made4] at m4
          have l4 := A.len4
          have v1 := value_m (f := 4001) A.ok4 A.live4 (by omega) a
          rw [A.val1] at v1
          have v2 := value_m (f := 4001) A.ok4 A.live4 (by omega) b
          rw [A.val2] at v2
          have c1 := cells_m A.ok2
          have c2 := cells_m A.ok4
          have lm := most_m K4
          rw [A.most] at lm
          have hcl := cells_len A.ok2
          have hll := live_len K2
          obtain ⟨vk, vn, vs, vl⟩ := v
          obtain ⟨uk, un, us, ul⟩ := u
          obtain ⟨wk, wn, ws, wg⟩ := w
          obtain ⟨bk, bn, bs, bg⟩ := b
          obtain ⟨qk, qn, qs, qg⟩ := a
          exact last_yes kn sv su mv mu A.same (by omega) A.nums v1 v2 ev eu b0 m1 m2 c1 m3 m4 c2 lm
    · have sg := size_great (n := 2000) hu (by decide) hmu
      obtain ⟨vk, vn, vs, vl⟩ := v
      obtain ⟨uk, un, us, ul⟩ := u
      exact last_big2 kn sv sg
  · have sg := size_great (n := 2000) hv (by decide) hmv
    obtain ⟨vk, vn, vs, vl⟩ := v
    obtain ⟨uk, un, us, ul⟩ := u
    exact last_big1 kn sg
end Go.Proofs.Ytciciaikajdenaa
