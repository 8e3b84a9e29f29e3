/- Walks: the small functions of package heap that make no lasting memory. -/
import Derived.Test.YtciciaikajdenaaRows
import Derived.Test.YtciciaikajdenaaSlApp
import Derived.Test.YtciciaikajdenaaHModel
import Derived.WalkSpells
import Derived.WalkLawsBesides
import Derived.BigQuiet
import Derived.Deep.QuietTactic
import Derived.Lib.Hide
namespace Go.Proofs.Ytciciaikajdenaa
open Go.RowKit

def wcells (x : AWord) : List Value := [.int .u8 x.k, .int .i64 x.n, .string x.s, .int .i64 x.g]
def wv (x : AWord) : Value := .agg #[.int .u8 x.k, .int .i64 x.n, .string x.s, .int .i64 x.g]

theorem kinds (k : Int) : k = 1 ∨ k = 2 ∨ k = 3 ∨ k = 4 ∨ k = 5 ∨ k = 6 ∨ k = 7 ∨ (k ≠ 1 ∧ k ≠ 2 ∧ k ≠ 3 ∧ k ≠ 4 ∧ k ≠ 5 ∧ k ≠ 6 ∧ k ≠ 7) := by omega

set_option maxHeartbeats 800000 in
theorem word_c (x : AWord) (w : World) :
    Calls Try.prog 72 #[wv x] w fun e w' => e = .returned (.bool x.ok) ∧ Below w.heap.size w w' := by
  obtain ⟨k, n, s, g⟩ := x
  unfold wv
  rcases kinds k with rfl | rfl | rfl | rfl | rfl | rfl | rfl | ⟨k1, k2, k3, k4, k5, k6, k7⟩
  case inr.inr.inr.inr.inr.inr.inr =>
    have h1 := beq_eq_false_iff_ne.2 k1
    have h2 := beq_eq_false_iff_ne.2 k2
    have h3 := beq_eq_false_iff_ne.2 k3
    have h4 := beq_eq_false_iff_ne.2 k4
    have h5 := beq_eq_false_iff_ne.2 k5
    have h6 := beq_eq_false_iff_ne.2 k6
    have h7 := beq_eq_false_iff_ne.2 k7
    go_enter Try.func72, Try.ntmps72
    go_wp2
    go_ret
    refine ⟨by simp [AWord.ok, k1, k2, k3, k4, k5, k6, k7], ?_⟩
    exact ((Below.refl _ _).alloc (Nat.le_refl _) _).alloc (by simp) _
  all_goals
    go_enter Try.func72, Try.ntmps72
    go_wp2
    all_goals
      go_ret
      refine ⟨?_, ((Below.refl _ _).alloc (Nat.le_refl _) _).alloc (by simp) _⟩
      simp [AWord.ok, *]
      try first | omega | (intro _; exfalso; omega)

end Go.Proofs.Ytciciaikajdenaa
