/- Walks: the small functions of the document's heap. -/
import Derived.Test.YtciciaikajdenaaW4
import Derived.Test.YtciciaikajdenaaW19
set_option linter.unusedSimpArgs false
set_option linter.unusedVariables false
namespace Go.Proofs.Ytciciaikajdenaa
open Go.RowKit

set_option maxRecDepth 100000 in
set_option maxHeartbeats 1600000 in
theorem word_r (x : AWord) (w : World) :
    Calls Try.prog 73 #[wv x] w fun e w' => e = .returned (.bool x.ok) ∧ Below w.heap.size w w' := by
  obtain ⟨k, n, s, g⟩ := x
  unfold wv
  rcases kinds k with rfl | rfl | rfl | rfl | rfl | rfl | rfl | ⟨k1, k2, k3, k4, k5, k6, k7⟩
  case inr.inr.inr.inr.inr.inr.inr =>
    have h1 := beq_eq_false_iff_ne.2 k1
    have h2 := beq_eq_false_iff_ne.2 k2
    have h3 := beq_eq_false_iff_ne.2 k3
    have h4 := beq_eq_false_iff_ne.2 k4
    have h5 := beq_eq_false_iff_ne.2 k5
    have h6 := beq_eq_false_iff_ne.2 k6
    have h7 := beq_eq_false_iff_ne.2 k7
    go_enter Try.func73, Try.ntmps73
    go_wp2
    go_ret
    exact ⟨by simp [AWord.ok, k1, k2, k3, k4, k5, k6, k7], (Below.refl _ _).alloc (Nat.le_refl _) _⟩
  all_goals
    go_enter Try.func73, Try.ntmps73
    go_wp2
    all_goals
      go_ret
      refine ⟨?_, (Below.refl _ _).alloc (Nat.le_refl _) _⟩
      simp [AWord.ok, *]
      try (intro q1 q2; first | (exfalso; omega) | simp_all)

def CopiedPostR (c : ACell) (w : World) (e : Ending) (w' : World) : Prop := ∃ v, e = .returned (cv c v) ∧ St w w' [wordsOwn v c.ws]

set_option maxRecDepth 100000 in
theorem copied_r (c : ACell) (v : Value) (w : World) (hm : c.ws.length ≤ 1000000) (h : rd w 4 v c.ws.length (flatW c.ws)) :
    Calls Try.prog 75 #[cv c v] w fun e w' => CopiedPostR c w e w' := by
  obtain ⟨a, cap, rfl⟩ := rd_form h
  have s0 := ((St.refl w).allocC #[Value.int .u8 c.k, .int .i64 c.n, .slice a c.ws.length cap] 34).allocC #[Value.int .u8 0, .int .i64 0, .slice none 0 0] 34
  simp only [World.size_alloc] at s0
  have s1 := s0.allocC #[] 36
  simp only [World.size_alloc] at s1
  have s2 := St.own_mk (T := 36) (xs := []) (rest := []) (n := 0) (cap := 0) (sz := 4) s1 rfl (Nat.le_refl _) (by decide) (by decide)
  obtain ⟨i, hi, hz0, hz1, hz2⟩ := info_parts info36
  have A := Lib.hid fun o rest ops Q x => wpList_append_st (P := Try.prog) (o := o) (rest := rest) (ops := ops) (Q := Q) (a := x) s2 (h.st s2) (one_flatW _) hi hz0 hz1 hz2 rfl (by unfold maxLen; omega) (by omega) Try.underlying32
  clear s0 s1 s2 h hi hz0 hz1 hz2
  unfold cv
  go_enter Try.func75, Try.ntmps75
  go_wp2_with (at_builtin; refine A.out _ _ _ _ _ _ _ rfl rfl rfl rfl ?_; intro v' w1 S1 _; obtain ⟨a', cap', rfl, hcap⟩ := S1.own_form; have c1 := (S1.pull 2).cell; have f1 := (S1.pull 2).free; have c2 := (S1.pull 1).cell; have f2 := (S1.pull 1).free; simp only [Nat.zero_add, List.nil_append] at hcap S1; have S2 := Lib.hid S1; clear S1)
  have S3 := ((((((S2.out).pull 2).set 2 (.slice a' c.ws.length cap')).pull 2).set 0 (.int .u8 c.k)).set 1 (.int .i64 c.n)).set 2 (.slice a' c.ws.length cap')
  have c3 := S3.cell
  refine bodyPost_ret (v := cv c (.slice a' c.ws.length cap')) (by simp [results, Try.results75, go_sem, c3, cv]) rfl ⟨_, rfl, ?_⟩
  exact (S3.pull 2).fst

end Go.Proofs.Ytciciaikajdenaa
