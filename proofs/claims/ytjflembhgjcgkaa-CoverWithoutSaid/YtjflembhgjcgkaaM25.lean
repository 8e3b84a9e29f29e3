/- M25: what Check and Covers say, in values; without the useless one, with one more. No program in sight but in the two contracts' words. -/
import Derived.Test.YtjflembhgjcgkaaXC31C66
set_option linter.unusedSimpArgs false
set_option linter.unusedVariables false
namespace Go.Proofs.Ytjflembhgjcgkaa
open Go.RowKit

/-- What is not much. -/
structure FewP (g : Sg) (l : List Pat) : Prop where
  sm : g.Small
  ar : ∀ c ∈ g.cons, c.fields.length ≤ 300
  mass : massL l ≤ 200
theorem FewP.ac {g : Sg} {l : List Pat} (h : FewP g l) : acL l ≤ 200 := Nat.le_trans (acLe l) h.mass
where
  acLe : ∀ l : List Pat, acL l ≤ massL l := fun l => by
    have key : ∀ N : Nat, ∀ l : List Pat, massL l ≤ N → acL l ≤ massL l := fun N => by
      induction N with
      | zero =>
        intro l h
        cases l with
        | nil => exact Nat.le_refl _
        | cons p l => have := massP_pos p; simp only [massL] at h; omega
      | succ N ih =>
        intro l h
        cases l with
        | nil => exact Nat.le_refl _
        | cons p l =>
          obtain ⟨k, n, i, s, a, b, c, m⟩ := p
          simp only [massL, massP] at h ⊢
          have h1 := ih m (by omega)
          have h2 := ih l (by omega)
          simp only [acL, acP]
          split <;> omega
    exact key _ l (Nat.le_refl _)
theorem FewP.sl {g : Sg} {l : List Pat} (h : FewP g l) : SmallP 1000000 l :=
  ⟨Pat.smallL_mem (smallL_mass (Nat.le_trans h.mass (by omega)) (by omega)), Nat.le_trans (massL_len l) (Nat.le_trans h.mass (by omega))⟩
theorem FewP.of {g : Sg} {l m : List Pat} (h : FewP g l) (hm : massL m ≤ 200) : FewP g m := ⟨h.sm, h.ar, hm⟩

theorem mayZ_iff {g : Sg} {l : List Pat} : mayZ g l = 0 ↔ Serves g ∧ All2 g l := by
  unfold mayZ
  rw [← servesB_iff, ← togB_iff2]
  constructor
  · intro h
    split at h
    · assumption
    · cases h
  · intro h; rw [if_pos h]
theorem mayZ_two {g : Sg} {l : List Pat} (h : mayZ g l ≠ 0) : mayZ g l = 2 := by
  unfold mayZ at h ⊢
  split
  · rename_i q; rw [if_pos q] at h; exact absurd rfl h
  · rfl
/-- What Check answers. -/
def Ans (g : Sg) (l : List Pat) (n e : Int) : Prop :=
  (e = 2 ∧ mayZ g l ≠ 0) ∨ (e = 150 ∧ mayZ g l = 0 ∧ Miss g l) ∨ (e = 0 ∧ mayZ g l = 0 ∧ ¬ Miss g l ∧ ∀ i, i < l.length → Come g l i) ∨ (e = 151 ∧ mayZ g l = 0 ∧ ¬ Miss g l ∧ ∃ k : Nat, n = k ∧ k < l.length ∧ (∀ i, i < k → Come g l i) ∧ ¬ Come g l k)
theorem check_ans {g : Sg} {l : List Pat} (F : FewP g l) : ∃ (q : Pat) (n e : Int), RunsP Try.prog 22 [.agg (sigD g), patsD l] (fun v => v = resC q n e) ∧ Ans g l n e := by
  have hac := F.ac
  have hc := check_c F.sm (m := 1000000) (A := 300) (by omega) (by omega) F.ar F.sl 100000 (by omega) (by omega)
  by_cases hok : mayZ g l = 0
  · obtain ⟨hsv, hall⟩ := mayZ_iff.1 hok
    unfold checkD at hc
    rw [if_pos hok] at hc
    have hmu := miss_useful hsv hall F.ar (f := 100000) (by omega)
    cases hu : usefulF g 100000 (onesL l) (anysL 1) with
    | some w =>
      rw [hu] at hc
      have hlen := usefulF_len g _ _ _ _ hu
      have hmi : Miss g l := hmu.1 (by rw [← ones_eq, hu]; rfl)
      match w, hlen with
      | [p], _ => exact ⟨p, 0, 150, hc, .inr (.inl ⟨rfl, hok, hmi⟩)⟩
    | none =>
      rw [hu] at hc
      have hno : ¬ Miss g l := fun h => by have := hmu.2 h; rw [← ones_eq, hu] at this; cases this
      have hci : ∀ i, i < l.length → ((useK g 100000 l i).isSome = true ↔ Come g l i) := fun i hi => by
        obtain ⟨p, hp⟩ := getS hi
        unfold useK
        rw [hp]
        exact come_useful hsv hall F.ar (by omega) hp
      have hc : RunsP Try.prog 22 [.agg (sigD g), patsD l] (fun v => v = doneC (fun i => (useK g 100000 l i).isSome) l.length) := hc
      unfold doneC at hc
      cases hf : firstB (fun i => (useK g 100000 l i).isSome) l.length with
      | none =>
        rw [hf] at hc
        refine ⟨zeroP, 0, 0, hc, .inr (.inr (.inl ⟨rfl, hok, hno, fun i hi => (hci i hi).1 ?_⟩))⟩
        unfold firstB at hf
        have := List.find?_eq_none.1 hf i (List.mem_range.2 hi)
        cases hu2 : (useK g 100000 l i).isSome with
        | true => rfl
        | false => simp [hu2] at this
      | some k =>
        rw [hf] at hc
        unfold firstB at hf
        obtain ⟨h1, j, hj, hj2, h3⟩ := List.find?_eq_some_iff_getElem.1 hf
        simp only [List.getElem_range] at hj2 h3
        subst hj2
        have hj : j < l.length := by simpa using hj
        refine ⟨zeroP, j, 151, hc, .inr (.inr (.inr ⟨rfl, hok, hno, j, rfl, hj, fun i hi => (hci i (by omega)).1 ?_, fun h => ?_⟩))⟩
        · have := h3 i hi
          cases hu2 : (useK g 100000 l i).isSome with
          | true => rfl
          | false => simp [hu2] at this
        · have := (hci j hj).2 h
          simp [this] at h1
  · unfold checkD at hc
    rw [if_neg hok] at hc
    exact ⟨zeroP, 0, 2, hc, .inl ⟨rfl, hok⟩⟩
theorem covers_ans {g : Sg} {l : List Pat} {p : Pat} (F : FewP g (l ++ [p])) (hok : mayZ g (l ++ [p]) = 0) : ∃ b : Bool, RunsP Try.prog 28 [.agg (sigD g), patsD l, .agg (patD p)] (fun v => v = .tup [.v (.bool b), .v (.int .i64 0)]) ∧ (b = true ↔ ¬ Come g (l ++ [p]) l.length) := by
  have hac := F.ac
  obtain ⟨hsv, hall⟩ := mayZ_iff.1 hok
  have hc := covers_c F.sm (m := 1000000) (A := 300) (by omega) (by omega) F.ar F.sl 100000 (by omega) (by omega)
  unfold coversD at hc
  rw [if_pos hok] at hc
  refine ⟨_, hc, ?_⟩
  have hp : (l ++ [p])[l.length]? = some p := by simp
  have h := come_useful hsv hall F.ar (f := 100000) (by omega) hp
  rw [List.take_left' rfl, ← ones_eq] at h
  rw [← h]
  cases (usefulF g 100000 (onesL l) [p]).isSome <;> simp
theorem covers_no {g : Sg} {l : List Pat} {p : Pat} (F : FewP g (l ++ [p])) (hok : mayZ g (l ++ [p]) ≠ 0) : RunsP Try.prog 28 [.agg (sigD g), patsD l, .agg (patD p)] (fun v => v = .tup [.v (.bool false), .v (.int .i64 2)]) := by
  have hac := F.ac
  have hc := covers_c F.sm (m := 1000000) (A := 300) (by omega) (by omega) F.ar F.sl 100000 (by omega) (by omega)
  unfold coversD at hc
  rw [if_neg hok] at hc
  exact hc

section
variable {g : Sg} {l : List Pat} {p : Pat}
/-- Of values that go with some of the patterns. -/
theorem come_sub {m : List Pat} (ha : All2 g l) (hm : ∀ q ∈ m, q ∈ l) {v : Val} (hv : ∀ q ∈ m, goesP g q v) : ∃ v', (∀ q ∈ l, goesP g q v') ∧ ∀ q ∈ m, fitsB q v' = fitsB q v :=
  retype _ l m (Nat.le_refl _) ha hm v hv
theorem without_ok (hsv : Serves g) (ha : All2 g l) {k : Nat} (hk : k < l.length) (hno : ¬ Miss g l) (hci : ∀ i, i < k → Come g l i) (hck : ¬ Come g l k) {n e : Int} (h : Ans g (l.take k ++ l.drop (k + 1)) n e) : e = 0 ∨ e = 151 ∧ (k : Int) ≤ n := by
  have hsub : ∀ q ∈ l.take k ++ l.drop (k + 1), q ∈ l := fun q hq => (List.mem_append.1 hq).elim List.mem_of_mem_take List.mem_of_mem_drop
  have hok : mayZ g (l.take k ++ l.drop (k + 1)) = 0 := mayZ_iff.2 ⟨hsv, ha.sub hsub⟩
  obtain ⟨pk, hpk⟩ := getS hk
  have hmem : ∀ q ∈ l, q ∈ l.take k ++ l.drop (k + 1) ∨ q = pk := fun q hq => by
    obtain ⟨j, hj⟩ := List.getElem?_of_mem hq
    rcases Nat.lt_trichotomy j k with h | h | h
    · exact .inl (List.mem_append.2 (.inl (List.mem_of_getElem? (i := j) (by rw [List.getElem?_take_of_lt h]; exact hj))))
    · subst h; rw [hpk] at hj; injection hj with hj; exact .inr hj.symm
    · exact .inl (List.mem_append.2 (.inr (List.mem_of_getElem? (i := j - (k + 1)) (by rw [List.getElem?_drop, show k + 1 + (j - (k + 1)) = j from by omega]; exact hj))))
  have hnm : ¬ Miss g (l.take k ++ l.drop (k + 1)) := fun ⟨v, h1, h2⟩ => by
    obtain ⟨v', g1, g2⟩ := come_sub ha hsub h1
    have hnf : ∀ q ∈ l.take k ++ l.drop (k + 1), fitsB q v' = false := fun q hq => by rw [g2 q hq]; exact h2 q hq
    cases hf : fitsB pk v' with
    | false => exact hno ⟨v', g1, fun q hq => (hmem q hq).elim (hnf q) fun e => e ▸ hf⟩
    | true => exact hck ⟨v', g1, pk, hpk, hf, fun j q hj hq => hnf q (List.mem_append.2 (.inl (List.mem_of_getElem? (i := j) (by rw [List.getElem?_take_of_lt hj]; exact hq))))⟩
  rcases h with ⟨_, h⟩ | ⟨_, _, h⟩ | ⟨h, _⟩ | ⟨he, _, _, m, rfl, hm, _, hcm⟩
  · exact absurd hok h
  · exact absurd h hnm
  · exact .inl h
  · refine .inr ⟨he, ?_⟩
    refine Classical.byContradiction fun hlt => hcm ?_
    have hmk : m < k := by omega
    obtain ⟨v, h1, q, hq, hf, hb⟩ := hci m hmk
    have get : ∀ j, j < k → (l.take k ++ l.drop (k + 1))[j]? = l[j]? := fun j hj => by
      rw [List.getElem?_append_left (by rw [List.length_take]; omega), List.getElem?_take_of_lt hj]
    exact ⟨v, fun q hq => h1 q (hsub q hq), q, by rw [get m hmk]; exact hq, hf, fun j q' hj hq' => hb j q' hj (by rw [get j (by omega)] at hq'; exact hq')⟩
theorem any_all2 (ha : All2 g l) : All2 g (l ++ [anyP]) :=
  (all2_cons ha (wf_any g) fun q _ => twoP_any q).sub fun q hq => (List.mem_append.1 hq).elim (List.mem_cons_of_mem _) fun h => by rw [List.mem_singleton.1 h]; exact List.mem_cons_self ..
theorem more_ok (hsv : Serves g) (ha : All2 g l) (hmi : Miss g l) {n e : Int} (h : Ans g (l ++ [anyP]) n e) : e = 0 ∨ e = 151 ∧ n < l.length := by
  have hok : mayZ g (l ++ [anyP]) = 0 := mayZ_iff.2 ⟨hsv, any_all2 ha⟩
  have hnm : ¬ Miss g (l ++ [anyP]) := fun ⟨v, h1, h2⟩ => by
    have := h2 anyP (by simp)
    rw [fits_open (show openB anyP = true from rfl)] at this
    cases this
  rcases h with ⟨_, h⟩ | ⟨_, _, h⟩ | ⟨h, _⟩ | ⟨he, _, _, m, rfl, hm, _, hcm⟩
  · exact absurd hok h
  · exact absurd h hnm
  · exact .inl h
  · refine .inr ⟨he, ?_⟩
    rw [List.length_append] at hm
    simp only [List.length_cons, List.length_nil] at hm
    refine Classical.byContradiction fun hlt => hcm ?_
    have hml : m = l.length := by omega
    subst hml
    obtain ⟨v, h1, h2⟩ := hmi
    refine ⟨v, fun q hq => ?_, anyP, by simp, fits_open rfl, fun j q hj hq => ?_⟩
    · rcases List.mem_append.1 hq with hq | hq
      · exact h1 q hq
      · rw [List.mem_singleton.1 hq]; exact goes_open rfl
    · rw [List.getElem?_append_left hj] at hq
      exact h2 q (List.mem_of_getElem? hq)
/-- What stands ahead covers. -/
theorem ahead_covers {m : List Pat} (hp : p ∈ m) : ¬ Come g (m ++ [p]) m.length := fun ⟨v, h1, q, hq, hf, hb⟩ => by
  obtain ⟨j, hj⟩ := List.getElem?_of_mem hp
  have hjl := (List.getElem?_eq_some_iff.1 hj).1
  have e : (m ++ [p])[m.length]? = some p := by simp
  rw [e] at hq
  injection hq with hq
  subst hq
  have := hb j p hjl (by rw [List.getElem?_append_left hjl]; exact hj)
  rw [hf] at this
  cases this
theorem all2_more (ha : All2 g (l ++ [p])) : All2 g ((l ++ [p]) ++ [p]) ∧ All2 g ((p :: l) ++ [p]) := by
  refine ⟨ha.sub fun q hq => ?_, ha.sub fun q hq => ?_⟩
  · rcases List.mem_append.1 hq with hq | hq
    · exact hq
    · exact List.mem_append.2 (.inr hq)
  · rcases List.mem_append.1 hq with hq | hq
    · rcases List.mem_cons.1 hq with rfl | hq
      · simp
      · exact List.mem_append.2 (.inl hq)
    · exact List.mem_append.2 (.inr hq)
theorem miss_covered (ha : All2 g (l ++ [p])) (hc : ¬ Come g (l ++ [p]) l.length) : Miss g (l ++ [p]) ↔ Miss g l := by
  constructor
  · rintro ⟨v, h1, h2⟩
    exact ⟨v, fun q hq => h1 q (List.mem_append.2 (.inl hq)), fun q hq => h2 q (List.mem_append.2 (.inl hq))⟩
  · rintro ⟨v, h1, h2⟩
    obtain ⟨v', g1, g2⟩ := come_sub (m := l) ha (fun q hq => List.mem_append.2 (.inl hq)) h1
    have hnf : ∀ q ∈ l, fitsB q v' = false := fun q hq => by rw [g2 q hq]; exact h2 q hq
    cases hf : fitsB p v' with
    | false =>
      refine ⟨v', g1, fun q hq => ?_⟩
      rcases List.mem_append.1 hq with hq | hq
      · exact hnf q hq
      · rw [List.mem_singleton.1 hq]; exact hf
    | true => exact absurd ⟨v', g1, p, by simp, hf, fun j q hj hq => by rw [List.getElem?_append_left hj] at hq; exact hnf q (List.mem_of_getElem? hq)⟩ hc
theorem covered_same {g : Sg} {l : List Pat} {p : Pat} (ha : All2 g (l ++ [p])) (hc : ¬ Come g (l ++ [p]) l.length) {n e n' e' : Int} (h : Ans g l n e) (h' : Ans g (l ++ [p]) n' e') (hok : mayZ g (l ++ [p]) = 0) (he : e ≠ 2) : e = 150 ↔ e' = 150 := by
  have hm := miss_covered ha hc
  rcases h with ⟨h, _⟩ | ⟨h, _, hM⟩ | ⟨h, _, hM, _⟩ | ⟨h, _, hM, _⟩ <;> rcases h' with ⟨_, h2⟩ | ⟨h2, _, hM2⟩ | ⟨h2, _, hM2, _⟩ | ⟨h2, _, hM2, _⟩ <;> first | exact absurd h he | exact absurd hok h2 | (subst h h2; first | exact Iff.rfl | exact absurd (hm.2 hM) hM2 | exact absurd (hm.1 hM2) hM | (constructor <;> intro q <;> cases q))
end
end Go.Proofs.Ytjflembhgjcgkaa
