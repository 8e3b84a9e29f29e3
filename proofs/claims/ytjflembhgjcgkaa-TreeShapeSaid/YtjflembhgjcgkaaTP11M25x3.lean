/- M25: what Check and Covers say, in values; without the useless one, with one more. No program in sight but in the two contracts' words. -/
import Derived.Test.YtjflembhgjcgkaaTP11C28x3
import Derived.Test.YtjflembhgjcgkaaTP11C39x3
import Derived.Test.YtjflembhgjcgkaaTP11XC3C4
import Derived.Test.YtjflembhgjcgkaaTP11XM1M11C1x2
import Derived.Test.YtjflembhgjcgkaaTP11M15x3
import Derived.Test.YtjflembhgjcgkaaTP11XC40C41
import Derived.Test.YtjflembhgjcgkaaTP11C58x2
import Derived.Test.YtjflembhgjcgkaaTP11C36
import Derived.Test.YtjflembhgjcgkaaTP11XM3C12
import Derived.Test.YtjflembhgjcgkaaTP11C16
import Derived.Test.YtjflembhgjcgkaaTP11C13x2
import Derived.Test.YtjflembhgjcgkaaTP11XC32C47
set_option linter.unusedSimpArgs false
set_option linter.unusedVariables false
namespace Go.Proofs.Ytjflembhgjcgkaa
open Go.RowKit

/-- What is not much. -/
structure FewP (g : Sg) (l : List Pat) : Prop where
  sm : g.Small
  ar : ∀ c ∈ g.cons, c.fields.length ≤ 300
  mass : massL l ≤ 200
theorem FewP.ac {g : Sg} {l : List Pat} (h : FewP g l) : acL l ≤ 200 := Nat.le_trans (acLe l) h.mass
where
  acLe : ∀ l : List Pat, acL l ≤ massL l := fun l => by
    have key : ∀ N : Nat, ∀ l : List Pat, massL l ≤ N → acL l ≤ massL l := fun N => by
      induction N with
      | zero =>
        intro l h
        cases l with
        | nil => exact Nat.le_refl _
        | cons p l => have := massP_pos p; simp only [massL] at h; omega
      | succ N ih =>
        intro l h
        cases l with
        | nil => exact Nat.le_refl _
        | cons p l =>
          obtain ⟨k, n, i, s, a, b, c, m⟩ := p
          simp only [massL, massP] at h ⊢
          have h1 := ih m (by omega)
          have h2 := ih l (by omega)
          simp only [acL, acP]
          split <;> omega
    exact key _ l (Nat.le_refl _)
theorem FewP.sl {g : Sg} {l : List Pat} (h : FewP g l) : SmallP 1000000 l :=
  ⟨Pat.smallL_mem (smallL_mass (Nat.le_trans h.mass (by omega)) (by omega)), Nat.le_trans (massL_len l) (Nat.le_trans h.mass (by omega))⟩
theorem FewP.of {g : Sg} {l m : List Pat} (h : FewP g l) (hm : massL m ≤ 200) : FewP g m := ⟨h.sm, h.ar, hm⟩

theorem mayZ_iff {g : Sg} {l : List Pat} : mayZ g l = 0 ↔ Serves g ∧ All2 g l := by
  unfold mayZ
  rw [← servesB_iff, ← togB_iff2]
  constructor
  · intro h
    split at h
    · assumption
    · cases h
  · intro h; rw [if_pos h]
/-- What Check answers. -/
def Ans (g : Sg) (l : List Pat) (n e : Int) : Prop :=
  (e = 2 ∧ mayZ g l ≠ 0) ∨ (e = 150 ∧ mayZ g l = 0 ∧ Miss g l) ∨ (e = 0 ∧ mayZ g l = 0 ∧ ¬ Miss g l ∧ ∀ i, i < l.length → Come g l i) ∨ (e = 151 ∧ mayZ g l = 0 ∧ ¬ Miss g l ∧ ∃ k : Nat, n = k ∧ k < l.length ∧ (∀ i, i < k → Come g l i) ∧ ¬ Come g l k)
theorem check_ans {g : Sg} {l : List Pat} (F : FewP g l) : ∃ (q : Pat) (n e : Int), RunsP Try.prog 22 [.agg (sigD g), patsD l] (fun v => v = resC q n e) ∧ Ans g l n e := by
  have hac := F.ac
  have hc := check_c F.sm (m := 1000000) (A := 300) (by omega) (by omega) F.ar F.sl 100000 (by omega) (by omega)
  by_cases hok : mayZ g l = 0
  · obtain ⟨hsv, hall⟩ := mayZ_iff.1 hok
    unfold checkD at hc
    rw [if_pos hok] at hc
    have hmu := miss_useful hsv hall F.ar (f := 100000) (by omega)
    cases hu : usefulF g 100000 (onesL l) (anysL 1) with
    | some w =>
      rw [hu] at hc
      have hlen := usefulF_len g _ _ _ _ hu
      have hmi : Miss g l := hmu.1 (by rw [← ones_eq, hu]; rfl)
      match w, hlen with
      | [p], _ => exact ⟨p, 0, 150, hc, .inr (.inl ⟨rfl, hok, hmi⟩)⟩
    | none =>
      rw [hu] at hc
      have hno : ¬ Miss g l := fun h => by have := hmu.2 h; rw [← ones_eq, hu] at this; cases this
      have hci : ∀ i, i < l.length → ((useK g 100000 l i).isSome = true ↔ Come g l i) := fun i hi => by
        obtain ⟨p, hp⟩ := getS hi
        unfold useK
        rw [hp]
        exact come_useful hsv hall F.ar (by omega) hp
      have hc : RunsP Try.prog 22 [.agg (sigD g), patsD l] (fun v => v = doneC (fun i => (useK g 100000 l i).isSome) l.length) := hc
      unfold doneC at hc
      cases hf : firstB (fun i => (useK g 100000 l i).isSome) l.length with
      | none =>
        rw [hf] at hc
        refine ⟨zeroP, 0, 0, hc, .inr (.inr (.inl ⟨rfl, hok, hno, fun i hi => (hci i hi).1 ?_⟩))⟩
        unfold firstB at hf
        have := List.find?_eq_none.1 hf i (List.mem_range.2 hi)
        cases hu2 : (useK g 100000 l i).isSome with
        | true => rfl
        | false => simp [hu2] at this
      | some k =>
        rw [hf] at hc
        unfold firstB at hf
        obtain ⟨h1, j, hj, hj2, h3⟩ := List.find?_eq_some_iff_getElem.1 hf
        simp only [List.getElem_range] at hj2 h3
        subst hj2
        have hj : j < l.length := by simpa using hj
        refine ⟨zeroP, j, 151, hc, .inr (.inr (.inr ⟨rfl, hok, hno, j, rfl, hj, fun i hi => (hci i (by omega)).1 ?_, fun h => ?_⟩))⟩
        · have := h3 i hi
          cases hu2 : (useK g 100000 l i).isSome with
          | true => rfl
          | false => simp [hu2] at this
        · have := (hci j hj).2 h
          simp [this] at h1
  · unfold checkD at hc
    rw [if_neg hok] at hc
    exact ⟨zeroP, 0, 2, hc, .inl ⟨rfl, hok⟩⟩
theorem covers_ans {g : Sg} {l : List Pat} {p : Pat} (F : FewP g (l ++ [p])) (hok : mayZ g (l ++ [p]) = 0) : ∃ b : Bool, RunsP Try.prog 28 [.agg (sigD g), patsD l, .agg (patD p)] (fun v => v = .tup [.v (.bool b), .v (.int .i64 0)]) ∧ (b = true ↔ ¬ Come g (l ++ [p]) l.length) := by
  have hac := F.ac
  obtain ⟨hsv, hall⟩ := mayZ_iff.1 hok
  have hc := covers_c F.sm (m := 1000000) (A := 300) (by omega) (by omega) F.ar F.sl 100000 (by omega) (by omega)
  unfold coversD at hc
  rw [if_pos hok] at hc
  refine ⟨_, hc, ?_⟩
  have hp : (l ++ [p])[l.length]? = some p := by simp
  have h := come_useful hsv hall F.ar (f := 100000) (by omega) hp
  rw [List.take_left' rfl, ← ones_eq] at h
  rw [← h]
  cases (usefulF g 100000 (onesL l) [p]).isSome <;> simp
section
variable {g : Sg} {l : List Pat} {p : Pat}
/-- Of values that go with some of the patterns. -/
theorem come_sub {m : List Pat} (ha : All2 g l) (hm : ∀ q ∈ m, q ∈ l) {v : Val} (hv : ∀ q ∈ m, goesP g q v) : ∃ v', (∀ q ∈ l, goesP g q v') ∧ ∀ q ∈ m, fitsB q v' = fitsB q v :=
  retype _ l m (Nat.le_refl _) ha hm v hv
end
end Go.Proofs.Ytjflembhgjcgkaa
/- C43: May, Asks, There, of the document's tree. -/
set_option linter.unusedSimpArgs false
set_option linter.unusedVariables false
namespace Go.Proofs.Ytjflembhgjcgkaa
open Go.RowKit

structure FOk (L : List FactT) : Prop where
  len : L.length ≤ 1000000
  each : ∀ f ∈ L, f.path.length ≤ 1000000000 ∧ f.no.length ≤ 1000000000000
theorem FOk.known {L : List FactT} (h : FOk L) {path : List Int} (hp : path.length ≤ 1000000000) : RunsP Try.prog 109 [factsD L, intsD path] (fun v => v = knownD (knownF L path)) :=
  known109_c L path (by have := h.len; omega) (by omega) fun f hf => by have := (h.each f hf).1; omega
section
variable {L : List FactT} {k n i a b c : Int} {s : ByteArray} {l : List Pat} {path : List Int}
end
/-! Asks. -/
section
variable {L : List FactT} {k n i a b c : Int} {s : ByteArray} {l : List Pat} {path : List Int}
end
/-! There. -/
end Go.Proofs.Ytjflembhgjcgkaa
/- M19, C46, C55: in one. -/
set_option linter.unusedSimpArgs false
set_option linter.unusedVariables false
/- M19: trees that are built are small; the two Builds agree. No program in sight. -/
namespace Go.Proofs.Ytjflembhgjcgkaa
open Go.RowKit

theorem small_bare {k n : Int} {path : List Int} {c e : List TreeT} (hp : path.length ≤ 9223372036854775807) (hc : c.length ≤ 9223372036854775807) (he : e.length ≤ 9223372036854775807) (h1 : ∀ t ∈ c, t.small) (h2 : ∀ t ∈ e, t.small) : (bare k n path c e).small :=
  ⟨hp, hc, he, TreeT.smallL_of h1, TreeT.smallL_of h2⟩
theorem small_at {t : TreeT} (h : t.small) (a b c : Int) (s : ByteArray) : (t.at a b c s).small := by
  obtain ⟨bk, bn, bi, bs, k, n, p, cs, e⟩ := t
  exact h
theorem branches_small (F : Int → Option Pat → TreeT × Int) : ∀ (l : List Pat) (left : Int), (∀ left s, (F left s).1.small) → ∀ t ∈ (branchesF F l left).1, t.small
  | [], left, _, t, h => by cases h
  | p :: l, left, hF, t, h => by
    simp only [branchesF] at h
    rcases List.mem_cons.1 h with rfl | h
    · exact small_at (hF _ _) _ _ _ _
    · exact branches_small F l _ hF t h
theorem build_small {g : Sg} (hs : g.Small) {M : Nat} (hM : M ≤ 100000) : ∀ (f : Nat) (left : Int) (rows : List RowT), RowsM g M rows → (buildF g f left rows).1.small
  | 0, left, rows, hr => small_bare (by simp) (by simp) (by simp) (by simp) (by simp)
  | f + 1, left, rows, hr => by
    unfold buildF
    split
    · exact small_bare (by simp) (by simp) (by simp) (by simp) (by simp)
    · split
      · exact small_bare (by simp) (by simp) (by simp) (by simp) (by simp)
      · rename_i r rest
        split
        · exact small_bare (by simp) (by simp) (by simp) (by simp) (by simp)
        · rename_i a asks ha
          have hl := casesF_len hs hM hr a.path a.p
          have hp := hr.plen r (List.mem_cons_self ..) a (by rw [ha]; exact List.mem_cons_self ..)
          have hF : ∀ left s, (buildF g f left (narrowF (r :: rest) a.path s)).1.small := fun left s => build_small hs hM f left _ (hr.narrow s)
          have hb := branches_small (fun left p => buildF g f left (narrowF (r :: rest) a.path p)) (casesF g (r :: rest) a.path a.p) (left - 1) hF
          have hbl := branchesF_len (fun left p => buildF g f left (narrowF (r :: rest) a.path p)) (casesF g (r :: rest) a.path a.p) (left - 1)
          simp only
          split
          · exact small_bare (by omega) (by rw [hbl]; omega) (by simp) hb (by simp)
          · exact small_bare (by omega) (by rw [hbl]; omega) (by simp) hb fun t ht => by rw [List.mem_singleton.1 ht]; exact hF _ _
theorem buildT_small {g : Sg} (hs : g.Small) {l : List Pat} (hl : massL l ≤ 100000) : (buildT g l (mayZ g l)).1.small := by
  unfold buildT
  split
  · exact small_bare (by simp) (by simp) (by simp) (by simp) (by simp)
  · rename_i h
    have hok : servesB g = true ∧ togB g l = true := by
      unfold mayZ at h
      split at h
      · assumption
      · simp at h
    simp only
    split
    · exact small_bare (by simp) (by simp) (by simp) (by simp) (by simp)
    · exact build_small hs (M := 100000) (by omega) 2002 2000 _ (rowsM_of hl (tog_wf (togB_iff.1 hok.2)))
end Go.Proofs.Ytjflembhgjcgkaa

/- C46: the document's tree, joined; Build, of the document. -/
namespace Go.Proofs.Ytjflembhgjcgkaa
open Go.RowKit

end Go.Proofs.Ytjflembhgjcgkaa

/- C55: the law's walk: TreeBuilds. -/
namespace Go.Proofs.Ytjflembhgjcgkaa
open Go.RowKit

end Go.Proofs.Ytjflembhgjcgkaa
