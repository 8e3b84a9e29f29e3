/- M19, C46, C55: in one. -/
import Derived.Test.YtjflembhgjcgkaaTP10M15
import Derived.Test.YtjflembhgjcgkaaTP10XC40C41
import Derived.Test.YtjflembhgjcgkaaTP10C38
import Derived.Test.YtjflembhgjcgkaaTP10C39
import Derived.Test.YtjflembhgjcgkaaTP10XC3C4
import Derived.Test.YtjflembhgjcgkaaTP10XM1M11C1
import Derived.Test.YtjflembhgjcgkaaTP10C36
import Derived.Test.YtjflembhgjcgkaaTP10C27
import Derived.Test.YtjflembhgjcgkaaTP10XM3C12
import Derived.Test.YtjflembhgjcgkaaTP10C16
import Derived.Test.YtjflembhgjcgkaaTP10XC14C15
import Derived.Test.YtjflembhgjcgkaaTP10XC32C47
set_option linter.unusedSimpArgs false
set_option linter.unusedVariables false
/- M19: trees that are built are small; the two Builds agree. No program in sight. -/
namespace Go.Proofs.Ytjflembhgjcgkaa
open Go.RowKit

theorem small_bare {k n : Int} {path : List Int} {c e : List TreeT} (hp : path.length ≤ 9223372036854775807) (hc : c.length ≤ 9223372036854775807) (he : e.length ≤ 9223372036854775807) (h1 : ∀ t ∈ c, t.small) (h2 : ∀ t ∈ e, t.small) : (bare k n path c e).small :=
  ⟨hp, hc, he, TreeT.smallL_of h1, TreeT.smallL_of h2⟩
theorem small_at {t : TreeT} (h : t.small) (a b c : Int) (s : ByteArray) : (t.at a b c s).small := by
  obtain ⟨bk, bn, bi, bs, k, n, p, cs, e⟩ := t
  exact h
theorem branches_small (F : Int → Option Pat → TreeT × Int) : ∀ (l : List Pat) (left : Int), (∀ left s, (F left s).1.small) → ∀ t ∈ (branchesF F l left).1, t.small
  | [], left, _, t, h => by cases h
  | p :: l, left, hF, t, h => by
    simp only [branchesF] at h
    rcases List.mem_cons.1 h with rfl | h
    · exact small_at (hF _ _) _ _ _ _
    · exact branches_small F l _ hF t h
theorem build_small {g : Sg} (hs : g.Small) {M : Nat} (hM : M ≤ 100000) : ∀ (f : Nat) (left : Int) (rows : List RowT), RowsM g M rows → (buildF g f left rows).1.small
  | 0, left, rows, hr => small_bare (by simp) (by simp) (by simp) (by simp) (by simp)
  | f + 1, left, rows, hr => by
    unfold buildF
    split
    · exact small_bare (by simp) (by simp) (by simp) (by simp) (by simp)
    · split
      · exact small_bare (by simp) (by simp) (by simp) (by simp) (by simp)
      · rename_i r rest
        split
        · exact small_bare (by simp) (by simp) (by simp) (by simp) (by simp)
        · rename_i a asks ha
          have hl := casesF_len hs hM hr a.path a.p
          have hp := hr.plen r (List.mem_cons_self ..) a (by rw [ha]; exact List.mem_cons_self ..)
          have hF : ∀ left s, (buildF g f left (narrowF (r :: rest) a.path s)).1.small := fun left s => build_small hs hM f left _ (hr.narrow s)
          have hb := branches_small (fun left p => buildF g f left (narrowF (r :: rest) a.path p)) (casesF g (r :: rest) a.path a.p) (left - 1) hF
          have hbl := branchesF_len (fun left p => buildF g f left (narrowF (r :: rest) a.path p)) (casesF g (r :: rest) a.path a.p) (left - 1)
          simp only
          split
          · exact small_bare (by omega) (by rw [hbl]; omega) (by simp) hb (by simp)
          · exact small_bare (by omega) (by rw [hbl]; omega) (by simp) hb fun t ht => by rw [List.mem_singleton.1 ht]; exact hF _ _
theorem buildT_small {g : Sg} (hs : g.Small) {l : List Pat} (hl : massL l ≤ 100000) : (buildT g l (mayZ g l)).1.small := by
  unfold buildT
  split
  · exact small_bare (by simp) (by simp) (by simp) (by simp) (by simp)
  · rename_i h
    have hok : servesB g = true ∧ togB g l = true := by
      unfold mayZ at h
      split at h
      · assumption
      · simp at h
    simp only
    split
    · exact small_bare (by simp) (by simp) (by simp) (by simp) (by simp)
    · exact build_small hs (M := 100000) (by omega) 2002 2000 _ (rowsM_of hl (tog_wf (togB_iff.1 hok.2)))
end Go.Proofs.Ytjflembhgjcgkaa

/- C46: the document's tree, joined; Build, of the document. -/
namespace Go.Proofs.Ytjflembhgjcgkaa
open Go.RowKit

end Go.Proofs.Ytjflembhgjcgkaa

/- C55: the law's walk: TreeBuilds. -/
namespace Go.Proofs.Ytjflembhgjcgkaa
open Go.RowKit

end Go.Proofs.Ytjflembhgjcgkaa
