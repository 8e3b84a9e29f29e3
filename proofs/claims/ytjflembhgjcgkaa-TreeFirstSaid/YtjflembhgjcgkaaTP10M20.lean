/- M20: a tree's run, as a function. No program in sight. -/
import Derived.Test.YtjflembhgjcgkaaTP10XM10CZM12
import Derived.Test.YtjflembhgjcgkaaTP10XM1M11C1
set_option linter.unusedSimpArgs false
set_option linter.unusedVariables false
namespace Go.Proofs.Ytjflembhgjcgkaa
open Go.RowKit

mutual
def szT : TreeT → Nat
  | .mk _ _ _ _ _ _ _ c e => 1 + szTL c + szTL e
def szTL : List TreeT → Nat
  | [] => 0
  | t :: l => szT t + szTL l
end
theorem szTL_mem : ∀ {l : List TreeT} {t : TreeT}, t ∈ l → szT t ≤ szTL l
  | [], _, h => by cases h
  | a :: l, t, h => by
    simp only [szTL]
    rcases List.mem_cons.1 h with rfl | h
    · omega
    · have := szTL_mem h; omega
/-- The tree that comes behind one. -/
def stepF (t : TreeT) (v : Val) : Option TreeT := match atF v t.path with
  | none => none
  | some w => match t.cases.find? fun c => hasB c w with
    | some c => some c
    | none => t.els.head?
def runN : Nat → TreeT → Val → Option Int
  | 0, _, _ => none
  | f + 1, t, v => if t.kind = 2 then some t.n else if t.kind = 3 then (match stepF t v with | some u => runN f u v | none => none) else none
theorem step_size {t u : TreeT} {v : Val} (h : stepF t v = some u) : szT u < szT t := by
  obtain ⟨bk, bn, bi, bs, k, n, p, c, e⟩ := t
  unfold stepF at h
  simp only [TreeT.path, TreeT.cases, TreeT.els] at h
  simp only [szT]
  split at h
  · cases h
  · split at h
    · rename_i hf
      injection h with h
      subst h
      have := szTL_mem (List.mem_of_find?_eq_some hf)
      omega
    · cases e with
      | nil => cases h
      | cons x e =>
        injection h with h
        subst h
        have := szTL_mem (l := x :: e) (List.mem_cons_self ..)
        omega
theorem runN_eq : ∀ (f g : Nat) (t : TreeT) (v : Val), szT t ≤ f → szT t ≤ g → runN f t v = runN g t v
  | 0, g, t, v, h, _ => by cases t; simp only [szT] at h; omega
  | f + 1, 0, t, v, _, h => by cases t; simp only [szT] at h; omega
  | f + 1, g + 1, t, v, h, h' => by
    simp only [runN]
    split
    · rfl
    · split
      · cases hs : stepF t v with
        | none => rfl
        | some u =>
          have := step_size hs
          exact runN_eq f g u v (by omega) (by omega)
      · rfl
/-- The arm of a value by a tree. -/
def runF (t : TreeT) (v : Val) : Option Int := runN (szT t) t v
theorem runF_def (t : TreeT) (v : Val) : runF t v = if t.kind = 2 then some t.n else if t.kind = 3 then (match stepF t v with | some u => runF u v | none => none) else none := by
  have h0 : ∃ f, szT t = f + 1 := by
    obtain ⟨bk, bn, bi, bs, k, n, p, c, e⟩ := t
    exact ⟨szTL c + szTL e, by simp only [szT]; omega⟩
  obtain ⟨f, hf⟩ := h0
  unfold runF
  rw [hf]
  simp only [runN]
  split
  · rfl
  · split
    · cases hs : stepF t v with
      | none => rfl
      | some u =>
        have := step_size hs
        exact runN_eq f _ u v (by omega) (Nat.le_refl _)
    · rfl
def firstF (l : List Pat) (v : Val) : Option Nat := l.findIdx? fun p => fitsB p v
end Go.Proofs.Ytjflembhgjcgkaa
