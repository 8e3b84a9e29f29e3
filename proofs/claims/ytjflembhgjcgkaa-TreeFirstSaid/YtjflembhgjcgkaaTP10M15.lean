/- M15: the document's tree, by what is known of places; it is the tree of rows. No program in sight. -/
import Derived.Test.YtjflembhgjcgkaaTP10XM10CZM12
import Derived.Test.YtjflembhgjcgkaaTP10M13
set_option linter.unusedSimpArgs false
set_option linter.unusedVariables false
namespace Go.Proofs.Ytjflembhgjcgkaa
open Go.RowKit

structure FactT where
  path : List Int
  is : Pat
  no : List Pat
/-! The asks that are open. -/
section
variable {L : List FactT}
/-! One fact more. -/
section
variable {g : Sg} {f : FactT}
/-! Rows that are narrowed. -/
end

/-! What is told apart at a place. -/
theorem fold_grow {α : Type} {f : List Pat → α → List Pat} (hf : ∀ out a, ∃ m, f out a = out ++ m) : ∀ (l : List α) (out : List Pat), ∃ m, l.foldl f out = out ++ m
  | [], out => ⟨[], by simp⟩
  | a :: l, out => by
    obtain ⟨m, e⟩ := hf out a
    obtain ⟨m', e'⟩ := fold_grow hf l (f out a)
    exact ⟨m ++ m', by rw [List.foldl_cons, e', e, List.append_assoc]⟩
theorem casesA_grow (path : List Int) (out : List Pat) (a : AskT) : ∃ m, casesA path out a = out ++ m := by
  unfold casesA
  split
  · exact ⟨_, rfl⟩
  · exact ⟨[], by simp⟩
theorem casesA_has {path : List Int} {a : AskT} (ha : a.path = path) (h5 : a.p.kind ≠ 5) (out : List Pat) : (casesA path out a).any (fun p => isB p a.p) = true := by
  unfold casesA
  split
  · rw [List.any_append]
    simp only [List.any_cons, List.any_nil, Bool.or_false, Bool.or_eq_true]
    right
    exact decide_eq_true ⟨rfl, rfl, rfl, fun e => absurd e h5⟩
  · rename_i h
    cases e : out.any fun p => isB p a.p with
    | true => rfl
    | false => exact absurd ⟨ha, e⟩ h
theorem cases_has {path : List Int} {a : AskT} (ha : a.path = path) (h5 : a.p.kind ≠ 5) : ∀ (rows : List RowT) (out : List Pat) (r : RowT), r ∈ rows → a ∈ r.asks → (rows.foldl (fun out r => r.asks.foldl (casesA path) out) out).any (fun p => isB p a.p) = true := by
  have asks : ∀ (asks : List AskT) (out : List Pat), a ∈ asks → (asks.foldl (casesA path) out).any (fun p => isB p a.p) = true := by
    intro asks
    induction asks with
    | nil => intro out h; cases h
    | cons b asks ih =>
      intro out h
      rw [List.foldl_cons]
      rcases List.mem_cons.1 h with rfl | h
      · obtain ⟨m, e⟩ := fold_grow (casesA_grow path) asks (casesA path out a)
        rw [e, List.any_append, casesA_has ha h5]
        rfl
      · exact ih _ h
  intro rows
  induction rows with
  | nil => intro out r h; cases h
  | cons r' rows ih =>
    intro out r hr h
    rw [List.foldl_cons]
    rcases List.mem_cons.1 hr with rfl | hr
    · obtain ⟨m, e⟩ := fold_grow (f := fun out (r : RowT) => r.asks.foldl (casesA path) out) (fun out r => fold_grow (casesA_grow path) r.asks out) rows (r.asks.foldl (casesA path) out)
      rw [e, List.any_append, asks _ _ h]
      rfl
    · exact ih _ r hr h

/-! The two trees are one. -/
end
mutual
theorem one_refl : ∀ t : TreeT, oneB t t = true
  | .mk _ _ _ _ k n p c e => by simp [oneB, oneC_refl c, oneL_refl e]
theorem oneC_refl : ∀ l : List TreeT, oneC l l = true
  | [] => rfl
  | t :: l => by simp [oneC, one_refl t, oneC_refl l]
theorem oneL_refl : ∀ l : List TreeT, oneL l l = true
  | [] => rfl
  | t :: l => by simp [oneL, one_refl t, oneL_refl l]
end
end Go.Proofs.Ytjflembhgjcgkaa
