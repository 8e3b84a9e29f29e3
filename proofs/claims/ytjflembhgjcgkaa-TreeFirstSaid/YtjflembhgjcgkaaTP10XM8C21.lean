/- M8, C21: in one. -/
import Derived.Test.YtjflembhgjcgkaaTP10XM4M7M5
import Derived.Test.YtjflembhgjcgkaaTP10XC14C15
import Derived.Test.YtjflembhgjcgkaaTP10C13
set_option linter.unusedSimpArgs false
set_option linter.unusedVariables false
/- M8: useful, as a function; how far it goes. No program in sight. -/
namespace Go.Proofs.Ytjflembhgjcgkaa
open Go.RowKit

def arityH (g : Sg) (h : Head) : Nat := if h.kind = 5 then g.arity h.n else 0
/-- Patterns that may be, through and through. -/
inductive Wf (g : Sg) : Pat → Prop
  | mk {p : Pat} (alone : aloneB g p = true) (kids : ∀ q ∈ p.l, Wf g q) : Wf g p
theorem Wf.alone {g : Sg} {p : Pat} : Wf g p → aloneB g p = true
  | .mk h _ => h
theorem Wf.kids {g : Sg} {p : Pat} : Wf g p → ∀ q ∈ p.l, Wf g q
  | .mk _ h => h
theorem wf_any (g : Sg) : Wf g anyP := .mk (by simp [aloneB, anyP]) fun q hq => by cases hq
theorem wf_anys (g : Sg) (n : Nat) : ∀ p ∈ anysL n, Wf g p := fun p hp => by rw [List.eq_of_mem_replicate hp]; exact wf_any g
theorem tog_wf {g : Sg} {l : List Pat} (h : Tog g l) : ∀ p ∈ l, Wf g p := by
  induction h with
  | mk h1 h2 h3 ih =>
    intro p hp
    refine .mk (h1 p hp) fun q hq => ?_
    obtain ⟨k, hk⟩ := List.getElem?_of_mem hq
    have hkl := (List.getElem?_eq_some_iff.1 hk).1
    have h5 : p.kind = 5 := by
      by_cases e : p.kind = 5
      · exact e
      · rw [alone_leaf (h1 p hp) e] at hkl; cases hkl
    refine ih p hp k hkl q ?_
    exact List.mem_filterMap.2 ⟨p, hp, by rw [if_pos ⟨h5, rfl⟩]; exact hk⟩

/-- A matrix and a vector that may be handed on. -/
structure UOk (g : Sg) (m A B : Nat) (rows : List (List Pat)) (v : List Pat) : Prop where
  len : rows.length ≤ m
  wid : ∀ r ∈ rows, r.length = v.length
  vlen : v.length ≤ B
  small : ∀ r ∈ rows, ∀ p ∈ r, p.small m
  vsmall : ∀ p ∈ v, p.small m
  wf : ∀ r ∈ rows, ∀ p ∈ r, Wf g p
  vwf : ∀ p ∈ v, Wf g p
theorem small_any (m : Nat) : anyP.small m := by simp [anyP, Pat.small, Pat.smallL, maxLen, ByteArray.size]
theorem small_anys (m n : Nat) : ∀ p ∈ anysL n, p.small m := fun p hp => by rw [List.eq_of_mem_replicate hp]; exact small_any m
theorem below_shape {h : Head} {kids : Nat} {r q : List Pat} (e : belowR h kids r = some q) : ∃ p rest, r = p :: rest ∧ ((asksH p = none ∧ q = anysL kids ++ rest) ∨ (asksH p = some h ∧ q = p.l ++ rest)) := by
  cases r with
  | nil => cases e
  | cons p rest =>
    refine ⟨p, rest, rfl, ?_⟩
    simp only [belowR] at e
    cases ha : asksH p with
    | none => rw [ha] at e; injection e with e; exact .inl ⟨rfl, e.symm⟩
    | some k =>
      rw [ha] at e
      simp only at e
      split at e
      · rename_i hk; injection e with e; subst hk; exact .inr ⟨rfl, e.symm⟩
      · cases e
theorem UOk.below {g : Sg} {m A B : Nat} {rows : List (List Pat)} {v0 : Pat} {vs kids : List Pat} {h : Head} (u : UOk g m A B rows (v0 :: vs)) (hk : kids.length ≤ A) (har : ∀ p, asksH p = some h → Wf g p → p.l.length = kids.length) (hks : ∀ p ∈ kids, p.small m) (hkw : ∀ p ∈ kids, Wf g p) : UOk g m A (B + A) (belowL rows h kids.length) (kids ++ vs) := by
  refine ⟨Nat.le_trans (List.length_filterMap_le _ _) u.len, fun q hq => ?_, ?_, fun q hq p hp => ?_, fun p hp => ?_, fun q hq p hp => ?_, fun p hp => ?_⟩
  · obtain ⟨r, hr, e⟩ := List.mem_filterMap.1 hq
    obtain ⟨p, rest, rfl, ⟨_, rfl⟩ | ⟨ha, rfl⟩⟩ := below_shape e
    · have := u.wid _ hr; simp [anysL] at this ⊢; omega
    · have := u.wid _ hr
      have h2 := har p ha (u.wf _ hr p (List.mem_cons_self ..))
      simp at this ⊢; omega
  · have := u.vlen; simp at this ⊢; omega
  · obtain ⟨r, hr, e⟩ := List.mem_filterMap.1 hq
    obtain ⟨p', rest, rfl, ⟨_, rfl⟩ | ⟨ha, rfl⟩⟩ := below_shape e <;> rcases List.mem_append.1 hp with hp | hp
    · exact small_anys m _ p hp
    · exact u.small _ hr p (List.mem_cons_of_mem _ hp)
    · exact (small_kids (u.small _ hr p' (List.mem_cons_self ..))).each p hp
    · exact u.small _ hr p (List.mem_cons_of_mem _ hp)
  · exact (List.mem_append.1 hp).elim (hks p) fun hp => u.vsmall p (List.mem_cons_of_mem _ hp)
  · obtain ⟨r, hr, e⟩ := List.mem_filterMap.1 hq
    obtain ⟨p', rest, rfl, ⟨_, rfl⟩ | ⟨ha, rfl⟩⟩ := below_shape e <;> rcases List.mem_append.1 hp with hp | hp
    · exact wf_anys g _ p hp
    · exact u.wf _ hr p (List.mem_cons_of_mem _ hp)
    · exact (u.wf _ hr p' (List.mem_cons_self ..)).kids p hp
    · exact u.wf _ hr p (List.mem_cons_of_mem _ hp)
  · exact (List.mem_append.1 hp).elim (hkw p) fun hp => u.vwf p (List.mem_cons_of_mem _ hp)
end Go.Proofs.Ytjflembhgjcgkaa

/- C21: useful's own function, of the program. -/
namespace Go.Proofs.Ytjflembhgjcgkaa
open Go.RowKit

section
variable {g : Sg} {m A B : Nat} {rows : List (List Pat)} {v : List Pat}
end

end Go.Proofs.Ytjflembhgjcgkaa
