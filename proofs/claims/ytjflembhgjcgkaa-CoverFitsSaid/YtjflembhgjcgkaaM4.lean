/- M4: patterns that ask nothing; how lists of patterns are bounded; when they do not go together. No program in sight. -/
import Derived.Test.YtjflembhgjcgkaaM3
set_option linter.unusedSimpArgs false
set_option linter.unusedVariables false
namespace Go.Proofs.Ytjflembhgjcgkaa
open Go.RowKit

def anyP : Pat := .mk 2 0 0 ⟨#[]⟩ 0 0 0 []
def anysL (n : Nat) : List Pat := List.replicate n anyP
def rowNil : List DV := [.v (.int .u8 2), .v (.int .i64 0), .v (.int .i64 0), .v (.string ⟨#[]⟩), .v (.int .i64 0), .v (.int .i64 0), .v (.int .i64 0), .nil]
def rowVnil (k : Int) : List DV := [.v (.int .u8 k), .v (.int .i64 0), .v (.int .i64 0), .v (.string ⟨#[]⟩), .v (.int .i64 0), .v (.int .i64 0), .v (.int .i64 0), .v (.slice none 0 0)]
theorem Wk.vnil (sz : Nat) : Wk (.v (.slice none 0 0)) (.lst sz []) := fun F u ⟨e, _⟩ => ⟨none, 0, e, Nat.le_refl _, .inl rfl⟩
theorem wkL_patnil {k n i a b c : Int} {s : ByteArray} {x : DV} (h : Wk x (.lst 8 [])) : WkL [.v (.int .u8 k), .v (.int .i64 n), .v (.int .i64 i), .v (.string s), .v (.int .i64 a), .v (.int .i64 b), .v (.int .i64 c), x] (patD (.mk k n i s a b c [])) :=
  .cons (.refl _) (.cons (.refl _) (.cons (.refl _) (.cons (.refl _) (.cons (.refl _) (.cons (.refl _) (.cons (.refl _) (.cons h .nil)))))))
theorem wkR_append : ∀ {a b c d : List (List DV)}, WkR a b → WkR c d → WkR (a ++ c) (b ++ d)
  | [], [], _, _, _, h => h
  | _ :: _, _ :: _, _, _, h, k => ⟨h.1, wkR_append h.2 k⟩
theorem wkR_replicate {x y : List DV} (h : WkL x y) : ∀ n : Nat, WkR (List.replicate n x) (List.replicate n y)
  | 0 => trivial
  | n + 1 => ⟨h, wkR_replicate h n⟩
theorem patR_replicate (p : Pat) : ∀ n : Nat, patR (List.replicate n p) = List.replicate n (patD p)
  | 0 => rfl
  | n + 1 => by simp [List.replicate_succ, patR, patR_replicate p n]
theorem wk_anys (n : Nat) : Wk (.lst 8 (List.replicate n rowNil)) (patsD (anysL n)) := by
  refine Wk.lst ?_
  rw [anysL, patR_replicate]
  exact wkR_replicate (wkL_patnil (Wk.nil 8)) n
theorem wk_vanys (n : Nat) : Wk (.lst 8 (List.replicate n (rowVnil 2))) (patsD (anysL n)) := by
  refine Wk.lst ?_
  rw [anysL, patR_replicate]
  exact wkR_replicate (wkL_patnil (Wk.vnil 8)) n

structure SmallP (m : Nat) (l : List Pat) : Prop where
  each : ∀ p ∈ l, p.small m
  len : l.length ≤ m
theorem small_kids {m : Nat} : ∀ {p : Pat}, p.small m → SmallP m p.l
  | .mk .., h => ⟨fun p hp => Pat.smallL_mem h.2.2 p hp, h.1⟩
theorem SmallP.kids {m : Nat} {l : List Pat} (h : SmallP m l) (c : Int) (k : Nat) : SmallP m (kidsL l c k) := by
  refine ⟨fun q hq => ?_, Nat.le_trans (List.length_filterMap_le _ _) h.len⟩
  obtain ⟨p, hp, e⟩ := List.mem_filterMap.1 hq
  split at e
  · exact (small_kids (h.each p hp)).each q (List.mem_of_getElem? e)
  · cases e
theorem SmallP.append {m : Nat} {a b : List Pat} (h : SmallP m a) (k : ∀ p ∈ b, p.small m) (hl : a.length + b.length ≤ m) : SmallP m (a ++ b) :=
  ⟨fun p hp => (List.mem_append.1 hp).elim (h.each p) (k p), by simpa using hl⟩
theorem SmallP.sub {m : Nat} {a b : List Pat} (h : SmallP m a) (hs : ∀ p ∈ b, p ∈ a) (hl : b.length ≤ m) : SmallP m b := ⟨fun p hp => h.each p (hs p hp), hl⟩

theorem tog_alone {g : Sg} {l : List Pat} {p : Pat} (hp : p ∈ l) (h : aloneB g p = false) : togB g l = false := by
  cases ht : togB g l with
  | false => rfl
  | true =>
    obtain ⟨h1, _, _⟩ := togB_iff.1 ht
    rw [h1 p hp] at h; cases h
theorem tog_pair {g : Sg} {l : List Pat} {p q : Pat} (hp : p ∈ l) (hq : q ∈ l) (h : pairB g p q = false) : togB g l = false := by
  cases ht : togB g l with
  | false => rfl
  | true =>
    obtain ⟨_, h1, _⟩ := togB_iff.1 ht
    rw [h1 p hp q hq] at h; cases h
theorem tog_kid {g : Sg} {l : List Pat} {p : Pat} {m : Nat} (hp : p ∈ l) (hm : m < p.l.length) (h : togB g (kidsL l p.n m) = false) : togB g l = false := by
  cases ht : togB g l with
  | false => rfl
  | true =>
    obtain ⟨_, _, h1⟩ := togB_iff.1 ht
    rw [togB_iff.2 (h1 p hp m hm)] at h; cases h
theorem tog_ok {g : Sg} {l : List Pat} (h1 : ∀ p ∈ l, aloneB g p = true) (h2 : ∀ p ∈ l, ∀ q ∈ l, pairB g p q = true) (h3 : ∀ p ∈ l, ∀ m, m < p.l.length → togB g (kidsL l p.n m) = true) : togB g l = true :=
  togB_iff.2 (.mk h1 h2 fun p hp m hm => togB_iff.1 (h3 p hp m hm))
theorem pair_self (g : Sg) (p : Pat) : pairB g p p = true := by unfold pairB; simp
theorem pair_comm (g : Sg) (p q : Pat) : pairB g p q = pairB g q p := by
  unfold pairB
  by_cases h : p.kind = q.kind
  · rw [h]
    cases openB p <;> cases openB q <;> simp [eq_comm]
  · simp [h, Ne.symm h, Bool.or_comm]
theorem forall_get {α : Type} {l : List α} {P : α → Prop} (h : ∀ (i : Nat) (x : α), l[i]? = some x → P x) : ∀ x ∈ l, P x := fun x hx => by
  obtain ⟨i, hi⟩ := List.getElem?_of_mem hx
  exact h i x hi

mutual
def namedB : Pat → Bool
  | .mk k _ _ _ _ _ _ l => namedL l || decide (k = 1)
def namedL : List Pat → Bool
  | [] => false
  | p :: l => namedB p || namedL l
end
theorem namedL_drop {l : List Pat} {k : Nat} {p : Pat} (h1 : l[k]? = some p) : namedL (l.drop k) = (namedB p || namedL (l.drop (k + 1))) := by
  rw [drop_get h1, namedL]
end Go.Proofs.Ytjflembhgjcgkaa
