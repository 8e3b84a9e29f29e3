/- Patterns and values as plain data; how they read as frozen data; the document's Open, Fits, some, Apart. No program in sight. -/
import Derived.Test.YtjflembhgjcgkaaAm12
set_option linter.unusedSimpArgs false
set_option linter.unusedVariables false
namespace Go.Proofs.Ytjflembhgjcgkaa
open Go.RowKit

inductive Pat where
  | mk (kind n i : Int) (s : ByteArray) (a b c : Int) (l : List Pat)
inductive Val where
  | mk (kind n : Int) (s : ByteArray) (l : List Val)

def Pat.kind : Pat → Int | .mk k _ _ _ _ _ _ _ => k
def Pat.n : Pat → Int | .mk _ n _ _ _ _ _ _ => n
def Pat.i : Pat → Int | .mk _ _ i _ _ _ _ _ => i
def Pat.s : Pat → ByteArray | .mk _ _ _ s _ _ _ _ => s
def Pat.l : Pat → List Pat | .mk _ _ _ _ _ _ _ l => l
def Val.kind : Val → Int | .mk k _ _ _ => k
def Val.n : Val → Int | .mk _ n _ _ => n
def Val.s : Val → ByteArray | .mk _ _ s _ => s
def Val.l : Val → List Val | .mk _ _ _ l => l

mutual
def patD : Pat → List DV
  | .mk k n i s a b c l => [.v (.int .u8 k), .v (.int .i64 n), .v (.int .i64 i), .v (.string s), .v (.int .i64 a), .v (.int .i64 b), .v (.int .i64 c), .lst 8 (patR l)]
def patR : List Pat → List (List DV)
  | [] => []
  | p :: l => patD p :: patR l
end
mutual
def valD : Val → List DV
  | .mk k n s l => [.v (.int .u8 k), .v (.int .i64 n), .v (.string s), .lst 4 (valR l)]
def valR : List Val → List (List DV)
  | [] => []
  | p :: l => valD p :: valR l
end

theorem patD_len : ∀ p : Pat, (patD p).length = 8
  | .mk .. => rfl
theorem valD_len : ∀ p : Val, (valD p).length = 4
  | .mk .. => rfl
theorem patR_get : ∀ {l : List Pat} {j : Nat} {p : Pat}, l[j]? = some p → (patR l)[j]? = some (patD p)
  | [], _, _, h => by simp at h
  | a :: l, 0, p, h => by simp at h; subst h; rfl
  | a :: l, j + 1, p, h => by
    have := patR_get (l := l) (j := j) (p := p) (by simpa using h)
    simpa [patR] using this
theorem patR_len : ∀ l : List Pat, (patR l).length = l.length
  | [] => rfl
  | a :: l => by simp [patR, patR_len l]
theorem patR_append : ∀ (l m : List Pat), patR (l ++ m) = patR l ++ patR m
  | [], m => rfl
  | a :: l, m => by simp [patR, patR_append l m]
theorem patR_take : ∀ (l : List Pat) (n : Nat), patR (l.take n) = (patR l).take n
  | _, 0 => by simp [patR]
  | [], n + 1 => by simp [patR]
  | a :: l, n + 1 => by simp [patR, patR_take l n]
theorem patR_drop : ∀ (l : List Pat) (n : Nat), patR (l.drop n) = (patR l).drop n
  | _, 0 => by simp
  | [], n + 1 => by simp [patR]
  | a :: l, n + 1 => by simp [patR, patR_drop l n]
theorem valR_get : ∀ {l : List Val} {j : Nat} {p : Val}, l[j]? = some p → (valR l)[j]? = some (valD p)
  | [], _, _, h => by simp at h
  | a :: l, 0, p, h => by simp at h; subst h; rfl
  | a :: l, j + 1, p, h => by
    have := valR_get (l := l) (j := j) (p := p) (by simpa using h)
    simpa [valR] using this
theorem valR_len : ∀ l : List Val, (valR l).length = l.length
  | [] => rfl
  | a :: l => by simp [valR, valR_len l]

mutual
def Pat.small (m : Nat) : Pat → Prop
  | .mk _ _ _ s _ _ _ l => l.length ≤ m ∧ s.size ≤ maxLen ∧ Pat.smallL m l
def Pat.smallL (m : Nat) : List Pat → Prop
  | [] => True
  | p :: l => p.small m ∧ Pat.smallL m l
end
mutual
def Val.small (m : Nat) : Val → Prop
  | .mk _ _ s l => l.length ≤ m ∧ s.size ≤ maxLen ∧ Val.smallL m l
def Val.smallL (m : Nat) : List Val → Prop
  | [] => True
  | p :: l => p.small m ∧ Val.smallL m l
end
theorem Pat.smallL_mem {m : Nat} : ∀ {l : List Pat}, Pat.smallL m l → ∀ p ∈ l, p.small m
  | [], _, p, h => by cases h
  | a :: l, ⟨h1, h2⟩, p, h => by
    rcases List.mem_cons.1 h with rfl | h
    · exact h1
    · exact Pat.smallL_mem h2 p h
theorem Pat.smallL_of {m : Nat} : ∀ {l : List Pat}, (∀ p ∈ l, p.small m) → Pat.smallL m l
  | [], _ => trivial
  | a :: l, h => ⟨h a (by simp), Pat.smallL_of fun p hp => h p (by simp [hp])⟩
theorem Val.smallL_mem {m : Nat} : ∀ {l : List Val}, Val.smallL m l → ∀ p ∈ l, p.small m
  | [], _, p, h => by cases h
  | a :: l, ⟨h1, h2⟩, p, h => by
    rcases List.mem_cons.1 h with rfl | h
    · exact h1
    · exact Val.smallL_mem h2 p h
theorem Pat.small_get {m : Nat} {k n i : Int} {s : ByteArray} {a b c : Int} {l : List Pat} (h : Pat.small m (.mk k n i s a b c l)) {j : Nat} {p : Pat} (e : l[j]? = some p) : p.small m := Pat.smallL_mem h.2.2 p (List.mem_of_getElem? e)
theorem Val.small_get {m : Nat} {k n : Int} {s : ByteArray} {l : List Val} (h : Val.small m (.mk k n s l)) {j : Nat} {p : Val} (e : l[j]? = some p) : p.small m := Val.smallL_mem h.2.2 p (List.mem_of_getElem? e)

/-! The document's functions of chapter 15 on patterns and values. -/
def openB (p : Pat) : Bool := decide (p.kind = 1 ∨ p.kind = 2)

mutual
def fitsB : Pat → Val → Bool
  | .mk k n i s a b c l, .mk vk vn vs vl =>
    if k = 1 ∨ k = 2 then true
    else if k = 3 then decide (vk = 1 ∧ vn = i)
    else if k = 4 then decide (vk = 2 ∧ vs = s)
    else if k ≠ 5 ∨ (vk ≠ 11 ∧ vk ≠ 4) ∨ (vk = 4 ∧ 0 < vl.length) ∨ vn ≠ n ∨ vl.length ≠ l.length then false
    else fitsL l vl
def fitsL : List Pat → List Val → Bool
  | p :: l, v :: vl => fitsB p v && fitsL l vl
  | _, _ => true
end

mutual
def someB : Pat → Bool
  | .mk k _ _ _ _ _ _ l => (!decide (k = 5) || someL l) && decide (1 ≤ k ∧ k ≤ 5)
def someL : List Pat → Bool
  | [] => true
  | p :: l => someB p && someL l
end

mutual
def apartB : Pat → Pat → Bool
  | .mk k n i s a b c l, .mk k' n' i' s' a' b' c' l' =>
    if someB (.mk k n i s a b c l) = false ∨ someB (.mk k' n' i' s' a' b' c' l') = false then true
    else if (k = 1 ∨ k = 2) ∨ (k' = 1 ∨ k' = 2) then false
    else if k ≠ k' then true
    else if k = 3 then decide (i ≠ i')
    else if k = 4 then decide (s ≠ s')
    else if n ≠ n' ∨ l.length ≠ l'.length then true
    else apartL l l'
def apartL : List Pat → List Pat → Bool
  | p :: l, q :: l' => apartB p q || apartL l l'
  | _, _ => false
end

theorem drop_get {α : Type} {l : List α} {k : Nat} {p : α} (h : l[k]? = some p) : l.drop k = p :: l.drop (k + 1) := by
  have hk := (List.getElem?_eq_some_iff.1 h)
  obtain ⟨hlt, e⟩ := hk
  rw [List.drop_eq_getElem_cons hlt, e]

theorem fitsL_drop {l : List Pat} {vl : List Val} {k : Nat} {p : Pat} {v : Val} (h1 : l[k]? = some p) (h2 : vl[k]? = some v) : fitsL (l.drop k) (vl.drop k) = (fitsB p v && fitsL (l.drop (k + 1)) (vl.drop (k + 1))) := by
  rw [drop_get h1, drop_get h2, fitsL]
theorem someL_drop {l : List Pat} {k : Nat} {p : Pat} (h1 : l[k]? = some p) : someL (l.drop k) = (someB p && someL (l.drop (k + 1))) := by
  rw [drop_get h1, someL]
theorem apartL_drop {l l' : List Pat} {k : Nat} {p q : Pat} (h1 : l[k]? = some p) (h2 : l'[k]? = some q) : apartL (l.drop k) (l'.drop k) = (apartB p q || apartL (l.drop (k + 1)) (l'.drop (k + 1))) := by
  rw [drop_get h1, drop_get h2, apartL]
theorem getS {α : Type} {l : List α} {k : Nat} (h : k < l.length) : ∃ x, l[k]? = some x := ⟨_, List.getElem?_eq_getElem h⟩
end Go.Proofs.Ytjflembhgjcgkaa
