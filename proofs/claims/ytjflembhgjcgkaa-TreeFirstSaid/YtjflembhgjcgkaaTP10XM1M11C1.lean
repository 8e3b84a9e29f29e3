/- M1, M11, C1: in one. -/
import Derived.Test.YtjflembhgjcgkaaTP10Am12
import Derived.Test.YtjflembhgjcgkaaTP10Tab
set_option linter.unusedSimpArgs false
set_option linter.unusedVariables false
/- Patterns and values as plain data; how they read as frozen data; the document's Open, Fits, some, Apart. No program in sight. -/
namespace Go.Proofs.Ytjflembhgjcgkaa
open Go.RowKit

inductive Pat where
  | mk (kind n i : Int) (s : ByteArray) (a b c : Int) (l : List Pat)
inductive Val where
  | mk (kind n : Int) (s : ByteArray) (l : List Val)

def Pat.kind : Pat → Int | .mk k _ _ _ _ _ _ _ => k
def Pat.n : Pat → Int | .mk _ n _ _ _ _ _ _ => n
def Pat.i : Pat → Int | .mk _ _ i _ _ _ _ _ => i
def Pat.s : Pat → ByteArray | .mk _ _ _ s _ _ _ _ => s
def Pat.l : Pat → List Pat | .mk _ _ _ _ _ _ _ l => l
def Val.kind : Val → Int | .mk k _ _ _ => k
def Val.n : Val → Int | .mk _ n _ _ => n
def Val.s : Val → ByteArray | .mk _ _ s _ => s
def Val.l : Val → List Val | .mk _ _ _ l => l

mutual
def patD : Pat → List DV
  | .mk k n i s a b c l => [.v (.int .u8 k), .v (.int .i64 n), .v (.int .i64 i), .v (.string s), .v (.int .i64 a), .v (.int .i64 b), .v (.int .i64 c), .lst 8 (patR l)]
def patR : List Pat → List (List DV)
  | [] => []
  | p :: l => patD p :: patR l
end
mutual
def valD : Val → List DV
  | .mk k n s l => [.v (.int .u8 k), .v (.int .i64 n), .v (.string s), .lst 4 (valR l)]
def valR : List Val → List (List DV)
  | [] => []
  | p :: l => valD p :: valR l
end

theorem patD_len : ∀ p : Pat, (patD p).length = 8
  | .mk .. => rfl
theorem valD_len : ∀ p : Val, (valD p).length = 4
  | .mk .. => rfl
theorem patR_get : ∀ {l : List Pat} {j : Nat} {p : Pat}, l[j]? = some p → (patR l)[j]? = some (patD p)
  | [], _, _, h => by simp at h
  | a :: l, 0, p, h => by simp at h; subst h; rfl
  | a :: l, j + 1, p, h => by
    have := patR_get (l := l) (j := j) (p := p) (by simpa using h)
    simpa [patR] using this
theorem patR_len : ∀ l : List Pat, (patR l).length = l.length
  | [] => rfl
  | a :: l => by simp [patR, patR_len l]
theorem patR_append : ∀ (l m : List Pat), patR (l ++ m) = patR l ++ patR m
  | [], m => rfl
  | a :: l, m => by simp [patR, patR_append l m]
theorem valR_get : ∀ {l : List Val} {j : Nat} {p : Val}, l[j]? = some p → (valR l)[j]? = some (valD p)
  | [], _, _, h => by simp at h
  | a :: l, 0, p, h => by simp at h; subst h; rfl
  | a :: l, j + 1, p, h => by
    have := valR_get (l := l) (j := j) (p := p) (by simpa using h)
    simpa [valR] using this
theorem valR_len : ∀ l : List Val, (valR l).length = l.length
  | [] => rfl
  | a :: l => by simp [valR, valR_len l]

mutual
def Pat.small (m : Nat) : Pat → Prop
  | .mk _ _ _ s _ _ _ l => l.length ≤ m ∧ s.size ≤ maxLen ∧ Pat.smallL m l
def Pat.smallL (m : Nat) : List Pat → Prop
  | [] => True
  | p :: l => p.small m ∧ Pat.smallL m l
end
mutual
def Val.small (m : Nat) : Val → Prop
  | .mk _ _ s l => l.length ≤ m ∧ s.size ≤ maxLen ∧ Val.smallL m l
def Val.smallL (m : Nat) : List Val → Prop
  | [] => True
  | p :: l => p.small m ∧ Val.smallL m l
end
theorem Pat.smallL_mem {m : Nat} : ∀ {l : List Pat}, Pat.smallL m l → ∀ p ∈ l, p.small m
  | [], _, p, h => by cases h
  | a :: l, ⟨h1, h2⟩, p, h => by
    rcases List.mem_cons.1 h with rfl | h
    · exact h1
    · exact Pat.smallL_mem h2 p h
theorem Pat.smallL_of {m : Nat} : ∀ {l : List Pat}, (∀ p ∈ l, p.small m) → Pat.smallL m l
  | [], _ => trivial
  | a :: l, h => ⟨h a (by simp), Pat.smallL_of fun p hp => h p (by simp [hp])⟩
theorem Val.smallL_mem {m : Nat} : ∀ {l : List Val}, Val.smallL m l → ∀ p ∈ l, p.small m
  | [], _, p, h => by cases h
  | a :: l, ⟨h1, h2⟩, p, h => by
    rcases List.mem_cons.1 h with rfl | h
    · exact h1
    · exact Val.smallL_mem h2 p h
theorem Pat.small_get {m : Nat} {k n i : Int} {s : ByteArray} {a b c : Int} {l : List Pat} (h : Pat.small m (.mk k n i s a b c l)) {j : Nat} {p : Pat} (e : l[j]? = some p) : p.small m := Pat.smallL_mem h.2.2 p (List.mem_of_getElem? e)
theorem Val.small_get {m : Nat} {k n : Int} {s : ByteArray} {l : List Val} (h : Val.small m (.mk k n s l)) {j : Nat} {p : Val} (e : l[j]? = some p) : p.small m := Val.smallL_mem h.2.2 p (List.mem_of_getElem? e)

/-! The document's functions of chapter 15 on patterns and values. -/
def openB (p : Pat) : Bool := decide (p.kind = 1 ∨ p.kind = 2)

mutual
def fitsB : Pat → Val → Bool
  | .mk k n i s a b c l, .mk vk vn vs vl =>
    if k = 1 ∨ k = 2 then true
    else if k = 3 then decide (vk = 1 ∧ vn = i)
    else if k = 4 then decide (vk = 2 ∧ vs = s)
    else if k ≠ 5 ∨ (vk ≠ 11 ∧ vk ≠ 4) ∨ (vk = 4 ∧ 0 < vl.length) ∨ vn ≠ n ∨ vl.length ≠ l.length then false
    else fitsL l vl
def fitsL : List Pat → List Val → Bool
  | p :: l, v :: vl => fitsB p v && fitsL l vl
  | _, _ => true
end

theorem drop_get {α : Type} {l : List α} {k : Nat} {p : α} (h : l[k]? = some p) : l.drop k = p :: l.drop (k + 1) := by
  have hk := (List.getElem?_eq_some_iff.1 h)
  obtain ⟨hlt, e⟩ := hk
  rw [List.drop_eq_getElem_cons hlt, e]

theorem fitsL_drop {l : List Pat} {vl : List Val} {k : Nat} {p : Pat} {v : Val} (h1 : l[k]? = some p) (h2 : vl[k]? = some v) : fitsL (l.drop k) (vl.drop k) = (fitsB p v && fitsL (l.drop (k + 1)) (vl.drop (k + 1))) := by
  rw [drop_get h1, drop_get h2, fitsL]
theorem getS {α : Type} {l : List α} {k : Nat} (h : k < l.length) : ∃ x, l[k]? = some x := ⟨_, List.getElem?_eq_getElem h⟩
end Go.Proofs.Ytjflembhgjcgkaa

/- M11: how much patterns and values are; what comes in is of texts and lists that an address reaches. No program in sight. -/
namespace Go.Proofs.Ytjflembhgjcgkaa
open Go.RowKit

mutual
def massP : Pat → Nat
  | .mk _ _ _ s _ _ _ l => 1 + s.size / 16 + massL l
def massL : List Pat → Nat
  | [] => 0
  | p :: l => massP p + massL l
end
mutual
def massV : Val → Nat
  | .mk _ _ _ l => 1 + massVL l
def massVL : List Val → Nat
  | [] => 0
  | p :: l => massV p + massVL l
end
mutual
def Pat.low : Pat → Prop
  | .mk _ _ _ s _ _ _ l => s.size ≤ 140737488355328 ∧ l.length ≤ 140737488355328 ∧ Pat.lowL l
def Pat.lowL : List Pat → Prop
  | [] => True
  | p :: l => p.low ∧ Pat.lowL l
end
mutual
def Val.low : Val → Prop
  | .mk _ _ s l => s.size ≤ 140737488355328 ∧ l.length ≤ 140737488355328 ∧ Val.lowL l
def Val.lowL : List Val → Prop
  | [] => True
  | p :: l => p.low ∧ Val.lowL l
end
theorem Pat.lowL_mem : ∀ {l : List Pat}, Pat.lowL l → ∀ p ∈ l, p.low
  | [], _, p, h => by cases h
  | a :: l, ⟨h1, h2⟩, p, h => by
    rcases List.mem_cons.1 h with rfl | h
    · exact h1
    · exact Pat.lowL_mem h2 p h
theorem Pat.lowL_of : ∀ {l : List Pat}, (∀ p ∈ l, p.low) → Pat.lowL l
  | [], _ => trivial
  | a :: l, h => ⟨h a (by simp), Pat.lowL_of fun p hp => h p (by simp [hp])⟩
theorem Val.lowL_mem : ∀ {l : List Val}, Val.lowL l → ∀ p ∈ l, p.low
  | [], _, p, h => by cases h
  | a :: l, ⟨h1, h2⟩, p, h => by
    rcases List.mem_cons.1 h with rfl | h
    · exact h1
    · exact Val.lowL_mem h2 p h
theorem Val.lowL_of : ∀ {l : List Val}, (∀ p ∈ l, p.low) → Val.lowL l
  | [], _ => trivial
  | a :: l, h => ⟨h a (by simp), Val.lowL_of fun p hp => h p (by simp [hp])⟩
theorem Pat.low_get {k n i : Int} {s : ByteArray} {a b c : Int} {l : List Pat} (h : Pat.low (.mk k n i s a b c l)) {j : Nat} {p : Pat} (e : l[j]? = some p) : p.low := Pat.lowL_mem h.2.2 p (List.mem_of_getElem? e)
theorem Val.low_get {k n : Int} {s : ByteArray} {l : List Val} (h : Val.low (.mk k n s l)) {j : Nat} {p : Val} (e : l[j]? = some p) : p.low := Val.lowL_mem h.2.2 p (List.mem_of_getElem? e)

mutual
theorem Pat.low_small : ∀ {p : Pat}, p.low → p.small 9223372036854775807
  | .mk _ _ _ s _ _ _ l, ⟨h1, h2, h3⟩ => ⟨by omega, by unfold maxLen; omega, Pat.lowL_small h3⟩
theorem Pat.lowL_small : ∀ {l : List Pat}, Pat.lowL l → Pat.smallL 9223372036854775807 l
  | [], _ => trivial
  | p :: l, ⟨h1, h2⟩ => ⟨Pat.low_small h1, Pat.lowL_small h2⟩
end
mutual
theorem Val.low_small : ∀ {p : Val}, p.low → p.small 9223372036854775807
  | .mk _ _ s l, ⟨h1, h2, h3⟩ => ⟨by omega, by unfold maxLen; omega, Val.lowL_small h3⟩
theorem Val.lowL_small : ∀ {l : List Val}, Val.lowL l → Val.smallL 9223372036854775807 l
  | [], _ => trivial
  | p :: l, ⟨h1, h2⟩ => ⟨Val.low_small h1, Val.lowL_small h2⟩
end

theorem massP_pos : ∀ p : Pat, 1 ≤ massP p
  | .mk .. => by simp only [massP]; omega
theorem massL_append : ∀ l m : List Pat, massL (l ++ m) = massL l + massL m
  | [], m => by simp [massL]
  | p :: l, m => by simp [massL, massL_append l m]; omega
theorem massVL_append : ∀ l m : List Val, massVL (l ++ m) = massVL l + massVL m
  | [], m => by simp [massVL]
  | p :: l, m => by simp [massVL, massVL_append l m]; omega
theorem massL_take {l : List Pat} {k : Nat} {p : Pat} (h : l[k]? = some p) : massL (l.take (k + 1)) = massL (l.take k) + massP p := by
  rw [List.take_add_one, h, massL_append]
  simp [massL]
theorem massVL_take {l : List Val} {k : Nat} {p : Val} (h : l[k]? = some p) : massVL (l.take (k + 1)) = massVL (l.take k) + massV p := by
  rw [List.take_add_one, h, massVL_append]
  simp [massVL]
theorem massL_mem : ∀ {l : List Pat} {p : Pat}, p ∈ l → massP p ≤ massL l
  | [], _, h => by cases h
  | a :: l, p, h => by
    simp only [massL]
    rcases List.mem_cons.1 h with rfl | h
    · omega
    · have := massL_mem h; omega
theorem massL_len : ∀ l : List Pat, l.length ≤ massL l
  | [] => by simp
  | a :: l => by have := massL_len l; have := massP_pos a; simp only [massL, List.length_cons]; omega
theorem massP_l : ∀ p : Pat, massL p.l < massP p
  | .mk .. => by simp only [massP, Pat.l]; omega
mutual
theorem small_mass : ∀ {p : Pat} {m : Nat}, massP p ≤ m → m ≤ 100000000000 → p.small m
  | .mk _ _ _ s _ _ _ l, m, h, hm => by
    simp only [massP] at h
    have h1 := massL_len l
    exact ⟨by omega, by unfold maxLen; omega, smallL_mass (by omega) hm⟩
theorem smallL_mass : ∀ {l : List Pat} {m : Nat}, massL l ≤ m → m ≤ 100000000000 → Pat.smallL m l
  | [], _, _, _ => trivial
  | p :: l, m, h, hm => by
    simp only [massL] at h
    exact ⟨small_mass (by omega) hm, smallL_mass (by omega) hm⟩
end

/-- What a size says. -/
def SizeZ (m : Nat) (d z : Int) : Prop := (d = 101 → z = 9001) ∧ (0 ≤ d → d ≤ 100 → 0 ≤ z ∧ z ≤ (101 - d) * 8796093031300 + 9001 ∧ (z ≤ 9000 → z = (m : Int)))
def SizeVZ (m : Nat) (d z : Int) : Prop := (d = 201 → z = 9001) ∧ (0 ≤ d → d ≤ 200 → 0 ≤ z ∧ z ≤ (201 - d) * 9001 + 9001 ∧ (z ≤ 9000 → z = (m : Int)))
end Go.Proofs.Ytjflembhgjcgkaa

/- Open, Fits, some, Apart: of the document. -/
namespace Go.Proofs.Ytjflembhgjcgkaa
open Go.RowKit

theorem rec_pat {motive : Pat → Prop} (step : ∀ k n i s a b c l, (∀ p ∈ l, motive p) → motive (.mk k n i s a b c l)) : ∀ p, motive p := by
  intro p
  refine Pat.rec (motive_1 := motive) (motive_2 := fun l => ∀ p ∈ l, motive p) ?_ ?_ ?_ p
  · exact fun k n i s a b c l ih => step k n i s a b c l ih
  · exact fun p h => by cases h
  · intro p l h1 h2 q hq
    rcases List.mem_cons.1 hq with rfl | hq
    · exact h1
    · exact h2 q hq

end Go.Proofs.Ytjflembhgjcgkaa
