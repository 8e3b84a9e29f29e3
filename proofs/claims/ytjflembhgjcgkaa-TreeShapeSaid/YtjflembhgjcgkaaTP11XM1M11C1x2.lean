/- M1, M11, C1: in one. -/
import Derived.Test.YtjflembhgjcgkaaTP11Am12
import Derived.Test.YtjflembhgjcgkaaTP11Tab
set_option linter.unusedSimpArgs false
set_option linter.unusedVariables false
/- Patterns and values as plain data; how they read as frozen data; the document's Open, Fits, some, Apart. No program in sight. -/
namespace Go.Proofs.Ytjflembhgjcgkaa
open Go.RowKit

inductive Pat where
  | mk (kind n i : Int) (s : ByteArray) (a b c : Int) (l : List Pat)
inductive Val where
  | mk (kind n : Int) (s : ByteArray) (l : List Val)

def Pat.kind : Pat → Int | .mk k _ _ _ _ _ _ _ => k
def Pat.n : Pat → Int | .mk _ n _ _ _ _ _ _ => n
def Pat.i : Pat → Int | .mk _ _ i _ _ _ _ _ => i
def Pat.s : Pat → ByteArray | .mk _ _ _ s _ _ _ _ => s
def Pat.l : Pat → List Pat | .mk _ _ _ _ _ _ _ l => l
def Val.kind : Val → Int | .mk k _ _ _ => k
def Val.n : Val → Int | .mk _ n _ _ => n
def Val.s : Val → ByteArray | .mk _ _ s _ => s
def Val.l : Val → List Val | .mk _ _ _ l => l

mutual
def patD : Pat → List DV
  | .mk k n i s a b c l => [.v (.int .u8 k), .v (.int .i64 n), .v (.int .i64 i), .v (.string s), .v (.int .i64 a), .v (.int .i64 b), .v (.int .i64 c), .lst 8 (patR l)]
def patR : List Pat → List (List DV)
  | [] => []
  | p :: l => patD p :: patR l
end

theorem patD_len : ∀ p : Pat, (patD p).length = 8
  | .mk .. => rfl
theorem patR_get : ∀ {l : List Pat} {j : Nat} {p : Pat}, l[j]? = some p → (patR l)[j]? = some (patD p)
  | [], _, _, h => by simp at h
  | a :: l, 0, p, h => by simp at h; subst h; rfl
  | a :: l, j + 1, p, h => by
    have := patR_get (l := l) (j := j) (p := p) (by simpa using h)
    simpa [patR] using this
theorem patR_len : ∀ l : List Pat, (patR l).length = l.length
  | [] => rfl
  | a :: l => by simp [patR, patR_len l]
theorem patR_append : ∀ (l m : List Pat), patR (l ++ m) = patR l ++ patR m
  | [], m => rfl
  | a :: l, m => by simp [patR, patR_append l m]
theorem patR_take : ∀ (l : List Pat) (n : Nat), patR (l.take n) = (patR l).take n
  | _, 0 => by simp [patR]
  | [], n + 1 => by simp [patR]
  | a :: l, n + 1 => by simp [patR, patR_take l n]
theorem patR_drop : ∀ (l : List Pat) (n : Nat), patR (l.drop n) = (patR l).drop n
  | _, 0 => by simp
  | [], n + 1 => by simp [patR]
  | a :: l, n + 1 => by simp [patR, patR_drop l n]
mutual
def Pat.small (m : Nat) : Pat → Prop
  | .mk _ _ _ s _ _ _ l => l.length ≤ m ∧ s.size ≤ maxLen ∧ Pat.smallL m l
def Pat.smallL (m : Nat) : List Pat → Prop
  | [] => True
  | p :: l => p.small m ∧ Pat.smallL m l
end
mutual
def Val.small (m : Nat) : Val → Prop
  | .mk _ _ s l => l.length ≤ m ∧ s.size ≤ maxLen ∧ Val.smallL m l
def Val.smallL (m : Nat) : List Val → Prop
  | [] => True
  | p :: l => p.small m ∧ Val.smallL m l
end
theorem Pat.smallL_mem {m : Nat} : ∀ {l : List Pat}, Pat.smallL m l → ∀ p ∈ l, p.small m
  | [], _, p, h => by cases h
  | a :: l, ⟨h1, h2⟩, p, h => by
    rcases List.mem_cons.1 h with rfl | h
    · exact h1
    · exact Pat.smallL_mem h2 p h
theorem Pat.smallL_of {m : Nat} : ∀ {l : List Pat}, (∀ p ∈ l, p.small m) → Pat.smallL m l
  | [], _ => trivial
  | a :: l, h => ⟨h a (by simp), Pat.smallL_of fun p hp => h p (by simp [hp])⟩
theorem Val.smallL_mem {m : Nat} : ∀ {l : List Val}, Val.smallL m l → ∀ p ∈ l, p.small m
  | [], _, p, h => by cases h
  | a :: l, ⟨h1, h2⟩, p, h => by
    rcases List.mem_cons.1 h with rfl | h
    · exact h1
    · exact Val.smallL_mem h2 p h
theorem Pat.small_get {m : Nat} {k n i : Int} {s : ByteArray} {a b c : Int} {l : List Pat} (h : Pat.small m (.mk k n i s a b c l)) {j : Nat} {p : Pat} (e : l[j]? = some p) : p.small m := Pat.smallL_mem h.2.2 p (List.mem_of_getElem? e)
theorem Val.small_get {m : Nat} {k n : Int} {s : ByteArray} {l : List Val} (h : Val.small m (.mk k n s l)) {j : Nat} {p : Val} (e : l[j]? = some p) : p.small m := Val.smallL_mem h.2.2 p (List.mem_of_getElem? e)

/-! The document's functions of chapter 15 on patterns and values. -/
def openB (p : Pat) : Bool := decide (p.kind = 1 ∨ p.kind = 2)

mutual
def fitsB : Pat → Val → Bool
  | .mk k n i s a b c l, .mk vk vn vs vl =>
    if k = 1 ∨ k = 2 then true
    else if k = 3 then decide (vk = 1 ∧ vn = i)
    else if k = 4 then decide (vk = 2 ∧ vs = s)
    else if k ≠ 5 ∨ (vk ≠ 11 ∧ vk ≠ 4) ∨ (vk = 4 ∧ 0 < vl.length) ∨ vn ≠ n ∨ vl.length ≠ l.length then false
    else fitsL l vl
def fitsL : List Pat → List Val → Bool
  | p :: l, v :: vl => fitsB p v && fitsL l vl
  | _, _ => true
end

mutual
def someB : Pat → Bool
  | .mk k _ _ _ _ _ _ l => (!decide (k = 5) || someL l) && decide (1 ≤ k ∧ k ≤ 5)
def someL : List Pat → Bool
  | [] => true
  | p :: l => someB p && someL l
end

mutual
def apartB : Pat → Pat → Bool
  | .mk k n i s a b c l, .mk k' n' i' s' a' b' c' l' =>
    if someB (.mk k n i s a b c l) = false ∨ someB (.mk k' n' i' s' a' b' c' l') = false then true
    else if (k = 1 ∨ k = 2) ∨ (k' = 1 ∨ k' = 2) then false
    else if k ≠ k' then true
    else if k = 3 then decide (i ≠ i')
    else if k = 4 then decide (s ≠ s')
    else if n ≠ n' ∨ l.length ≠ l'.length then true
    else apartL l l'
def apartL : List Pat → List Pat → Bool
  | p :: l, q :: l' => apartB p q || apartL l l'
  | _, _ => false
end

theorem drop_get {α : Type} {l : List α} {k : Nat} {p : α} (h : l[k]? = some p) : l.drop k = p :: l.drop (k + 1) := by
  have hk := (List.getElem?_eq_some_iff.1 h)
  obtain ⟨hlt, e⟩ := hk
  rw [List.drop_eq_getElem_cons hlt, e]

theorem getS {α : Type} {l : List α} {k : Nat} (h : k < l.length) : ∃ x, l[k]? = some x := ⟨_, List.getElem?_eq_getElem h⟩
end Go.Proofs.Ytjflembhgjcgkaa

/- M11: how much patterns and values are; what comes in is of texts and lists that an address reaches. No program in sight. -/
namespace Go.Proofs.Ytjflembhgjcgkaa
open Go.RowKit

mutual
def massP : Pat → Nat
  | .mk _ _ _ s _ _ _ l => 1 + s.size / 16 + massL l
def massL : List Pat → Nat
  | [] => 0
  | p :: l => massP p + massL l
end
mutual
def Pat.low : Pat → Prop
  | .mk _ _ _ s _ _ _ l => s.size ≤ 140737488355328 ∧ l.length ≤ 140737488355328 ∧ Pat.lowL l
def Pat.lowL : List Pat → Prop
  | [] => True
  | p :: l => p.low ∧ Pat.lowL l
end
mutual
def Val.low : Val → Prop
  | .mk _ _ s l => s.size ≤ 140737488355328 ∧ l.length ≤ 140737488355328 ∧ Val.lowL l
def Val.lowL : List Val → Prop
  | [] => True
  | p :: l => p.low ∧ Val.lowL l
end
theorem Pat.lowL_mem : ∀ {l : List Pat}, Pat.lowL l → ∀ p ∈ l, p.low
  | [], _, p, h => by cases h
  | a :: l, ⟨h1, h2⟩, p, h => by
    rcases List.mem_cons.1 h with rfl | h
    · exact h1
    · exact Pat.lowL_mem h2 p h
theorem Pat.lowL_of : ∀ {l : List Pat}, (∀ p ∈ l, p.low) → Pat.lowL l
  | [], _ => trivial
  | a :: l, h => ⟨h a (by simp), Pat.lowL_of fun p hp => h p (by simp [hp])⟩
theorem Val.lowL_mem : ∀ {l : List Val}, Val.lowL l → ∀ p ∈ l, p.low
  | [], _, p, h => by cases h
  | a :: l, ⟨h1, h2⟩, p, h => by
    rcases List.mem_cons.1 h with rfl | h
    · exact h1
    · exact Val.lowL_mem h2 p h
theorem Val.lowL_of : ∀ {l : List Val}, (∀ p ∈ l, p.low) → Val.lowL l
  | [], _ => trivial
  | a :: l, h => ⟨h a (by simp), Val.lowL_of fun p hp => h p (by simp [hp])⟩
theorem Pat.low_get {k n i : Int} {s : ByteArray} {a b c : Int} {l : List Pat} (h : Pat.low (.mk k n i s a b c l)) {j : Nat} {p : Pat} (e : l[j]? = some p) : p.low := Pat.lowL_mem h.2.2 p (List.mem_of_getElem? e)
theorem Val.low_get {k n : Int} {s : ByteArray} {l : List Val} (h : Val.low (.mk k n s l)) {j : Nat} {p : Val} (e : l[j]? = some p) : p.low := Val.lowL_mem h.2.2 p (List.mem_of_getElem? e)

mutual
theorem Pat.low_small : ∀ {p : Pat}, p.low → p.small 9223372036854775807
  | .mk _ _ _ s _ _ _ l, ⟨h1, h2, h3⟩ => ⟨by omega, by unfold maxLen; omega, Pat.lowL_small h3⟩
theorem Pat.lowL_small : ∀ {l : List Pat}, Pat.lowL l → Pat.smallL 9223372036854775807 l
  | [], _ => trivial
  | p :: l, ⟨h1, h2⟩ => ⟨Pat.low_small h1, Pat.lowL_small h2⟩
end
mutual
theorem Val.low_small : ∀ {p : Val}, p.low → p.small 9223372036854775807
  | .mk _ _ s l, ⟨h1, h2, h3⟩ => ⟨by omega, by unfold maxLen; omega, Val.lowL_small h3⟩
theorem Val.lowL_small : ∀ {l : List Val}, Val.lowL l → Val.smallL 9223372036854775807 l
  | [], _ => trivial
  | p :: l, ⟨h1, h2⟩ => ⟨Val.low_small h1, Val.lowL_small h2⟩
end

theorem massP_pos : ∀ p : Pat, 1 ≤ massP p
  | .mk .. => by simp only [massP]; omega
theorem massL_append : ∀ l m : List Pat, massL (l ++ m) = massL l + massL m
  | [], m => by simp [massL]
  | p :: l, m => by simp [massL, massL_append l m]; omega
theorem massL_take {l : List Pat} {k : Nat} {p : Pat} (h : l[k]? = some p) : massL (l.take (k + 1)) = massL (l.take k) + massP p := by
  rw [List.take_add_one, h, massL_append]
  simp [massL]
theorem massL_mem : ∀ {l : List Pat} {p : Pat}, p ∈ l → massP p ≤ massL l
  | [], _, h => by cases h
  | a :: l, p, h => by
    simp only [massL]
    rcases List.mem_cons.1 h with rfl | h
    · omega
    · have := massL_mem h; omega
theorem massL_len : ∀ l : List Pat, l.length ≤ massL l
  | [] => by simp
  | a :: l => by have := massL_len l; have := massP_pos a; simp only [massL, List.length_cons]; omega
theorem massP_l : ∀ p : Pat, massL p.l < massP p
  | .mk .. => by simp only [massP, Pat.l]; omega
mutual
theorem small_mass : ∀ {p : Pat} {m : Nat}, massP p ≤ m → m ≤ 100000000000 → p.small m
  | .mk _ _ _ s _ _ _ l, m, h, hm => by
    simp only [massP] at h
    have h1 := massL_len l
    exact ⟨by omega, by unfold maxLen; omega, smallL_mass (by omega) hm⟩
theorem smallL_mass : ∀ {l : List Pat} {m : Nat}, massL l ≤ m → m ≤ 100000000000 → Pat.smallL m l
  | [], _, _, _ => trivial
  | p :: l, m, h, hm => by
    simp only [massL] at h
    exact ⟨small_mass (by omega) hm, smallL_mass (by omega) hm⟩
end

/-- What a size says. -/
def SizeZ (m : Nat) (d z : Int) : Prop := (d = 101 → z = 9001) ∧ (0 ≤ d → d ≤ 100 → 0 ≤ z ∧ z ≤ (101 - d) * 8796093031300 + 9001 ∧ (z ≤ 9000 → z = (m : Int)))
end Go.Proofs.Ytjflembhgjcgkaa

/- Open, Fits, some, Apart: of the document. -/
namespace Go.Proofs.Ytjflembhgjcgkaa
open Go.RowKit

theorem rec_pat {motive : Pat → Prop} (step : ∀ k n i s a b c l, (∀ p ∈ l, motive p) → motive (.mk k n i s a b c l)) : ∀ p, motive p := by
  intro p
  refine Pat.rec (motive_1 := motive) (motive_2 := fun l => ∀ p ∈ l, motive p) ?_ ?_ ?_ p
  · exact fun k n i s a b c l ih => step k n i s a b c l ih
  · exact fun p h => by cases h
  · intro p l h1 h2 q hq
    rcases List.mem_cons.1 hq with rfl | hq
    · exact h1
    · exact h2 q hq

end Go.Proofs.Ytjflembhgjcgkaa
/- M2: heads, rows, signatures as plain data; what chapter 15's functions say of them. No program in sight. -/
set_option linter.unusedSimpArgs false
set_option linter.unusedVariables false
namespace Go.Proofs.Ytjflembhgjcgkaa
open Go.RowKit

def intRow (z : Int) : List DV := [.v (.int .i64 z)]
def intsD (l : List Int) : DV := .lst 1 (l.map intRow)
def patsD (l : List Pat) : DV := .lst 8 (patR l)
def rowD (r : List Pat) : List DV := [patsD r]
def rowsD (m : List (List Pat)) : DV := .lst 1 (m.map rowD)

structure Head where
  kind : Int
  n : Int
  i : Int
  s : ByteArray
deriving DecidableEq
def headD (h : Head) : List DV := [.v (.int .u8 h.kind), .v (.int .i64 h.n), .v (.int .i64 h.i), .v (.string h.s)]
def headsD (l : List Head) : DV := .lst 4 (l.map headD)
def headV (h : Head) : List Value := [.int .u8 h.kind, .int .i64 h.n, .int .i64 h.i, .string h.s]
def noHead : Head := ⟨0, 0, 0, ⟨#[]⟩⟩

def asksH : Pat → Option Head
  | .mk k n i s _ _ _ _ => if k = 3 then some ⟨3, 0, i, ⟨#[]⟩⟩ else if k = 4 then some ⟨4, 0, 0, s⟩ else if k = 5 then some ⟨5, n, 0, ⟨#[]⟩⟩ else none

/-! Signatures. -/
structure DataT where
  name : ByteArray
  params : Int
  cons : List Int
structure ConT where
  name : ByteArray
  data : Int
  fields : List (List DV)
  mults : List (List DV)
structure Sg where
  datas : List DataT
  cons : List ConT
def dataD : DataT → List DV
  | ⟨name, params, cons⟩ => [.v (.string name), .v (.int .i64 params), intsD cons]
def conD : ConT → List DV
  | ⟨name, data, fields, mults⟩ => [.v (.string name), .v (.int .i64 data), .lst 5 fields, .lst 1 mults]
def sigD (g : Sg) : List DV := [.lst 3 (g.datas.map dataD), .lst 4 (g.cons.map conD)]
structure Sg.Small (g : Sg) : Prop where
  datas : g.datas.length ≤ 1000000000
  cons : g.cons.length ≤ 1000000000
  each : ∀ d ∈ g.datas, d.cons.length ≤ 1000000000
  fields : ∀ c ∈ g.cons, c.fields.length ≤ 1000000000

def Sg.con (g : Sg) (n : Int) : Option ConT := if 0 ≤ n then g.cons[n.toNat]? else none
def Sg.dat (g : Sg) (n : Int) : Option DataT := if 0 ≤ n then g.datas[n.toNat]? else none
def Sg.arity (g : Sg) (n : Int) : Nat := match g.con n with | some c => c.fields.length | none => 0
def Sg.dataOf (g : Sg) (n : Int) : Int := match g.con n with | some c => c.data | none => -1
def Sg.consOf (g : Sg) (d : Int) : List Int := match g.dat d with | some d => d.cons | none => []

/-- Does a signature serve? -/
def servesB (g : Sg) : Bool :=
  (List.range g.cons.length).all (fun n => match g.cons[n]? with | some c => (match g.dat c.data with | some d => d.cons.contains (n : Int) | none => false) | none => true) &&
  (List.range g.datas.length).all (fun n => match g.datas[n]? with
    | some d => (List.range d.cons.length).all (fun i => match d.cons[i]? with
      | some x => (match g.con x with | some c => c.data == (n : Int) | none => false) && !(d.cons.take i).contains x
      | none => true)
    | none => true)

structure Serves (g : Sg) : Prop where
  con : ∀ (n : Nat) (c : ConT), g.cons[n]? = some c → ∃ d, g.dat c.data = some d ∧ (n : Int) ∈ d.cons
  dat : ∀ (n : Nat) (d : DataT), g.datas[n]? = some d → ∀ x ∈ d.cons, ∃ c, g.con x = some c ∧ c.data = (n : Int)
  nodup : ∀ d ∈ g.datas, d.cons.Nodup

theorem all_range {n : Nat} {p : Nat → Bool} : (List.range n).all p = true ↔ ∀ i, i < n → p i = true := by
  simp [List.all_eq_true]

theorem nodup_take {α : Type} [BEq α] [LawfulBEq α] {l : List α} (h : ∀ (i : Nat) (x : α), l[i]? = some x → (l.take i).contains x = false) : l.Nodup := by
  unfold List.Nodup
  rw [List.pairwise_iff_getElem]
  intro i j hi hj hij e
  have := h j l[j] (List.getElem?_eq_getElem hj)
  have h2 : l[j] ∈ l.take j := by
    refine List.mem_of_getElem? (i := i) ?_
    rw [List.getElem?_take_of_lt hij, List.getElem?_eq_getElem hi, e]
  rw [← List.contains_iff_mem] at h2
  rw [h2] at this
  cases this
theorem take_nodup {α : Type} [BEq α] [LawfulBEq α] {l : List α} (h : l.Nodup) : ∀ (i : Nat) (x : α), l[i]? = some x → (l.take i).contains x = false := by
  intro i x hx
  unfold List.Nodup at h
  rw [List.pairwise_iff_getElem] at h
  obtain ⟨hi, he⟩ := List.getElem?_eq_some_iff.1 hx
  cases hc : (l.take i).contains x with
  | false => rfl
  | true =>
    rw [List.contains_iff_mem] at hc
    obtain ⟨j, hj⟩ := List.getElem?_of_mem hc
    have hjl : j < i := by have := (List.getElem?_eq_some_iff.1 hj).1; simp at this; omega
    rw [List.getElem?_take_of_lt hjl] at hj
    obtain ⟨hj1, hj2⟩ := List.getElem?_eq_some_iff.1 hj
    exact absurd (by rw [hj2, he]) (h j i hj1 hi hjl)

theorem servesB_iff (g : Sg) : servesB g = true ↔ Serves g := by
  unfold servesB
  rw [Bool.and_eq_true, all_range, all_range]
  constructor
  · rintro ⟨h1, h2⟩
    refine ⟨fun n c hc => ?_, fun n d hd x hx => ?_, fun d hd => nodup_take fun i x hi => ?_⟩
    · have := h1 n (List.getElem?_eq_some_iff.1 hc).1
      rw [hc] at this
      simp only at this
      split at this
      · rename_i d hd
        exact ⟨d, hd, by simpa using this⟩
      · cases this
    · have := h2 n (List.getElem?_eq_some_iff.1 hd).1
      rw [hd] at this
      simp only [all_range] at this
      obtain ⟨i, hi⟩ := List.getElem?_of_mem hx
      have := this i (List.getElem?_eq_some_iff.1 hi).1
      rw [hi] at this
      simp only [Bool.and_eq_true] at this
      have := this.1
      split at this
      · rename_i c hc
        exact ⟨c, hc, by simpa using this⟩
      · cases this
    · obtain ⟨n, hn⟩ := List.getElem?_of_mem hd
      have := h2 n (List.getElem?_eq_some_iff.1 hn).1
      rw [hn] at this
      simp only [all_range] at this
      have := this i (List.getElem?_eq_some_iff.1 hi).1
      rw [hi] at this
      simp only [Bool.and_eq_true] at this
      simpa using this.2
  · intro h
    refine ⟨fun n hn => ?_, fun n hn => ?_⟩
    · obtain ⟨c, hc⟩ := getS hn
      rw [hc]
      obtain ⟨d, hd, hm⟩ := h.con n c hc
      simp [hd, hm]
    · obtain ⟨d, hd⟩ := getS hn
      rw [hd]
      simp only [all_range]
      intro i hi
      obtain ⟨x, hx⟩ := getS hi
      rw [hx]
      obtain ⟨c, hc, e⟩ := h.dat n d hd x (List.mem_of_getElem? hx)
      have := take_nodup (h.nodup d (List.mem_of_getElem? hd)) i x hx
      simp only [hc, this, e]
      simp

/-! One pattern by itself; two; all together. -/
def aloneB (g : Sg) : Pat → Bool
  | .mk k n i s _ _ _ l =>
    if k = 1 then decide (i = 0 ∧ s = ⟨#[]⟩ ∧ l.length = 0)
    else if k = 2 then decide (n = 0 ∧ i = 0 ∧ s = ⟨#[]⟩ ∧ l.length = 0)
    else if k = 3 then decide (n = 0 ∧ s = ⟨#[]⟩ ∧ l.length = 0)
    else if k = 4 then decide (n = 0 ∧ i = 0 ∧ l.length = 0)
    else if k = 5 then decide (i = 0 ∧ s = ⟨#[]⟩ ∧ 0 ≤ n ∧ n < g.cons.length ∧ l.length = g.arity n)
    else false
def pairB (g : Sg) (p q : Pat) : Bool := openB p || openB q || (decide (p.kind = q.kind) && (!decide (p.kind = 5) || decide (g.dataOf p.n = g.dataOf q.n)))
/-- Those at a field, of all patterns with a constructor. -/
def kidsL (l : List Pat) (c : Int) (k : Nat) : List Pat := l.filterMap fun p => if p.kind = 5 ∧ p.n = c then p.l[k]? else none
def togF : Nat → Sg → List Pat → Bool
  | 0, _, l => l.isEmpty
  | f + 1, g, l => l.all (aloneB g) && l.all (fun p => l.all fun q => pairB g p q) && l.all fun p => (List.range p.l.length).all fun m => togF f g (kidsL l p.n m)

mutual
def szP : Pat → Nat
  | .mk _ _ _ _ _ _ _ l => 1 + szL l
def szL : List Pat → Nat
  | [] => 0
  | p :: l => szP p + szL l
end
def togB (g : Sg) (l : List Pat) : Bool := togF (szL l) g l

/-- Patterns go together. -/
inductive Tog (g : Sg) : List Pat → Prop
  | mk {l : List Pat} (alone : ∀ p ∈ l, aloneB g p = true) (pair : ∀ p ∈ l, ∀ q ∈ l, pairB g p q = true) (kids : ∀ p ∈ l, ∀ m, m < p.l.length → Tog g (kidsL l p.n m)) : Tog g l

theorem szP_pos : ∀ p : Pat, 1 ≤ szP p
  | .mk .. => by simp [szP]
theorem szL_mem : ∀ {l : List Pat} {p : Pat}, p ∈ l → szP p ≤ szL l
  | [], _, h => by cases h
  | a :: l, p, h => by
    rcases List.mem_cons.1 h with rfl | h
    · simp [szL]
    · have := szL_mem h; simp [szL]; omega
theorem szP_kid : ∀ {p q : Pat} {k : Nat}, p.l[k]? = some q → szP q < szP p
  | .mk _ _ _ _ _ _ _ l, q, k, h => by
    have := szL_mem (List.mem_of_getElem? (l := l) h)
    simp [szP]; omega
theorem kidsL_cons (p : Pat) (l : List Pat) (c : Int) (k : Nat) : kidsL (p :: l) c k = (if p.kind = 5 ∧ p.n = c then (p.l[k]?).toList else []) ++ kidsL l c k := by
  unfold kidsL
  rw [List.filterMap_cons]
  split <;> rename_i h
  · cases hk : (if p.kind = 5 ∧ p.n = c then p.l[k]? else none) with
    | none => split at hk <;> simp_all
    | some q => simp_all
  · split at h
    · rename_i h2; rw [if_pos h2, h]; rfl
    · cases h
theorem szL_append : ∀ (l m : List Pat), szL (l ++ m) = szL l + szL m
  | [], m => by simp [szL]
  | a :: l, m => by simp [szL, szL_append l m]; omega
theorem kidsL_le (l : List Pat) (c : Int) (k : Nat) : szL (kidsL l c k) ≤ szL l := by
  induction l with
  | nil => simp [kidsL, szL]
  | cons p l ih =>
    rw [kidsL_cons, szL_append]
    have : szL (if p.kind = 5 ∧ p.n = c then (p.l[k]?).toList else []) ≤ szP p := by
      split
      · cases hk : p.l[k]? with
        | none => simp [szL]
        | some q => have := szP_kid hk; simp [szL]; omega
      · simp [szL]
    simp only [szL]
    omega
theorem kidsL_lt {l : List Pat} {p : Pat} {k : Nat} (hp : p ∈ l) (h5 : p.kind = 5) (hk : k < p.l.length) : szL (kidsL l p.n k) < szL l := by
  induction l with
  | nil => cases hp
  | cons a l ih =>
    rw [kidsL_cons, szL_append]
    simp only [szL]
    rcases List.mem_cons.1 hp with rfl | hp
    · obtain ⟨q, hq⟩ := getS hk
      have h1 := szP_kid hq
      have h2 := kidsL_le l p.n k
      rw [if_pos ⟨h5, rfl⟩, hq]
      simp [szL]; omega
    · have := ih hp
      have : szL (if a.kind = 5 ∧ a.n = p.n then (a.l[k]?).toList else []) ≤ szP a := by
        split
        · cases hk : a.l[k]? with
          | none => simp [szL]
          | some q => have := szP_kid hk; simp [szL]; omega
        · simp [szL]
      omega

theorem alone_leaf {g : Sg} : ∀ {p : Pat}, aloneB g p = true → p.kind ≠ 5 → p.l = []
  | .mk k n i s a b c l, h, h5 => by
    simp only [aloneB, Pat.kind] at h h5
    show l = []
    repeat' split at h
    all_goals first | exact absurd ‹_› h5 | (simp at h; first | exact h.2.2.2 | exact h.2.2 | skip) | skip
theorem alone_con {g : Sg} : ∀ {p : Pat}, aloneB g p = true → p.kind = 5 → 0 ≤ p.n ∧ p.n < g.cons.length ∧ p.l.length = g.arity p.n
  | .mk k n i s a b c l, h, h5 => by
    simp only [Pat.kind] at h5
    subst h5
    simp [aloneB] at h
    exact ⟨h.2.2.1, h.2.2.2.1, h.2.2.2.2⟩

theorem togF_iff {g : Sg} : ∀ {f : Nat} {l : List Pat}, szL l ≤ f → (togF f g l = true ↔ Tog g l)
  | 0, l, h => by
    have : l = [] := by
      cases l with
      | nil => rfl
      | cons p l => have := szP_pos p; simp [szL] at h; omega
    subst this
    exact ⟨fun _ => .mk (fun p h => by cases h) (fun p h => by cases h) (fun p h => by cases h), fun _ => rfl⟩
  | f + 1, l, h => by
    simp only [togF, Bool.and_eq_true, List.all_eq_true]
    constructor
    · rintro ⟨⟨h1, h2⟩, h3⟩
      refine .mk h1 h2 fun p hp m hm => ?_
      have h5 : p.kind = 5 := by
        by_cases q : p.kind = 5
        · exact q
        · rw [alone_leaf (h1 p hp) q] at hm; cases hm
      have := kidsL_lt hp h5 hm
      exact (togF_iff (by omega)).1 (h3 p hp m (List.mem_range.2 hm))
    · rintro ⟨h1, h2, h3⟩
      refine ⟨⟨h1, h2⟩, fun p hp m hm => ?_⟩
      have hm := List.mem_range.1 hm
      have h5 : p.kind = 5 := by
        by_cases q : p.kind = 5
        · exact q
        · rw [alone_leaf (h1 p hp) q] at hm; cases hm
      have := kidsL_lt hp h5 hm
      exact (togF_iff (by omega)).2 (h3 p hp m hm)
theorem togB_iff {g : Sg} {l : List Pat} : togB g l = true ↔ Tog g l := togF_iff (Nat.le_refl _)
end Go.Proofs.Ytjflembhgjcgkaa
