/- M7: rows of patterns: those below a head, the others, the heads; a head that is not there. No program in sight. -/
import Derived.Test.YtjflembhgjcgkaaM4
set_option linter.unusedSimpArgs false
set_option linter.unusedVariables false
namespace Go.Proofs.Ytjflembhgjcgkaa
open Go.RowKit

def belowR (h : Head) (kids : Nat) : List Pat → Option (List Pat)
  | [] => none
  | p :: rest => match asksH p with
    | none => some (anysL kids ++ rest)
    | some k => if k = h then some (p.l ++ rest) else none
def belowL (rows : List (List Pat)) (h : Head) (kids : Nat) : List (List Pat) := rows.filterMap (belowR h kids)
def othersR : List Pat → Option (List Pat)
  | [] => none
  | p :: rest => if openB p then some rest else none
def othersL (rows : List (List Pat)) : List (List Pat) := rows.filterMap othersR
def addH (l : List Head) : Option Head → List Head
  | none => l
  | some h => if h ∈ l then l else l ++ [h]
def headsR (acc : List Head) : List Pat → List Head
  | [] => acc
  | p :: _ => addH acc (asksH p)
def headsL (rows : List (List Pat)) : List Head := rows.foldl headsR []

theorem filterMap_yes {α β : Type} {f : α → Option β} {l : List α} {k : Nat} {x : α} {y : β} (hx : l[k]? = some x) (h : f x = some y) : (l.take (k + 1)).filterMap f = (l.take k).filterMap f ++ [y] := by
  rw [List.take_add_one, hx, List.filterMap_append]; simp [h]
theorem filterMap_no {α β : Type} {f : α → Option β} {l : List α} {k : Nat} {x : α} (hx : l[k]? = some x) (h : f x = none) : (l.take (k + 1)).filterMap f = (l.take k).filterMap f := by
  rw [List.take_add_one, hx, List.filterMap_append]; simp [h]
theorem filterMap_len {α β : Type} (f : α → Option β) (l : List α) (k : Nat) : ((l.take k).filterMap f).length ≤ l.length := Nat.le_trans (List.length_filterMap_le _ _) (by rw [List.length_take]; omega)
theorem heads_next {rows : List (List Pat)} {k : Nat} {r : List Pat} (hx : rows[k]? = some r) : headsL (rows.take (k + 1)) = headsR (headsL (rows.take k)) r := by
  unfold headsL
  rw [List.take_add_one, hx, List.foldl_append]; rfl
theorem headsR_len (acc : List Head) (r : List Pat) : (headsR acc r).length ≤ acc.length + 1 := by
  cases r with
  | nil => simp [headsR]
  | cons p l =>
    simp only [headsR]
    cases asksH p with
    | none => simp [addH]
    | some h => simp only [addH]; split <;> simp
theorem heads_len : ∀ (rows : List (List Pat)) (acc : List Head), (rows.foldl headsR acc).length ≤ acc.length + rows.length
  | [], acc => by simp
  | r :: rows, acc => by
    have h1 := heads_len rows (headsR acc r)
    have h2 := headsR_len acc r
    simp only [List.foldl_cons, List.length_cons]; omega
theorem headsL_len (rows : List (List Pat)) : (headsL rows).length ≤ rows.length := by have := heads_len rows []; simpa [headsL] using this

/-- Rows that may be handed on. -/
structure RowsB (m : Nat) (rows : List (List Pat)) : Prop where
  len : rows.length ≤ m
  each : ∀ r ∈ rows, SmallP m r

/-- The first of a family that is not in a list. -/
def freshN (f : Nat → Head) (l : List Head) : Nat := ((List.range (l.length + 1)).find? fun i => decide (f i ∉ l)).getD 0
theorem inj_len {f : Nat → Head} (hf : ∀ i j, f i = f j → i = j) : ∀ (n : Nat) (l : List Head), (∀ j, j < n → f j ∈ l) → n ≤ l.length
  | 0, _, _ => Nat.zero_le _
  | n + 1, l, h => by
    have h1 := inj_len hf n (l.erase (f n)) fun j hj => by
      have := h j (by omega)
      exact (List.mem_erase_of_ne (fun e => by have := hf _ _ e; omega)).2 this
    rw [List.length_erase_of_mem (h n (by omega))] at h1
    have := List.length_pos_of_mem (h n (by omega))
    omega
theorem freshN_spec {f : Nat → Head} (hf : ∀ i j, f i = f j → i = j) (l : List Head) : f (freshN f l) ∉ l ∧ (∀ j, j < freshN f l → f j ∈ l) ∧ freshN f l ≤ l.length := by
  unfold freshN
  cases h : (List.range (l.length + 1)).find? fun i => decide (f i ∉ l) with
  | none =>
    rw [List.find?_eq_none] at h
    have := inj_len hf (l.length + 1) l fun j hj => by
      have := h j (List.mem_range.2 hj)
      simpa using this
    omega
  | some i =>
    rw [List.find?_eq_some_iff_getElem] at h
    obtain ⟨h1, k, hk, h2, h3⟩ := h
    simp only [List.getElem_range] at h2 h3
    subst h2
    refine ⟨by simpa using h1, fun j hj => ?_, ?_⟩
    · have := h3 j hj
      simpa using this
    · simp at hk; simp; omega
theorem freshN_eq {f : Nat → Head} (hf : ∀ i j, f i = f j → i = j) {l : List Head} {i : Nat} (h1 : f i ∉ l) (h2 : ∀ j, j < i → f j ∈ l) : freshN f l = i := by
  obtain ⟨a, b, _⟩ := freshN_spec hf l
  by_cases c : freshN f l < i
  · exact absurd (h2 _ c) a
  · by_cases d : i < freshN f l
    · exact absurd (b _ d) h1
    · omega
def headI (i : Nat) : Head := ⟨3, 0, i, ⟨#[]⟩⟩
def aas (i : Nat) : ByteArray := ⟨(List.replicate i (97 : UInt8)).toArray⟩
def headS (i : Nat) : Head := ⟨4, 0, 0, aas i⟩
def headC (c : Int) : Head := ⟨5, c, 0, ⟨#[]⟩⟩
theorem headI_inj : ∀ i j, headI i = headI j → i = j := fun i j h => by injection h with _ _ h _; omega
theorem headS_inj : ∀ i j, headS i = headS j → i = j := fun i j h => by
  injection h with _ _ _ h
  injection h with h
  have := congrArg Array.size h
  simpa using this
/-- A pattern of a value that has none of some heads. -/
def freshP (g : Sg) : List Head → Option Pat
  | [] => some anyP
  | h0 :: t => if h0.kind = 3 then some (.mk 3 0 (freshN headI (h0 :: t)) ⟨#[]⟩ 0 0 0 [])
    else if h0.kind = 4 then some (.mk 4 0 0 (aas (freshN headS (h0 :: t))) 0 0 0 [])
    else ((g.consOf (g.dataOf h0.n)).find? fun c => decide (headC c ∉ h0 :: t)).map fun c => .mk 5 c 0 ⟨#[]⟩ 0 0 0 (anysL (g.arity c))
end Go.Proofs.Ytjflembhgjcgkaa
