/- WorldReads, as a plain law. No program in sight. -/
import Derived.Test.YtlpgekodoiioaaaK1
set_option linter.unusedSimpArgs false
set_option linter.unusedVariables false
namespace Go.Proofs.Ytlpgekodoiioaaa

theorem lineOf_spec : ∀ l : List UInt8, (10 : UInt8) ∉ (lineOf l).1 ∧ (((lineOf l).2 = false ∧ (lineOf l).1 = l) ∨ ((lineOf l).2 = true ∧ l = (lineOf l).1 ++ 10 :: l.drop ((lineOf l).1.length + 1)))
  | [] => ⟨by simp [lineOf], .inl ⟨rfl, rfl⟩⟩
  | b :: l => by
    obtain ⟨h1, h2⟩ := lineOf_spec l
    unfold lineOf
    by_cases e : b = 10
    · rw [if_pos e]
      subst e
      exact ⟨by simp, .inr ⟨rfl, by simp⟩⟩
    · rw [if_neg e]
      refine ⟨by simp only [List.mem_cons, not_or]; exact ⟨fun q => e q.symm, h1⟩, ?_⟩
      rcases h2 with ⟨h2, h3⟩ | ⟨h2, h3⟩
      · exact .inl ⟨h2, by simp [h3]⟩
      · refine .inr ⟨h2, ?_⟩
        simp only [List.cons_append, List.length_cons, List.drop_succ_cons]
        rw [← h3]

def wr (text : ByteArray) (p : Nat) (tr : List AOp) : AW := ⟨[⟨bA, text⟩], [], [⟨0, p, false⟩], tr⟩
def trE : AOp := ⟨2, 0, emptyB, emptyB, true⟩

theorem wr_end {text : ByteArray} {p : Nat} {tr : List AOp} (h : text.toList.drop p = []) : (wr text p tr).read 0 = ((2, emptyB, 0), wr text p (tr ++ [trE])) := by
  unfold AW.read
  simp only [show (wr text p tr).wrong 0 = 0 from rfl, show (wr text p tr).handle (0 : Int).toNat = ⟨0, p, false⟩ from rfl, show (wr text p tr).file 0 = ⟨bA, text⟩ from rfl, h]
  rfl
theorem wr_line {text : ByteArray} {p : Nat} {tr : List AOp} (h : text.toList.drop p ≠ []) : ∃ o, (wr text p tr).read 0 = ((1, bytesOf (lineOf (text.toList.drop p)).1, 0), wr text (p + (lineOf (text.toList.drop p)).1.length + (if (lineOf (text.toList.drop p)).2 then 1 else 0)) (tr ++ [o])) := by
  refine ⟨⟨2, 0, emptyB, bytesOf (lineOf (text.toList.drop p)).1, true⟩, ?_⟩
  unfold AW.read
  simp only [show (wr text p tr).wrong 0 = 0 from rfl, show (wr text p tr).handle (0 : Int).toNat = ⟨0, p, false⟩ from rfl, show (wr text p tr).file 0 = ⟨bA, text⟩ from rfl]
  rw [if_neg (by simp), if_neg (by simp [wr, AW.goes]), if_neg h]
  rfl

/-- What was told so far. -/
def told (T : List UInt8) (p : Nat) (d : Bool) : List UInt8 := T.take p ++ (if d then [10] else [])
structure RInv (T : List UInt8) (p : Nat) (d : Bool) : Prop where
  le : p ≤ T.length
  torn : d = true → p = T.length ∧ ∃ y, T[T.length - 1]? = some y ∧ y ≠ 10
  whole : d = false → p = 0 ∨ T[p - 1]? = some 10

theorem rinv0 (T : List UInt8) : RInv T 0 false := ⟨Nat.zero_le _, (fun h => by cases h), fun _ => .inl rfl⟩

theorem rinv_step {T : List UInt8} {p : Nat} {d : Bool} (h : RInv T p d) (hr : T.drop p ≠ []) :
    ∃ d', RInv T (p + (lineOf (T.drop p)).1.length + (if (lineOf (T.drop p)).2 then 1 else 0)) d' ∧
      told T p d ++ (lineOf (T.drop p)).1 ++ [10] = told T (p + (lineOf (T.drop p)).1.length + (if (lineOf (T.drop p)).2 then 1 else 0)) d' ∧
      p < p + (lineOf (T.drop p)).1.length + (if (lineOf (T.drop p)).2 then 1 else 0) := by
  have hlt : p < T.length := by
    apply Decidable.byContradiction
    intro q
    exact hr (List.drop_eq_nil_of_le (by omega))
  have hd : d = false := by
    cases d with
    | false => rfl
    | true => have := (h.torn rfl).1; omega
  subst hd
  obtain ⟨h1, h2⟩ := lineOf_spec (T.drop p)
  generalize hL : lineOf (T.drop p) = L at *
  obtain ⟨a, b⟩ := L
  simp only at h1 h2 ⊢
  have hT : T = T.take p ++ T.drop p := (List.take_append_drop p T).symm
  have hlp : (T.take p).length = p := by simp; omega
  rcases h2 with ⟨rfl, h2⟩ | ⟨rfl, h2⟩
  · have hal : a.length = T.length - p := by rw [h2]; simp
    refine ⟨true, ⟨by simp; omega, fun _ => ⟨by simp; omega, ?_⟩, (fun q => by cases q)⟩, ?_, by simp; omega⟩
    · have hne : T ≠ [] := by intro q; rw [q] at hlt; simp at hlt
      have hlast := List.getElem?_eq_getElem (l := T) (i := T.length - 1) (by omega)
      refine ⟨_, hlast, fun q => ?_⟩
      apply h1
      rw [h2]
      have : (T.drop p)[T.length - 1 - p]? = some 10 := by
        rw [List.getElem?_drop, show p + (T.length - 1 - p) = T.length - 1 by omega, hlast, q]
      exact List.mem_of_getElem? this
    · unfold told
      rw [h2]
      simp
      rw [show p + (T.length - p) = T.length by omega, List.take_length]
  · refine ⟨false, ⟨?_, (fun q => by cases q), fun _ => .inr ?_⟩, ?_, by simp; omega⟩
    · have := congrArg List.length h2
      simp at this
      simp; omega
    · simp only [if_true]
      rw [show p + a.length + 1 - 1 = p + a.length by omega]
      have : (T.drop p)[a.length]? = some 10 := by
        rw [h2, List.getElem?_append_right (Nat.le_refl _)]; simp
      rw [List.getElem?_drop] at this
      exact this
    · unfold told
      simp only [Bool.false_eq_true, if_false, if_true, List.append_nil]
      have e : T.take (p + a.length + 1) = T.take p ++ (T.drop p).take (a.length + 1) := by
        rw [show p + a.length + 1 = p + (a.length + 1) by omega, List.take_add]
      rw [e, h2]
      simp [List.take_append]
      rw [List.take_of_length_le (by omega)]

/-- At the end. -/
theorem rinv_end {T : List UInt8} {p : Nat} {d : Bool} (h : RInv T p d) (hr : T.drop p = []) :
    (T = [] ∧ told T p d = []) ∨ (∃ y, 0 < T.length ∧ T[T.length - 1]? = some y ∧ ((y = 10 ∧ told T p d = T) ∨ (y ≠ 10 ∧ told T p d = T ++ [10]))) := by
  have hp : p = T.length := by
    have := List.drop_eq_nil_iff.1 hr
    have := h.le
    omega
  subst hp
  by_cases h0 : T = []
  · subst h0
    refine .inl ⟨rfl, ?_⟩
    cases d with
    | false => rfl
    | true => obtain ⟨_, y, q, _⟩ := h.torn rfl; simp at q
  · have hpos : 0 < T.length := List.length_pos_iff.2 h0
    refine .inr ?_
    cases d with
    | true =>
      obtain ⟨_, y, q, hy⟩ := h.torn rfl
      exact ⟨y, hpos, q, .inr ⟨hy, by simp [told]⟩⟩
    | false =>
      rcases h.whole rfl with q | q
      · omega
      · exact ⟨10, hpos, q, .inl ⟨rfl, by simp [told]⟩⟩
end Go.Proofs.Ytlpgekodoiioaaa
