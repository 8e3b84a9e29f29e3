/- M3, C12: in one. -/
import Derived.Test.YtjflembhgjcgkaaTP11XM1M11C1x2
import Derived.Test.YtjflembhgjcgkaaTP11XC3C4
set_option linter.unusedSimpArgs false
set_option linter.unusedVariables false
/- M3: a signature that serves, row by row; counts. No program in sight. -/
namespace Go.Proofs.Ytjflembhgjcgkaa
open Go.RowKit

def conRow (g : Sg) (n : Nat) : Bool := match g.cons[n]? with | some c => (match g.dat c.data with | some d => d.cons.contains (n : Int) | none => false) | none => true
def datIn (g : Sg) (n : Nat) (d : DataT) (i : Nat) : Bool := match d.cons[i]? with
  | some x => (match g.con x with | some c => c.data == (n : Int) | none => false) && !(d.cons.take i).contains x
  | none => true
def datRow (g : Sg) (n : Nat) : Bool := match g.datas[n]? with | some d => (List.range d.cons.length).all (datIn g n d) | none => true
theorem servesB_rows (g : Sg) : servesB g = ((List.range g.cons.length).all (conRow g) && (List.range g.datas.length).all (datRow g)) := rfl
theorem servesB_con {g : Sg} {n : Nat} (hn : n < g.cons.length) (h : conRow g n = false) : servesB g = false := by
  rw [servesB_rows, Bool.and_eq_false_iff]
  left
  rw [List.all_eq_false]
  exact ⟨n, List.mem_range.2 hn, by simp [h]⟩
theorem servesB_dat {g : Sg} {n i : Nat} {d : DataT} (hd : g.datas[n]? = some d) (hi : i < d.cons.length) (h : datIn g n d i = false) : servesB g = false := by
  rw [servesB_rows, Bool.and_eq_false_iff]
  right
  rw [List.all_eq_false]
  refine ⟨n, List.mem_range.2 (List.getElem?_eq_some_iff.1 hd).1, ?_⟩
  unfold datRow
  rw [hd]
  simp only [Bool.not_eq_true]
  rw [List.all_eq_false]
  exact ⟨i, List.mem_range.2 hi, by simp [h]⟩
theorem servesB_ok {g : Sg} (h1 : ∀ n, n < g.cons.length → conRow g n = true) (h2 : ∀ n, n < g.datas.length → datRow g n = true) : servesB g = true := by
  rw [servesB_rows, Bool.and_eq_true, all_range, all_range]
  exact ⟨h1, h2⟩
theorem datRow_ok {g : Sg} {n : Nat} {d : DataT} (hd : g.datas[n]? = some d) (h : ∀ i, i < d.cons.length → datIn g n d i = true) : datRow g n = true := by
  unfold datRow
  rw [hd]
  simp only
  rw [all_range]
  exact h
theorem upto_next {p : Nat → Bool} {k : Nat} (h : ∀ i, i < k → p i = true) (hk : p k = true) : ∀ i, i < k + 1 → p i = true := fun i hi => by
  by_cases e : i = k
  · rw [e]; exact hk
  · exact h i (by omega)

theorem conRow_neg {g : Sg} {k : Nat} {c : ConT} (hc : g.cons[k]? = some c) (h : c.data < 0) : conRow g k = false := by
  unfold conRow Sg.dat
  rw [hc]
  simp only
  rw [if_neg (by omega)]
theorem conRow_far {g : Sg} {k m : Nat} {c : ConT} (hc : g.cons[k]? = some c) (e : c.data = m) (h : ¬ m < g.datas.length) : conRow g k = false := by
  unfold conRow Sg.dat
  rw [hc]
  simp only
  rw [if_pos (by omega), List.getElem?_eq_none (by omega)]
theorem conRow_at {g : Sg} {k m : Nat} {c : ConT} {d : DataT} (hc : g.cons[k]? = some c) (e : c.data = m) (hd : g.datas[m]? = some d) : conRow g k = d.cons.contains (k : Int) := by
  unfold conRow Sg.dat
  rw [hc]
  simp only
  rw [if_pos (by omega), show c.data.toNat = m by omega, hd]
theorem datIn_neg {g : Sg} {n i : Nat} {d : DataT} {x : Int} (hx : d.cons[i]? = some x) (h : x < 0) : datIn g n d i = false := by
  unfold datIn Sg.con
  rw [hx]
  simp only
  rw [if_neg (by omega)]
  rfl
theorem datIn_far {g : Sg} {n i m : Nat} {d : DataT} {x : Int} (hx : d.cons[i]? = some x) (e : x = m) (h : ¬ m < g.cons.length) : datIn g n d i = false := by
  unfold datIn Sg.con
  rw [hx]
  simp only
  rw [if_pos (by omega), List.getElem?_eq_none (by omega)]
  rfl
theorem datIn_at {g : Sg} {n i m : Nat} {d : DataT} {x : Int} {c : ConT} (hx : d.cons[i]? = some x) (e : x = m) (hc : g.cons[m]? = some c) : datIn g n d i = ((c.data == (n : Int)) && !(d.cons.take i).contains x) := by
  unfold datIn Sg.con
  rw [hx]
  simp only
  rw [if_pos (by omega), show x.toNat = m by omega, hc]

/-! The document's: by counts. -/
theorem con_nat {g : Sg} {x : Int} {c : ConT} (h : g.con x = some c) : ∃ m : Nat, x = m ∧ g.cons[m]? = some c := by
  unfold Sg.con at h
  split at h
  · exact ⟨x.toNat, by omega, h⟩
  · cases h
theorem dat_nat {g : Sg} {x : Int} {d : DataT} (h : g.dat x = some d) : ∃ m : Nat, x = m ∧ g.datas[m]? = some d := by
  unfold Sg.dat at h
  split at h
  · exact ⟨x.toNat, by omega, h⟩
  · cases h
theorem dat_of {g : Sg} {m : Nat} {d : DataT} (h : g.datas[m]? = some d) : g.dat (m : Int) = some d := by
  unfold Sg.dat; rw [if_pos (by omega)]; exact h
theorem con_of {g : Sg} {m : Nat} {d : ConT} (h : g.cons[m]? = some d) : g.con (m : Int) = some d := by
  unfold Sg.con; rw [if_pos (by omega)]; exact h
end Go.Proofs.Ytjflembhgjcgkaa

/- C12: Kids, alone, pair: of the document; may: of the program. -/
namespace Go.Proofs.Ytjflembhgjcgkaa
open Go.RowKit

/-! Those at a field. -/
theorem patR_one (p : Pat) : patR [p] = [patD p] := rfl
end Go.Proofs.Ytjflembhgjcgkaa
