/- Arguments, opened: what the form reads as data, as cells that can be read. -/
import Derived.Test.YtlpgekodoiioaaaSlApp
import Derived.ProofKit
import Derived.OpenShut
import Derived.Carry
set_option linter.unusedVariables false
set_option linter.unusedSimpArgs false
namespace Go.Proofs.Ytlpgekodoiioaaa
open Go.ChangeShapes Go.WideShapes Go.ChangeAt Go.RowKit

/-- These cells read as something of type t, by so much fuel. -/
def Reads (P : Program) (w : World) (n : Nat) (t : TypeId) (cs : List Value) : Prop :=
  ∃ (H : Type) (enc : TypeId × Value → H) (base : Nat) (spare : Nat → Bool) (held : Bool) (x : DataW H × List MemPlace), DataW.trod enc P w base spare held n t cs = some x

theorem Reads.mk {H : Type} {enc : TypeId × Value → H} {P : Program} {w : World} {base : Nat} {spare : Nat → Bool} {held : Bool} {n : Nat} {t : TypeId} {cs : List Value} {x : DataW H × List MemPlace}
    (h : DataW.trod enc P w base spare held n t cs = some x) : Reads P w n t cs := ⟨H, enc, base, spare, held, x, h⟩

section
variable {P : Program} {w : World} {n : Nat} {t : TypeId} {cs : List Value}

theorem Reads.bool (ht : P.underlying t = some .bool) (h : Reads P w n t cs) : ∃ b, cs = [.bool b] := by
  obtain ⟨H, enc, base, spare, held, x, h⟩ := h
  obtain ⟨b, e, _⟩ := DataW.trod_bool ht h
  exact ⟨b, e⟩

theorem Reads.int {k : IntKind} (ht : P.underlying t = some (.int k)) (h : Reads P w n t cs) : ∃ z, cs = [.int k z] ∧ (Lit.int k z).wf = true := by
  obtain ⟨H, enc, base, spare, held, x, h⟩ := h
  obtain ⟨b, e, _, f⟩ := DataW.trod_int ht h
  exact ⟨b, e, f⟩

theorem Reads.string (ht : P.underlying t = some .string) (h : Reads P w n t cs) : ∃ s, cs = [.string s] ∧ s.size ≤ maxLen := by
  obtain ⟨H, enc, base, spare, held, x, h⟩ := h
  obtain ⟨b, e, _, f⟩ := DataW.trod_string ht h
  exact ⟨b, e, f⟩

theorem Reads.struct {fs : Array Field} (ht : P.underlying t = some (.struct fs)) (h : Reads P w n t cs) :
    ∃ m, n = m + 1 ∧ cs.length = P.cellsOf t ∧ ∀ (i : Nat) (f : Field), fs[i]? = some f → Reads P w m f.type ((cs.drop f.offset).take (P.cellsOf f.type)) := by
  obtain ⟨H, enc, base, spare, held, x, h⟩ := h
  obtain ⟨xs, m, e, _, hl, hx, hf⟩ := DataW.trod_struct ht h
  refine ⟨m, e, hl, fun i f hi => ?_⟩
  have hlt : i < xs.length := by rw [hx]; exact (Array.getElem?_eq_some_iff.1 hi).1
  have := hf i f hi
  rw [List.getElem?_eq_getElem hlt] at this
  exact ⟨H, enc, base, spare, held, _, this⟩

theorem flatten_get {c : Nat} : ∀ (rows : List (List Value)) (_ : ∀ r ∈ rows, r.length = c) (i j : Nat), j < c → rows.flatten[i * c + j]? = (rows[i]?).bind (·[j]?)
  | [], _, i, j, _ => by simp
  | r :: rows, h, 0, j, hj => by
    have := h r (by simp)
    simp only [List.flatten_cons, Nat.zero_mul, Nat.zero_add, List.getElem?_cons_zero, Option.bind_some]
    rw [List.getElem?_append_left (by omega)]
  | r :: rows, h, i + 1, j, hj => by
    have hr := h r (by simp)
    simp only [List.flatten_cons, List.getElem?_cons_succ]
    rw [List.getElem?_append_right (by rw [hr, Nat.add_mul]; omega), hr, show (i + 1) * c + j - c = i * c + j by rw [Nat.add_mul]; omega]
    exact flatten_get rows (fun r hr => h r (by simp [hr])) i j hj

theorem flatten_len {c : Nat} : ∀ (rows : List (List Value)) (_ : ∀ r ∈ rows, r.length = c), rows.flatten.length = rows.length * c
  | [], _ => by simp
  | r :: rows, h => by
    simp only [List.flatten_cons, List.length_append, List.length_cons, flatten_len rows (fun r hr => h r (by simp [hr])), h r (by simp), Nat.add_mul]
    omega

theorem Reads.slice {e : TypeId} (ht : P.underlying t = some (.slice e)) (hc : 0 < P.cellsOf e) (h : Reads P w n t cs) :
    ∃ (v : Value) (rows : List (List Value)), cs = [v] ∧ rd w (P.cellsOf e) v rows.length rows.flatten ∧ rows.length ≤ maxLen ∧ ∀ r ∈ rows, r.length = P.cellsOf e ∧ ∃ m, n = m + 1 ∧ Reads P w m e r := by
  obtain ⟨H, enc, base, spare, held, x, h⟩ := h
  rcases DataW.trod_slice ht h with ⟨rfl, _⟩ | ⟨a, len, cap, elems, rest, m, rfl, rfl, _, hb, hl, hm, hlen, hel, _, _⟩
  · exact ⟨_, [], rfl, ⟨by simp, .inl ⟨⟨_, _, rfl⟩, rfl⟩⟩, Nat.zero_le _, by simp⟩
  · generalize hcz : P.cellsOf e = c at *
    have each : ∀ i, i < len → ∃ r y, w.cells? base (a.add (i * c)) c = some r ∧ DataW.trod enc P w base spare held m e r = some y := by
      intro i hi
      have h1 := hel i hi
      have h2 : i < elems.length := by omega
      rw [List.getElem?_eq_getElem h2, Option.bind_eq_some_iff] at h1
      obtain ⟨r, h3, h4⟩ := h1
      exact ⟨r, _, h3, h4⟩
    let row := fun i => (w.cells? base (a.add (i * c)) c).getD []
    have hrow : ∀ i, i < len → (row i).length = c ∧ (∃ y, DataW.trod enc P w base spare held m e (row i) = some y) ∧ ∀ j, j < c → w.cell? ((a.add (i * c)).add j) = (row i)[j]? := by
      intro i hi
      obtain ⟨r, y, h1, h2⟩ := each i hi
      have e1 : row i = r := by simp [row, h1]
      obtain ⟨_, h3, h4⟩ := World.cells?_some h1
      rw [e1]
      exact ⟨h3, ⟨y, h2⟩, h4⟩
    have hmem : ∀ r ∈ (List.range len).map row, r.length = c ∧ ∃ m', m + 1 = m' + 1 ∧ Reads P w m' e r := by
      intro r hr
      obtain ⟨i, hi, rfl⟩ := List.mem_map.1 hr
      have hi' : i < len := by simpa using hi
      obtain ⟨h1, ⟨y, h2⟩, _⟩ := hrow i hi'
      exact ⟨h1, m, rfl, ⟨H, enc, base, spare, held, y, h2⟩⟩
    refine ⟨_, (List.range len).map row, rfl, ?_, by simp; omega, hmem⟩
    have hfl := flatten_len ((List.range len).map row) (fun r hr => (hmem r hr).1)
    refine ⟨hfl, ?_⟩
    simp only [List.length_map, List.length_range] at hfl ⊢
    by_cases h0 : len = 0
    · left; subst h0; exact ⟨⟨_, _, rfl⟩, rfl⟩
    · right
      obtain ⟨b, off, spot⟩ := a
      have hspot : spot = none := by
        have h1 := (hrow 0 (by omega)).2.2 0 hc
        have h2 := (hrow 0 (by omega)).1
        have h3 : (row 0)[0]? = some ((row 0)[0]'(by omega)) := List.getElem?_eq_getElem _
        rw [h3] at h1
        simpa [Addr.add] using World.cell?_spot h1
      subst hspot
      have key : ∀ j u, ((List.range len).map row).flatten[j]? = some u → w.cell? ⟨b, off + j, none⟩ = some u := by
        intro j u hj
        have hjl : j < len * c := by rw [← hfl]; exact (List.getElem?_eq_some_iff.1 hj).1
        have hmod : j % c < c := Nat.mod_lt _ hc
        have hdiv : j / c < len := Nat.div_lt_of_lt_mul (by rw [Nat.mul_comm]; exact hjl)
        have e1 : j = j / c * c + j % c := by rw [Nat.mul_comm]; exact (Nat.div_add_mod j c).symm
        rw [e1, flatten_get _ (fun r hr => (hmem r hr).1) _ _ hmod] at hj
        simp [hdiv] at hj
        have h1 := (hrow (j / c) hdiv).2.2 (j % c) hmod
        rw [hj, addr_add, addr_add] at h1
        rw [e1, ← Nat.add_assoc]; exact h1
      refine ⟨b, off, cap, rfl, hl, fun hp => ?_, key⟩
      have hp' := List.getElem?_eq_getElem (l := ((List.range len).map row).flatten) (i := 0) hp
      have := key 0 _ hp'
      unfold World.cell? at this
      split at this
      · rename_i hh; exact (Array.getElem?_eq_some_iff.1 hh).1
      · cases this

theorem rows_choose {α : Type} {f : α → List Value} {Q : α → Prop} : ∀ (rows : List (List Value)), (∀ r ∈ rows, ∃ x, r = f x ∧ Q x) → ∃ xs : List α, rows.length = xs.length ∧ rows.flatten = xs.flatMap f ∧ ∀ x ∈ xs, Q x
  | [], _ => ⟨[], rfl, rfl, by simp⟩
  | r :: rows, h => by
    obtain ⟨x, e, q⟩ := h r (by simp)
    obtain ⟨xs, e1, e2, e3⟩ := rows_choose rows (fun r hr => h r (by simp [hr]))
    refine ⟨x :: xs, by simp [e1], by simp [e2, e], ?_⟩
    intro y hy
    rcases List.mem_cons.1 hy with rfl | hy
    · exact q
    · exact e3 y hy
end

end Go.Proofs.Ytlpgekodoiioaaa
