/- Ld, Lz: in one. -/
import Derived.Test.YtciciaikajdenaaLb
import Derived.Test.YtciciaikajdenaaAa
import Derived.SizedLaws
set_option linter.unusedSimpArgs false
set_option linter.unusedVariables false
/- Ld: OpenD, LawD in one. -/
/- Arguments, opened, as frozen data of the abstract walk; and a law's run, closed. -/
namespace Go.Proofs.Ytciciaikajdenaa
open Go.RowKit

/-- The whole memory. -/
def FH (w : World) : Frag := fun b => w.heap[b]?

theorem fcell_FH {w : World} {b off : Nat} {u : Value} (h : w.cell? ⟨b, off, none⟩ = some u) : fcell (FH w) b off = some u := by
  unfold World.cell? at h
  unfold fcell FH
  split at h <;> simp_all

/-- One-cell rows of values. -/
def One (us : List Value) : Prop := ∀ u ∈ us, u.oneCell' = true

theorem crep_cells {w : World} {b : Nat} : ∀ {ds : List DV} {us : List Value} {off : Nat}, LRep (FH w) ds us → One us → (∀ j u, us[j]? = some u → w.cell? ⟨b, off + j, none⟩ = some u) → CRep (FH w) ds b off
  | [], _, _, _, _, _ => trivial
  | d :: ds, _, off, ⟨u, us', e, r, q⟩, ho, hc => by
    subst e
    refine ⟨⟨u, fcell_FH (hc 0 u rfl), ho u (by simp), r⟩, crep_cells q (fun u hu => ho u (by simp [hu])) (fun j u hj => ?_)⟩
    have := hc (j + 1) u hj
    rwa [show off + 1 + j = off + (j + 1) by omega]

theorem LRep.lenD {F : Frag} : ∀ {ds : List DV} {us : List Value}, LRep F ds us → us.length = ds.length
  | [], _, h => by rw [h]; rfl
  | _ :: _, _, ⟨u, us', e, r, q⟩ => by rw [e]; simp [LRep.lenD q]

theorem rrep_cells {w : World} {b sz : Nat} : ∀ {rs : List (List DV)} {rows : List (List Value)} {off : Nat}, rs.length = rows.length → (∀ (i : Nat) (d : List DV) (r : List Value), rs[i]? = some d → rows[i]? = some r → LRep (FH w) d r ∧ One r ∧ d.length = sz) →
    (∀ j u, rows.flatten[j]? = some u → w.cell? ⟨b, off + j, none⟩ = some u) → RRep (FH w) sz rs b off
  | [], _, _, _, _, _ => trivial
  | d :: rs, [], _, h, _, _ => by simp at h
  | d :: rs, r :: rows, off, h, hr, hc => by
    obtain ⟨h1, h2, h3⟩ := hr 0 d r rfl rfl
    have hl := h1.lenD
    refine ⟨h3, crep_cells h1 h2 (fun j u hj => hc j u ?_), rrep_cells (rows := rows) (by simpa using h) (fun i d r e1 e2 => hr (i + 1) d r e1 e2) (fun j u hj => ?_)⟩
    · rw [List.flatten_cons, List.getElem?_append_left (List.getElem?_eq_some_iff.1 hj).1]; exact hj
    · have := hc (r.length + j) u (by rw [List.flatten_cons, List.getElem?_append_right (by omega), show r.length + j - r.length = j by omega]; exact hj)
      rwa [show off + sz + j = off + (r.length + j) by omega]

theorem drep_rd {w : World} {sz : Nat} {v : Value} {rs : List (List DV)} {rows : List (List Value)} (h : rd w sz v rows.length rows.flatten) (hl : rs.length = rows.length) (hr : ∀ (i : Nat) (d : List DV) (r : List Value), rs[i]? = some d → rows[i]? = some r → LRep (FH w) d r ∧ One r ∧ d.length = sz) : DRep (FH w) (.lst sz rs) v := by
  obtain ⟨_, ⟨⟨a, c, e⟩, h0⟩ | ⟨b, off, cap, e, h2, h3, h4⟩⟩ := h
  · have : rs = [] := List.eq_nil_of_length_eq_zero (by omega)
    subst this
    exact ⟨a, c, e, Nat.zero_le _, .inl rfl⟩
  · exact ⟨_, cap, by rw [e, hl], by omega, .inr ⟨b, off, rfl, rrep_cells hl hr h4⟩⟩

section
variable {P : Program} {w : World} {n : Nat} {t : TypeId} {cs : List Value}

/-- A slice that comes in. -/
theorem Reads.lstD {α : Type} {f : α → List DV} {Q : α → Prop} {e : TypeId} {sz : Nat} (ht : P.underlying t = some (.slice e)) (hsz : P.cellsOf e = sz) (hc : 0 < sz) (h : Reads P w n t cs)
    (hrow : ∀ m r, n = m + 1 → r.length = sz → Reads P w m e r → ∃ x, LRep (FH w) (f x) r ∧ One r ∧ Q x) :
    ∃ (v : Value) (l : List α), cs = [v] ∧ DRep (FH w) (.lst sz (l.map f)) v ∧ l.length ≤ maxLen ∧ ∀ x ∈ l, Q x := by
  subst hsz
  obtain ⟨v, rows, e1, h1, h2, h3⟩ := h.slice ht hc
  have key : ∀ (rows : List (List Value)), (∀ r ∈ rows, ∃ x, LRep (FH w) (f x) r ∧ One r ∧ r.length = P.cellsOf e ∧ Q x) → ∃ xs : List α, xs.length = rows.length ∧ (∀ (i : Nat) (d : List DV) (r : List Value), (xs.map f)[i]? = some d → rows[i]? = some r → LRep (FH w) d r ∧ One r ∧ d.length = P.cellsOf e) ∧ ∀ x ∈ xs, Q x := by
    intro rows
    induction rows with
    | nil => exact fun _ => ⟨[], rfl, by simp, by simp⟩
    | cons r rows ih =>
      intro h
      obtain ⟨x, q1, q2, q3, q4⟩ := h r (by simp)
      obtain ⟨xs, k1, k2, k3⟩ := ih fun r hr => h r (by simp [hr])
      refine ⟨x :: xs, by simp [k1], fun i d r' e1 e2 => ?_, fun y hy => ?_⟩
      · match i with
        | 0 =>
          simp at e1 e2
          subst e1 e2
          exact ⟨q1, q2, by rw [← q1.lenD]; exact q3⟩
        | i + 1 => exact k2 i d r' (by simpa using e1) (by simpa using e2)
      · rcases List.mem_cons.1 hy with rfl | hy
        · exact q4
        · exact k3 y hy
  obtain ⟨xs, k1, k2, k3⟩ := key rows fun r hr => by
    obtain ⟨h4, m, h5, h6⟩ := h3 r hr
    obtain ⟨x, q1, q2, q3⟩ := hrow m r h5 h4 h6
    exact ⟨x, q1, q2, h4, q3⟩
  refine ⟨v, xs, e1, drep_rd h1 (by simpa using k1) k2, by omega, k3⟩
end

theorem agree_size {w w' : World} (h : Agree w w') : w.heap.size ≤ w'.heap.size := by
  apply Decidable.byContradiction
  intro hn
  have := h w'.heap.size (by omega)
  rw [Array.getElem?_eq_none (Nat.le_refl _), Array.getElem?_eq_getElem (by omega)] at this
  cases this

/-- A run over data that came in. -/
theorem RunsP.calls {P : Program} {f : FuncId} {args : List DV} {post : DV → Prop} (h : RunsP P f args post) {w : World} {vs : List Value} (ha : LRep (FH w) args vs) :
    Calls P f vs.toArray w fun e w' => ∃ u d F', e = .returned u ∧ DRep F' d u ∧ post d ∧ Below w.heap.size w w' := by
  refine Calls.mono (h.2 ⟨w.os, w.tape, w.output⟩ (FH w) w vs ha (Le.refl _) ⟨rfl, rfl, rfl⟩) fun e w' ⟨u, v, F', h1, h2, h3, h4, h5, h6, h7, h8⟩ => ?_
  exact ⟨u, v, F', h1, h3, h8, h7.os, h7.tape, h7.output, agree_size h5, fun b hb => h5 b hb⟩
theorem RunsP.law {P : Program} {f : FuncId} {args : List DV} (h : RunsP P f args fun v => v = .v (.bool true)) {w : World} {vs : List Value} (ha : LRep (FH w) args vs) :
    Calls P f vs.toArray w fun e w' => e = .returned (.bool true) ∧ Below w.heap.size w w' :=
  (h.calls ha).mono fun e w' ⟨u, d, F', h1, h2, h3, h4⟩ => by
    subst h3
    exact ⟨by rw [h1, h2.1], h4⟩
end Go.Proofs.Ytciciaikajdenaa

/- The arguments of a law, each read. -/
namespace Go.Proofs.Ytciciaikajdenaa
open Go.ChangeShapes Go.WideShapes Go.ChangeAt Go.RowKit

def ReadsAll (P : Program) (w : World) : List TypeId → List Value → Prop
  | [], vs => vs = []
  | t :: ts, vs => ∃ v vs', vs = v :: vs' ∧ (∃ n, Reads P w n t v.cells.toList) ∧ ReadsAll P w ts vs'

theorem trodAll_reads {H : Type} {enc : TypeId × Value → H} {P : Program} {w : World} {base : Nat} {sp : Nat → Bool} {held : Bool} : ∀ {ts : List TypeId} {vs : List Value} {ds : List (DataW H)} {ps : List MemPlace},
    DataW.TrodAll enc P w base sp held ts vs ds ps → ReadsAll P w ts vs ∧ ds.length = ts.length
  | [], vs, ds, ps, h => by
    obtain ⟨h1, rfl, rfl⟩ := trodAll_nil h
    exact ⟨show vs = [] by simpa using h1, rfl⟩
  | t :: ts, vs, ds, ps, h => by
    obtain ⟨v, vs', d, ds', p, q, e, rfl, rfl, hd, hr⟩ := trodAll_cons h
    obtain ⟨k1, k2⟩ := trodAll_reads hr
    obtain ⟨n, hn⟩ := hd
    exact ⟨⟨v, vs', e, ⟨n, Reads.mk hn⟩, k1⟩, by simp [k2]⟩

theorem Reads.cell {P : Program} {w : World} {n : Nat} {t : TypeId} {v u : Value} (h : v.cells.toList = [u]) (hu : ∀ cs, v ≠ .agg cs) : v = u := by
  cases v <;> simp_all [Value.cells]
end Go.Proofs.Ytciciaikajdenaa

/- Arguments, opened, with their sizes: each text, each list's bytes is at most what an address reaches. -/
namespace Go.Proofs.Ytciciaikajdenaa
open Go.ChangeShapes Go.WideShapes Go.ChangeAt Go.RowKit

/-- These cells read as something of type t, by so much fuel, of such weights. -/
def ReadsZ (P : Program) (w : World) (n : Nat) (t : TypeId) (cs : List Value) : Prop :=
  ∃ (H : Type) (enc : TypeId × Value → H) (base : Nat) (spare : Nat → Bool) (held : Bool) (x : DataW H × List MemPlace), DataW.trod enc P w base spare held n t cs = some x ∧ ∀ k ∈ x.1.weights P t, k ≤ reachBytes

theorem weightsAll_memZ {H : Type} {P : Program} {e : TypeId} : ∀ {l : List (DataW H)} {d : DataW H}, d ∈ l → ∀ n ∈ d.weights P e, n ∈ DataW.weightsAll P e l
  | d' :: r, d, hd, n, hn => by
    simp only [DataW.weightsAll, List.mem_append]
    rcases List.mem_cons.1 hd with rfl | h
    · exact Or.inl hn
    · exact Or.inr (weightsAll_memZ h n hn)

section
variable {P : Program} {w : World} {n : Nat} {t : TypeId} {cs : List Value}

theorem ReadsZ.reads (h : ReadsZ P w n t cs) : Reads P w n t cs := by
  obtain ⟨H, enc, base, spare, held, x, h, _⟩ := h
  exact ⟨H, enc, base, spare, held, x, h⟩
theorem ReadsZ.bool (ht : P.underlying t = some .bool) (h : ReadsZ P w n t cs) : ∃ b, cs = [.bool b] := h.reads.bool ht
theorem ReadsZ.int {k : IntKind} (ht : P.underlying t = some (.int k)) (h : ReadsZ P w n t cs) : ∃ z, cs = [.int k z] ∧ (Lit.int k z).wf = true := h.reads.int ht

theorem ReadsZ.string (ht : P.underlying t = some .string) (h : ReadsZ P w n t cs) : ∃ s, cs = [.string s] ∧ s.size ≤ reachBytes := by
  obtain ⟨H, enc, base, spare, held, x, h, hz⟩ := h
  obtain ⟨b, e, rfl, f⟩ := DataW.trod_string ht h
  refine ⟨b, e, ?_⟩
  have := hz b.data.toList.length (by simp [DataW.weights])
  rw [Array.length_toList] at this
  exact this

theorem ReadsZ.struct {fs : Array Field} (ht : P.underlying t = some (.struct fs)) (h : ReadsZ P w n t cs) :
    ∃ m, n = m + 1 ∧ cs.length = P.cellsOf t ∧ ∀ (i : Nat) (f : Field), fs[i]? = some f → ReadsZ P w m f.type ((cs.drop f.offset).take (P.cellsOf f.type)) := by
  obtain ⟨H, enc, base, spare, held, x, h, hz⟩ := h
  obtain ⟨xs, m, e, rfl, hl, hx, hf⟩ := DataW.trod_struct ht h
  refine ⟨m, e, hl, fun i f hi => ?_⟩
  have hlt : i < xs.length := by rw [hx]; exact (Array.getElem?_eq_some_iff.1 hi).1
  have := hf i f hi
  rw [List.getElem?_eq_getElem hlt] at this
  refine ⟨H, enc, base, spare, held, _, this, fun k hk => hz k ?_⟩
  simp only [DataW.weights, ht]
  refine DataW.weights_mem_each (j := i) (t := f.type) (d := xs[i].1) ?_ ?_ k hk
  · simp [hi]
  · simp [hlt]

theorem ReadsZ.slice {e : TypeId} (ht : P.underlying t = some (.slice e)) (hc : 0 < P.cellsOf e) (h : ReadsZ P w n t cs) :
    ∃ (v : Value) (rows : List (List Value)), cs = [v] ∧ rd w (P.cellsOf e) v rows.length rows.flatten ∧ rows.length ≤ maxLen ∧ rows.length * P.bytesOf e ≤ reachBytes ∧ ∀ r ∈ rows, r.length = P.cellsOf e ∧ ∃ m, n = m + 1 ∧ ReadsZ P w m e r := by
  obtain ⟨H, enc, base, spare, held, x, h, hz⟩ := h
  rcases DataW.trod_slice ht h with ⟨rfl, _⟩ | ⟨a, len, cap, elems, rest, m, rfl, rfl, rfl, hb, hl, hm, hlen, hel, _, _⟩
  · exact ⟨_, [], rfl, ⟨by simp, .inl ⟨⟨_, _, rfl⟩, rfl⟩⟩, Nat.zero_le _, by simp, by simp⟩
  · have hz1 : len * P.bytesOf e ≤ reachBytes := by
      refine Nat.le_trans ?_ (hz ((elems.length + rest.length) * P.bytesOf e) (by simp [DataW.weights, ht]))
      rw [hlen]
      exact Nat.mul_le_mul_right _ (Nat.le_add_right _ _)
    have hz2 : ∀ y ∈ elems, ∀ k ∈ y.1.weights P e, k ≤ reachBytes := fun y hy k hk => hz k (by
      simp only [DataW.weights, ht, List.mem_cons, List.mem_append]
      exact Or.inr (Or.inl (weightsAll_memZ (List.mem_map.2 ⟨y, hy, rfl⟩) _ hk)))
    clear hz
    generalize hcz : P.cellsOf e = c at *
    have each : ∀ i, i < len → ∃ r y, w.cells? base (a.add (i * c)) c = some r ∧ DataW.trod enc P w base spare held m e r = some y ∧ ∀ k ∈ y.1.weights P e, k ≤ reachBytes := by
      intro i hi
      have h1 := hel i hi
      have h2 : i < elems.length := by omega
      rw [List.getElem?_eq_getElem h2, Option.bind_eq_some_iff] at h1
      obtain ⟨r, h3, h4⟩ := h1
      exact ⟨r, _, h3, h4, hz2 _ (List.getElem_mem h2)⟩
    let row := fun i => (w.cells? base (a.add (i * c)) c).getD []
    have hrow : ∀ i, i < len → (row i).length = c ∧ (∃ y, DataW.trod enc P w base spare held m e (row i) = some y ∧ ∀ k ∈ y.1.weights P e, k ≤ reachBytes) ∧ ∀ j, j < c → w.cell? ((a.add (i * c)).add j) = (row i)[j]? := by
      intro i hi
      obtain ⟨r, y, h1, h2⟩ := each i hi
      have e1 : row i = r := by simp [row, h1]
      obtain ⟨_, h3, h4⟩ := World.cells?_some h1
      rw [e1]
      exact ⟨h3, ⟨y, h2⟩, h4⟩
    have hmem : ∀ r ∈ (List.range len).map row, r.length = c ∧ ∃ m', m + 1 = m' + 1 ∧ ReadsZ P w m' e r := by
      intro r hr
      obtain ⟨i, hi, rfl⟩ := List.mem_map.1 hr
      have hi' : i < len := by simpa using hi
      obtain ⟨h1, ⟨y, h2⟩, _⟩ := hrow i hi'
      exact ⟨h1, m, rfl, ⟨H, enc, base, spare, held, y, h2⟩⟩
    refine ⟨_, (List.range len).map row, rfl, ?_, by simp; omega, by simpa using hz1, hmem⟩
    have hfl := flatten_len ((List.range len).map row) (fun r hr => (hmem r hr).1)
    refine ⟨hfl, ?_⟩
    simp only [List.length_map, List.length_range] at hfl ⊢
    by_cases h0 : len = 0
    · left; subst h0; exact ⟨⟨_, _, rfl⟩, rfl⟩
    · right
      obtain ⟨b, off, spot⟩ := a
      have hspot : spot = none := by
        have h1 := (hrow 0 (by omega)).2.2 0 hc
        have h2 := (hrow 0 (by omega)).1
        have h3 : (row 0)[0]? = some ((row 0)[0]'(by omega)) := List.getElem?_eq_getElem _
        rw [h3] at h1
        simpa [Addr.add] using World.cell?_spot h1
      subst hspot
      have key : ∀ j u, ((List.range len).map row).flatten[j]? = some u → w.cell? ⟨b, off + j, none⟩ = some u := by
        intro j u hj
        have hjl : j < len * c := by rw [← hfl]; exact (List.getElem?_eq_some_iff.1 hj).1
        have hmod : j % c < c := Nat.mod_lt _ hc
        have hdiv : j / c < len := Nat.div_lt_of_lt_mul (by rw [Nat.mul_comm]; exact hjl)
        have e1 : j = j / c * c + j % c := by rw [Nat.mul_comm]; exact (Nat.div_add_mod j c).symm
        rw [e1, flatten_get _ (fun r hr => (hmem r hr).1) _ _ hmod] at hj
        simp [hdiv] at hj
        have h1 := (hrow (j / c) hdiv).2.2 (j % c) hmod
        rw [hj, addr_add, addr_add] at h1
        rw [e1, ← Nat.add_assoc]; exact h1
      refine ⟨b, off, cap, rfl, hl, fun hp => ?_, key⟩
      have hp' := List.getElem?_eq_getElem (l := ((List.range len).map row).flatten) (i := 0) hp
      have := key 0 _ hp'
      unfold World.cell? at this
      split at this
      · rename_i hh; exact (Array.getElem?_eq_some_iff.1 hh).1
      · cases this

/-- A slice that comes in. -/
theorem ReadsZ.lstD {α : Type} {f : α → List DV} {Q : α → Prop} {e : TypeId} {sz by' : Nat} (ht : P.underlying t = some (.slice e)) (hsz : P.cellsOf e = sz) (hby : P.bytesOf e = by') (hc : 0 < sz) (h : ReadsZ P w n t cs)
    (hrow : ∀ m r, n = m + 1 → r.length = sz → ReadsZ P w m e r → ∃ x, LRep (FH w) (f x) r ∧ One r ∧ Q x) :
    ∃ (v : Value) (l : List α), cs = [v] ∧ DRep (FH w) (.lst sz (l.map f)) v ∧ l.length ≤ maxLen ∧ l.length * by' ≤ reachBytes ∧ ∀ x ∈ l, Q x := by
  subst hsz
  subst hby
  obtain ⟨v, rows, e1, h1, h2, hz, h3⟩ := h.slice ht hc
  have key : ∀ (rows : List (List Value)), (∀ r ∈ rows, ∃ x, LRep (FH w) (f x) r ∧ One r ∧ r.length = P.cellsOf e ∧ Q x) → ∃ xs : List α, xs.length = rows.length ∧ (∀ (i : Nat) (d : List DV) (r : List Value), (xs.map f)[i]? = some d → rows[i]? = some r → LRep (FH w) d r ∧ One r ∧ d.length = P.cellsOf e) ∧ ∀ x ∈ xs, Q x := by
    intro rows
    induction rows with
    | nil => exact fun _ => ⟨[], rfl, by simp, by simp⟩
    | cons r rows ih =>
      intro h
      obtain ⟨x, q1, q2, q3, q4⟩ := h r (by simp)
      obtain ⟨xs, k1, k2, k3⟩ := ih fun r hr => h r (by simp [hr])
      refine ⟨x :: xs, by simp [k1], fun i d r' e1 e2 => ?_, fun y hy => ?_⟩
      · match i with
        | 0 =>
          simp at e1 e2
          subst e1 e2
          exact ⟨q1, q2, by rw [← q1.lenD]; exact q3⟩
        | i + 1 => exact k2 i d r' (by simpa using e1) (by simpa using e2)
      · rcases List.mem_cons.1 hy with rfl | hy
        · exact q4
        · exact k3 y hy
  obtain ⟨xs, k1, k2, k3⟩ := key rows fun r hr => by
    obtain ⟨h4, m, h5, h6⟩ := h3 r hr
    obtain ⟨x, q1, q2, q3⟩ := hrow m r h5 h4 h6
    exact ⟨x, q1, q2, h4, q3⟩
  exact ⟨v, xs, e1, drep_rd h1 (by simpa using k1) k2, by omega, by rw [k1]; exact hz, k3⟩

/-- Numbers that come in. -/
theorem ReadsZ.ints {e : TypeId} {k : IntKind} {by' : Nat} (ht : P.underlying t = some (.slice e)) (he : P.underlying e = some (.int k)) (hsz : P.cellsOf e = 1) (hby : P.bytesOf e = by') (h : ReadsZ P w n t cs) :
    ∃ (v : Value) (l : List Int), cs = [v] ∧ DRep (FH w) (.lst 1 (l.map fun z => [.v (.int k z)])) v ∧ l.length * by' ≤ reachBytes ∧ ∀ z ∈ l, (Lit.int k z).wf = true := by
  obtain ⟨v, l, e1, r, _, hz, q⟩ := h.lstD (f := fun z : Int => [DV.v (.int k z)]) (Q := fun z => (Lit.int k z).wf = true) ht hsz hby (by decide) fun m r hm hr hrd => by
    obtain ⟨z, rfl, hw⟩ := hrd.int he
    exact ⟨z, ⟨_, _, rfl, ⟨rfl, rfl⟩, rfl⟩, by intro u hu; simp at hu; subst hu; rfl, hw⟩
  exact ⟨v, l, e1, r, hz, q⟩
end

def ReadsAllZ (P : Program) (w : World) : List TypeId → List Value → Prop
  | [], vs => vs = []
  | t :: ts, vs => ∃ v vs', vs = v :: vs' ∧ (∃ n, ReadsZ P w n t v.cells.toList) ∧ ReadsAllZ P w ts vs'

theorem trodAll_readsZ {H : Type} {enc : TypeId × Value → H} {P : Program} {w : World} {base : Nat} {sp : Nat → Bool} {held : Bool} : ∀ {ts : List TypeId} {vs : List Value} {ds : List (DataW H)} {ps : List MemPlace},
    DataW.TrodAll enc P w base sp held ts vs ds ps → (∀ k ∈ DataW.weightsEach P ts ds, k ≤ reachBytes) → ReadsAllZ P w ts vs ∧ ds.length = ts.length
  | [], vs, ds, ps, h, _ => by
    obtain ⟨h1, rfl, rfl⟩ := trodAll_nil h
    exact ⟨show vs = [] by simpa using h1, rfl⟩
  | t :: ts, vs, ds, ps, h, hz => by
    obtain ⟨v, vs', d, ds', p, q, e, rfl, rfl, hd, hr⟩ := trodAll_cons h
    obtain ⟨k1, k2⟩ := trodAll_readsZ hr fun k hk => hz k (by simp only [DataW.weightsEach, List.mem_append]; exact .inr hk)
    obtain ⟨n, hn⟩ := hd
    exact ⟨⟨v, vs', e, ⟨n, _, _, _, _, _, _, hn, fun k hk => hz k (by simp only [DataW.weightsEach, List.mem_append]; exact .inl hk)⟩, k1⟩, by simp [k2]⟩
end Go.Proofs.Ytciciaikajdenaa
