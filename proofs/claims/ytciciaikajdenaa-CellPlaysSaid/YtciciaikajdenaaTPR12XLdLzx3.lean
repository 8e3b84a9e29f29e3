/- Ld, Lz: in one. -/
import Derived.SizedLaws
import Derived.Test.YtciciaikajdenaaProg
import Derived.Test.YtciciaikajdenaaTPR12Lb
import Derived.Test.YtciciaikajdenaaTPR12Aa
import Derived.Test.YtciciaikajdenaaTPR12N1x3
import Derived.Test.YtciciaikajdenaaTPR12T25x4
set_option linter.unusedSimpArgs false
set_option linter.unusedVariables false
/- Ld: OpenD, LawD in one. -/
/- Arguments, opened, as frozen data of the abstract walk; and a law's run, closed. -/
namespace Go.Proofs.Ytciciaikajdenaa
open Go.RowKit

/-- The whole memory. -/
def FH (w : World) : Frag := fun b => w.heap[b]?

theorem fcell_FH {w : World} {b off : Nat} {u : Value} (h : w.cell? ⟨b, off, none⟩ = some u) : fcell (FH w) b off = some u := by
  unfold World.cell? at h
  unfold fcell FH
  split at h <;> simp_all

/-- One-cell rows of values. -/
def One (us : List Value) : Prop := ∀ u ∈ us, u.oneCell' = true

theorem crep_cells {w : World} {b : Nat} : ∀ {ds : List DV} {us : List Value} {off : Nat}, LRep (FH w) ds us → One us → (∀ j u, us[j]? = some u → w.cell? ⟨b, off + j, none⟩ = some u) → CRep (FH w) ds b off
  | [], _, _, _, _, _ => trivial
  | d :: ds, _, off, ⟨u, us', e, r, q⟩, ho, hc => by
    subst e
    refine ⟨⟨u, fcell_FH (hc 0 u rfl), ho u (by simp), r⟩, crep_cells q (fun u hu => ho u (by simp [hu])) (fun j u hj => ?_)⟩
    have := hc (j + 1) u hj
    rwa [show off + 1 + j = off + (j + 1) by omega]

theorem LRep.lenD {F : Frag} : ∀ {ds : List DV} {us : List Value}, LRep F ds us → us.length = ds.length
  | [], _, h => by rw [h]; rfl
  | _ :: _, _, ⟨u, us', e, r, q⟩ => by rw [e]; simp [LRep.lenD q]

theorem rrep_cells {w : World} {b sz : Nat} : ∀ {rs : List (List DV)} {rows : List (List Value)} {off : Nat}, rs.length = rows.length → (∀ (i : Nat) (d : List DV) (r : List Value), rs[i]? = some d → rows[i]? = some r → LRep (FH w) d r ∧ One r ∧ d.length = sz) →
    (∀ j u, rows.flatten[j]? = some u → w.cell? ⟨b, off + j, none⟩ = some u) → RRep (FH w) sz rs b off
  | [], _, _, _, _, _ => trivial
  | d :: rs, [], _, h, _, _ => by simp at h
  | d :: rs, r :: rows, off, h, hr, hc => by
    obtain ⟨h1, h2, h3⟩ := hr 0 d r rfl rfl
    have hl := h1.lenD
    refine ⟨h3, crep_cells h1 h2 (fun j u hj => hc j u ?_), rrep_cells (rows := rows) (by simpa using h) (fun i d r e1 e2 => hr (i + 1) d r e1 e2) (fun j u hj => ?_)⟩
    · rw [List.flatten_cons, List.getElem?_append_left (List.getElem?_eq_some_iff.1 hj).1]; exact hj
    · have := hc (r.length + j) u (by rw [List.flatten_cons, List.getElem?_append_right (by omega), show r.length + j - r.length = j by omega]; exact hj)
      rwa [show off + sz + j = off + (r.length + j) by omega]

theorem drep_rd {w : World} {sz : Nat} {v : Value} {rs : List (List DV)} {rows : List (List Value)} (h : rd w sz v rows.length rows.flatten) (hl : rs.length = rows.length) (hr : ∀ (i : Nat) (d : List DV) (r : List Value), rs[i]? = some d → rows[i]? = some r → LRep (FH w) d r ∧ One r ∧ d.length = sz) : DRep (FH w) (.lst sz rs) v := by
  obtain ⟨_, ⟨⟨a, c, e⟩, h0⟩ | ⟨b, off, cap, e, h2, h3, h4⟩⟩ := h
  · have : rs = [] := List.eq_nil_of_length_eq_zero (by omega)
    subst this
    exact ⟨a, c, e, Nat.zero_le _, .inl rfl⟩
  · exact ⟨_, cap, by rw [e, hl], by omega, .inr ⟨b, off, rfl, rrep_cells hl hr h4⟩⟩

section
variable {P : Program} {w : World} {n : Nat} {t : TypeId} {cs : List Value}

/-- A slice that comes in. -/
theorem Reads.lstD {α : Type} {f : α → List DV} {Q : α → Prop} {e : TypeId} {sz : Nat} (ht : P.underlying t = some (.slice e)) (hsz : P.cellsOf e = sz) (hc : 0 < sz) (h : Reads P w n t cs)
    (hrow : ∀ m r, n = m + 1 → r.length = sz → Reads P w m e r → ∃ x, LRep (FH w) (f x) r ∧ One r ∧ Q x) :
    ∃ (v : Value) (l : List α), cs = [v] ∧ DRep (FH w) (.lst sz (l.map f)) v ∧ l.length ≤ maxLen ∧ ∀ x ∈ l, Q x := by
  subst hsz
  obtain ⟨v, rows, e1, h1, h2, h3⟩ := h.slice ht hc
  have key : ∀ (rows : List (List Value)), (∀ r ∈ rows, ∃ x, LRep (FH w) (f x) r ∧ One r ∧ r.length = P.cellsOf e ∧ Q x) → ∃ xs : List α, xs.length = rows.length ∧ (∀ (i : Nat) (d : List DV) (r : List Value), (xs.map f)[i]? = some d → rows[i]? = some r → LRep (FH w) d r ∧ One r ∧ d.length = P.cellsOf e) ∧ ∀ x ∈ xs, Q x := by
    intro rows
    induction rows with
    | nil => exact fun _ => ⟨[], rfl, by simp, by simp⟩
    | cons r rows ih =>
      intro h
      obtain ⟨x, q1, q2, q3, q4⟩ := h r (by simp)
      obtain ⟨xs, k1, k2, k3⟩ := ih fun r hr => h r (by simp [hr])
      refine ⟨x :: xs, by simp [k1], fun i d r' e1 e2 => ?_, fun y hy => ?_⟩
      · match i with
        | 0 =>
          simp at e1 e2
          subst e1 e2
          exact ⟨q1, q2, by rw [← q1.lenD]; exact q3⟩
        | i + 1 => exact k2 i d r' (by simpa using e1) (by simpa using e2)
      · rcases List.mem_cons.1 hy with rfl | hy
        · exact q4
        · exact k3 y hy
  obtain ⟨xs, k1, k2, k3⟩ := key rows fun r hr => by
    obtain ⟨h4, m, h5, h6⟩ := h3 r hr
    obtain ⟨x, q1, q2, q3⟩ := hrow m r h5 h4 h6
    exact ⟨x, q1, q2, h4, q3⟩
  refine ⟨v, xs, e1, drep_rd h1 (by simpa using k1) k2, by omega, k3⟩
end

theorem agree_size {w w' : World} (h : Agree w w') : w.heap.size ≤ w'.heap.size := by
  apply Decidable.byContradiction
  intro hn
  have := h w'.heap.size (by omega)
  rw [Array.getElem?_eq_none (Nat.le_refl _), Array.getElem?_eq_getElem (by omega)] at this
  cases this

/-- A run over data that came in. -/
theorem RunsP.calls {P : Program} {f : FuncId} {args : List DV} {post : DV → Prop} (h : RunsP P f args post) {w : World} {vs : List Value} (ha : LRep (FH w) args vs) :
    Calls P f vs.toArray w fun e w' => ∃ u d F', e = .returned u ∧ DRep F' d u ∧ post d ∧ Below w.heap.size w w' := by
  refine Calls.mono (h.2 ⟨w.os, w.tape, w.output⟩ (FH w) w vs ha (Le.refl _) ⟨rfl, rfl, rfl⟩) fun e w' ⟨u, v, F', h1, h2, h3, h4, h5, h6, h7, h8⟩ => ?_
  exact ⟨u, v, F', h1, h3, h8, h7.os, h7.tape, h7.output, agree_size h5, fun b hb => h5 b hb⟩
theorem RunsP.law {P : Program} {f : FuncId} {args : List DV} (h : RunsP P f args fun v => v = .v (.bool true)) {w : World} {vs : List Value} (ha : LRep (FH w) args vs) :
    Calls P f vs.toArray w fun e w' => e = .returned (.bool true) ∧ Below w.heap.size w w' :=
  (h.calls ha).mono fun e w' ⟨u, d, F', h1, h2, h3, h4⟩ => by
    subst h3
    exact ⟨by rw [h1, h2.1], h4⟩
end Go.Proofs.Ytciciaikajdenaa

/- The arguments of a law, each read. -/
namespace Go.Proofs.Ytciciaikajdenaa
open Go.ChangeShapes Go.WideShapes Go.ChangeAt Go.RowKit

theorem Reads.cell {P : Program} {w : World} {n : Nat} {t : TypeId} {v u : Value} (h : v.cells.toList = [u]) (hu : ∀ cs, v ≠ .agg cs) : v = u := by
  cases v <;> simp_all [Value.cells]
end Go.Proofs.Ytciciaikajdenaa

/- Arguments, opened, with their sizes: each text, each list's bytes is at most what an address reaches. -/
namespace Go.Proofs.Ytciciaikajdenaa
open Go.ChangeShapes Go.WideShapes Go.ChangeAt Go.RowKit

/-- These cells read as something of type t, by so much fuel, of such weights. -/
def ReadsZ (P : Program) (w : World) (n : Nat) (t : TypeId) (cs : List Value) : Prop :=
  ∃ (H : Type) (enc : TypeId × Value → H) (base : Nat) (spare : Nat → Bool) (held : Bool) (x : DataW H × List MemPlace), DataW.trod enc P w base spare held n t cs = some x ∧ ∀ k ∈ x.1.weights P t, k ≤ reachBytes

theorem weightsAll_memZ {H : Type} {P : Program} {e : TypeId} : ∀ {l : List (DataW H)} {d : DataW H}, d ∈ l → ∀ n ∈ d.weights P e, n ∈ DataW.weightsAll P e l
  | d' :: r, d, hd, n, hn => by
    simp only [DataW.weightsAll, List.mem_append]
    rcases List.mem_cons.1 hd with rfl | h
    · exact Or.inl hn
    · exact Or.inr (weightsAll_memZ h n hn)

section
variable {P : Program} {w : World} {n : Nat} {t : TypeId} {cs : List Value}

theorem ReadsZ.reads (h : ReadsZ P w n t cs) : Reads P w n t cs := by
  obtain ⟨H, enc, base, spare, held, x, h, _⟩ := h
  exact ⟨H, enc, base, spare, held, x, h⟩
theorem ReadsZ.bool (ht : P.underlying t = some .bool) (h : ReadsZ P w n t cs) : ∃ b, cs = [.bool b] := h.reads.bool ht
theorem ReadsZ.int {k : IntKind} (ht : P.underlying t = some (.int k)) (h : ReadsZ P w n t cs) : ∃ z, cs = [.int k z] ∧ (Lit.int k z).wf = true := h.reads.int ht

theorem ReadsZ.string (ht : P.underlying t = some .string) (h : ReadsZ P w n t cs) : ∃ s, cs = [.string s] ∧ s.size ≤ reachBytes := by
  obtain ⟨H, enc, base, spare, held, x, h, hz⟩ := h
  obtain ⟨b, e, rfl, f⟩ := DataW.trod_string ht h
  refine ⟨b, e, ?_⟩
  have := hz b.data.toList.length (by simp [DataW.weights])
  rw [Array.length_toList] at this
  exact this

theorem ReadsZ.struct {fs : Array Field} (ht : P.underlying t = some (.struct fs)) (h : ReadsZ P w n t cs) :
    ∃ m, n = m + 1 ∧ cs.length = P.cellsOf t ∧ ∀ (i : Nat) (f : Field), fs[i]? = some f → ReadsZ P w m f.type ((cs.drop f.offset).take (P.cellsOf f.type)) := by
  obtain ⟨H, enc, base, spare, held, x, h, hz⟩ := h
  obtain ⟨xs, m, e, rfl, hl, hx, hf⟩ := DataW.trod_struct ht h
  refine ⟨m, e, hl, fun i f hi => ?_⟩
  have hlt : i < xs.length := by rw [hx]; exact (Array.getElem?_eq_some_iff.1 hi).1
  have := hf i f hi
  rw [List.getElem?_eq_getElem hlt] at this
  refine ⟨H, enc, base, spare, held, _, this, fun k hk => hz k ?_⟩
  simp only [DataW.weights, ht]
  refine DataW.weights_mem_each (j := i) (t := f.type) (d := xs[i].1) ?_ ?_ k hk
  · simp [hi]
  · simp [hlt]

theorem ReadsZ.slice {e : TypeId} (ht : P.underlying t = some (.slice e)) (hc : 0 < P.cellsOf e) (h : ReadsZ P w n t cs) :
    ∃ (v : Value) (rows : List (List Value)), cs = [v] ∧ rd w (P.cellsOf e) v rows.length rows.flatten ∧ rows.length ≤ maxLen ∧ rows.length * P.bytesOf e ≤ reachBytes ∧ ∀ r ∈ rows, r.length = P.cellsOf e ∧ ∃ m, n = m + 1 ∧ ReadsZ P w m e r := by
  obtain ⟨H, enc, base, spare, held, x, h, hz⟩ := h
  rcases DataW.trod_slice ht h with ⟨rfl, _⟩ | ⟨a, len, cap, elems, rest, m, rfl, rfl, rfl, hb, hl, hm, hlen, hel, _, _⟩
  · exact ⟨_, [], rfl, ⟨by simp, .inl ⟨⟨_, _, rfl⟩, rfl⟩⟩, Nat.zero_le _, by simp, by simp⟩
  · have hz1 : len * P.bytesOf e ≤ reachBytes := by
      refine Nat.le_trans ?_ (hz ((elems.length + rest.length) * P.bytesOf e) (by simp [DataW.weights, ht]))
      rw [hlen]
      exact Nat.mul_le_mul_right _ (Nat.le_add_right _ _)
    have hz2 : ∀ y ∈ elems, ∀ k ∈ y.1.weights P e, k ≤ reachBytes := fun y hy k hk => hz k (by
      simp only [DataW.weights, ht, List.mem_cons, List.mem_append]
      exact Or.inr (Or.inl (weightsAll_memZ (List.mem_map.2 ⟨y, hy, rfl⟩) _ hk)))
    clear hz
    generalize hcz : P.cellsOf e = c at *
    have each : ∀ i, i < len → ∃ r y, w.cells? base (a.add (i * c)) c = some r ∧ DataW.trod enc P w base spare held m e r = some y ∧ ∀ k ∈ y.1.weights P e, k ≤ reachBytes := by
      intro i hi
      have h1 := hel i hi
      have h2 : i < elems.length := by omega
      rw [List.getElem?_eq_getElem h2, Option.bind_eq_some_iff] at h1
      obtain ⟨r, h3, h4⟩ := h1
      exact ⟨r, _, h3, h4, hz2 _ (List.getElem_mem h2)⟩
    let row := fun i => (w.cells? base (a.add (i * c)) c).getD []
    have hrow : ∀ i, i < len → (row i).length = c ∧ (∃ y, DataW.trod enc P w base spare held m e (row i) = some y ∧ ∀ k ∈ y.1.weights P e, k ≤ reachBytes) ∧ ∀ j, j < c → w.cell? ((a.add (i * c)).add j) = (row i)[j]? := by
      intro i hi
      obtain ⟨r, y, h1, h2⟩ := each i hi
      have e1 : row i = r := by simp [row, h1]
      obtain ⟨_, h3, h4⟩ := World.cells?_some h1
      rw [e1]
      exact ⟨h3, ⟨y, h2⟩, h4⟩
    have hmem : ∀ r ∈ (List.range len).map row, r.length = c ∧ ∃ m', m + 1 = m' + 1 ∧ ReadsZ P w m' e r := by
      intro r hr
      obtain ⟨i, hi, rfl⟩ := List.mem_map.1 hr
      have hi' : i < len := by simpa using hi
      obtain ⟨h1, ⟨y, h2⟩, _⟩ := hrow i hi'
      exact ⟨h1, m, rfl, ⟨H, enc, base, spare, held, y, h2⟩⟩
    refine ⟨_, (List.range len).map row, rfl, ?_, by simp; omega, by simpa using hz1, hmem⟩
    have hfl := flatten_len ((List.range len).map row) (fun r hr => (hmem r hr).1)
    refine ⟨hfl, ?_⟩
    simp only [List.length_map, List.length_range] at hfl ⊢
    by_cases h0 : len = 0
    · left; subst h0; exact ⟨⟨_, _, rfl⟩, rfl⟩
    · right
      obtain ⟨b, off, spot⟩ := a
      have hspot : spot = none := by
        have h1 := (hrow 0 (by omega)).2.2 0 hc
        have h2 := (hrow 0 (by omega)).1
        have h3 : (row 0)[0]? = some ((row 0)[0]'(by omega)) := List.getElem?_eq_getElem _
        rw [h3] at h1
        simpa [Addr.add] using World.cell?_spot h1
      subst hspot
      have key : ∀ j u, ((List.range len).map row).flatten[j]? = some u → w.cell? ⟨b, off + j, none⟩ = some u := by
        intro j u hj
        have hjl : j < len * c := by rw [← hfl]; exact (List.getElem?_eq_some_iff.1 hj).1
        have hmod : j % c < c := Nat.mod_lt _ hc
        have hdiv : j / c < len := Nat.div_lt_of_lt_mul (by rw [Nat.mul_comm]; exact hjl)
        have e1 : j = j / c * c + j % c := by rw [Nat.mul_comm]; exact (Nat.div_add_mod j c).symm
        rw [e1, flatten_get _ (fun r hr => (hmem r hr).1) _ _ hmod] at hj
        simp [hdiv] at hj
        have h1 := (hrow (j / c) hdiv).2.2 (j % c) hmod
        rw [hj, addr_add, addr_add] at h1
        rw [e1, ← Nat.add_assoc]; exact h1
      refine ⟨b, off, cap, rfl, hl, fun hp => ?_, key⟩
      have hp' := List.getElem?_eq_getElem (l := ((List.range len).map row).flatten) (i := 0) hp
      have := key 0 _ hp'
      unfold World.cell? at this
      split at this
      · rename_i hh; exact (Array.getElem?_eq_some_iff.1 hh).1
      · cases this

/-- A slice that comes in. -/
theorem ReadsZ.lstD {α : Type} {f : α → List DV} {Q : α → Prop} {e : TypeId} {sz by' : Nat} (ht : P.underlying t = some (.slice e)) (hsz : P.cellsOf e = sz) (hby : P.bytesOf e = by') (hc : 0 < sz) (h : ReadsZ P w n t cs)
    (hrow : ∀ m r, n = m + 1 → r.length = sz → ReadsZ P w m e r → ∃ x, LRep (FH w) (f x) r ∧ One r ∧ Q x) :
    ∃ (v : Value) (l : List α), cs = [v] ∧ DRep (FH w) (.lst sz (l.map f)) v ∧ l.length ≤ maxLen ∧ l.length * by' ≤ reachBytes ∧ ∀ x ∈ l, Q x := by
  subst hsz
  subst hby
  obtain ⟨v, rows, e1, h1, h2, hz, h3⟩ := h.slice ht hc
  have key : ∀ (rows : List (List Value)), (∀ r ∈ rows, ∃ x, LRep (FH w) (f x) r ∧ One r ∧ r.length = P.cellsOf e ∧ Q x) → ∃ xs : List α, xs.length = rows.length ∧ (∀ (i : Nat) (d : List DV) (r : List Value), (xs.map f)[i]? = some d → rows[i]? = some r → LRep (FH w) d r ∧ One r ∧ d.length = P.cellsOf e) ∧ ∀ x ∈ xs, Q x := by
    intro rows
    induction rows with
    | nil => exact fun _ => ⟨[], rfl, by simp, by simp⟩
    | cons r rows ih =>
      intro h
      obtain ⟨x, q1, q2, q3, q4⟩ := h r (by simp)
      obtain ⟨xs, k1, k2, k3⟩ := ih fun r hr => h r (by simp [hr])
      refine ⟨x :: xs, by simp [k1], fun i d r' e1 e2 => ?_, fun y hy => ?_⟩
      · match i with
        | 0 =>
          simp at e1 e2
          subst e1 e2
          exact ⟨q1, q2, by rw [← q1.lenD]; exact q3⟩
        | i + 1 => exact k2 i d r' (by simpa using e1) (by simpa using e2)
      · rcases List.mem_cons.1 hy with rfl | hy
        · exact q4
        · exact k3 y hy
  obtain ⟨xs, k1, k2, k3⟩ := key rows fun r hr => by
    obtain ⟨h4, m, h5, h6⟩ := h3 r hr
    obtain ⟨x, q1, q2, q3⟩ := hrow m r h5 h4 h6
    exact ⟨x, q1, q2, h4, q3⟩
  exact ⟨v, xs, e1, drep_rd h1 (by simpa using k1) k2, by omega, by rw [k1]; exact hz, k3⟩

end

def ReadsAllZ (P : Program) (w : World) : List TypeId → List Value → Prop
  | [], vs => vs = []
  | t :: ts, vs => ∃ v vs', vs = v :: vs' ∧ (∃ n, ReadsZ P w n t v.cells.toList) ∧ ReadsAllZ P w ts vs'

theorem trodAll_readsZ {H : Type} {enc : TypeId × Value → H} {P : Program} {w : World} {base : Nat} {sp : Nat → Bool} {held : Bool} : ∀ {ts : List TypeId} {vs : List Value} {ds : List (DataW H)} {ps : List MemPlace},
    DataW.TrodAll enc P w base sp held ts vs ds ps → (∀ k ∈ DataW.weightsEach P ts ds, k ≤ reachBytes) → ReadsAllZ P w ts vs ∧ ds.length = ts.length
  | [], vs, ds, ps, h, _ => by
    obtain ⟨h1, rfl, rfl⟩ := trodAll_nil h
    exact ⟨show vs = [] by simpa using h1, rfl⟩
  | t :: ts, vs, ds, ps, h, hz => by
    obtain ⟨v, vs', d, ds', p, q, e, rfl, rfl, hd, hr⟩ := trodAll_cons h
    obtain ⟨k1, k2⟩ := trodAll_readsZ hr fun k hk => hz k (by simp only [DataW.weightsEach, List.mem_append]; exact .inr hk)
    obtain ⟨n, hn⟩ := hd
    exact ⟨⟨v, vs', e, ⟨n, _, _, _, _, _, _, hn, fun k hk => hz k (by simp only [DataW.weightsEach, List.mem_append]; exact .inl hk)⟩, k1⟩, by simp [k2]⟩
end Go.Proofs.Ytciciaikajdenaa
/- NZ: a value that comes in, opened, with its sizes. -/
set_option linter.unusedSimpArgs false
set_option linter.unusedVariables false
set_option maxRecDepth 100000
namespace Go.Proofs.Ytciciaikajdenaa
open Go.RowKit

theorem valR_mapZ : ∀ l : List Val, valR l = l.map valD
  | [] => rfl
  | p :: l => by simp [valR, valR_mapZ l]
theorem reach_le : reachBytes ≤ 140737488355328 := by decide
theorem u8_wf {z : Int} (h : (Lit.int .u8 z).wf = true) : 0 ≤ z ∧ z ≤ 255 := by
  simp only [Lit.wf, Bool.and_eq_true, decide_eq_true_eq] at h
  exact h
section
variable {w : World}
theorem cz2 : Try.prog.cellsOf 2 = 1 := by kernel_rfl
theorem cz5 : Try.prog.cellsOf 5 = 1 := by kernel_rfl
theorem cz9 : Try.prog.cellsOf 9 = 1 := by kernel_rfl
theorem cz64 : Try.prog.cellsOf 64 = 1 := by kernel_rfl
theorem cz66 : Try.prog.cellsOf 66 = 4 := by kernel_rfl
theorem bz66 : Try.prog.bytesOf 66 = 56 := by kernel_rfl
theorem drep_one {F : Frag} {sz : Nat} {rows : List (List DV)} {v : Value} (h : DRep F (.lst sz rows) v) : v.oneCell' = true := by
  obtain ⟨a, cap, e, _⟩ := h
  subst e
  rfl
theorem reads_valZ : ∀ (n : Nat) {cs : List Value}, ReadsZ Try.prog w n 66 cs → ∃ p : Val, LRep (FH w) (valD p) cs ∧ One cs ∧ p.low := by
  intro n
  induction n using Nat.strongRecOn with
  | ind n ih =>
  intro cs h
  obtain ⟨m, hn, hl, hf⟩ := h.struct Try.underlying66
  rw [cz66] at hl
  match cs, hl with
  | [c0, c1, c2, c3], _ =>
    have h0 := hf 0 _ rfl
    have h1 := hf 1 _ rfl
    have h2 := hf 2 _ rfl
    have h3 := hf 3 _ rfl
    simp only [cz2, cz5, cz9, cz64, List.getElem_toArray, List.getElem_cons_zero, List.getElem_cons_succ, List.drop_succ_cons, List.drop_zero, List.take_succ_cons, List.take_zero] at h0 h1 h2 h3
    obtain ⟨s0, e0, w0⟩ := h0.int Try.underlying5
    obtain ⟨s1, e1, _⟩ := h1.int Try.underlying2
    obtain ⟨s2, e2, z2⟩ := h2.string Try.underlying9
    obtain ⟨v, l, e5, r5, _, z5, q5⟩ := h3.lstD (f := valD) (Q := fun p => p.low) Try.underlying64 cz66 bz66 (by decide) fun m' r hm' hr hrd => ih m' (by omega) hrd
    simp only [List.cons.injEq, and_true] at e0 e1 e2 e5
    subst e0 e1 e2 e5
    rw [← valR_mapZ] at r5
    have hre := reach_le
    refine ⟨.mk s0 s1 s2 l, ⟨_, _, rfl, ⟨rfl, rfl⟩, _, _, rfl, ⟨rfl, rfl⟩, _, _, rfl, ⟨rfl, rfl⟩, _, _, rfl, r5, rfl⟩, ?_, u8_wf w0, by omega, by omega, Val.lowL_of q5⟩
    have ho := drep_one r5
    intro u hu
    simp at hu
    rcases hu with rfl | rfl | rfl | rfl <;> first | rfl | exact ho
end
end Go.Proofs.Ytciciaikajdenaa
/- NZ2: a script of layer 24 that comes in, opened, with its sizes. -/
set_option linter.unusedSimpArgs false
set_option linter.unusedVariables false
set_option maxRecDepth 100000
namespace Go.Proofs.Ytciciaikajdenaa
open Go.RowKit

section
variable {w : World}
theorem cz3 : Try.prog.cellsOf 3 = 1 := by kernel_rfl
theorem cz4 : Try.prog.cellsOf 4 = 1 := by kernel_rfl
theorem cz32 : Try.prog.cellsOf 32 = 1 := by kernel_rfl
theorem cz34 : Try.prog.cellsOf 34 = 3 := by kernel_rfl
theorem cz36 : Try.prog.cellsOf 36 = 4 := by kernel_rfl
theorem cz84 : Try.prog.cellsOf 84 = 14 := by kernel_rfl
theorem bz36 : Try.prog.bytesOf 36 = 40 := by kernel_rfl
theorem bz84 : Try.prog.bytesOf 84 = 160 := by kernel_rfl
theorem reads_wordZ {n : Nat} {cs : List Value} (h : ReadsZ Try.prog w n 36 cs) : ∃ x : AWord, LRep (FH w) (wordD x) cs ∧ One cs := by
  obtain ⟨m, hn, hl, hf⟩ := h.struct Try.underlying36
  rw [cz36] at hl
  match cs, hl with
  | [c0, c1, c2, c3], _ =>
    have h0 := hf 0 _ rfl
    have h1 := hf 1 _ rfl
    have h2 := hf 2 _ rfl
    have h3 := hf 3 _ rfl
    simp only [cz2, cz3, cz5, cz9, List.getElem_toArray, List.getElem_cons_zero, List.getElem_cons_succ, List.drop_succ_cons, List.drop_zero, List.take_succ_cons, List.take_zero] at h0 h1 h2 h3
    obtain ⟨s0, e0, _⟩ := h0.int Try.underlying5
    obtain ⟨s1, e1, _⟩ := h1.int Try.underlying2
    obtain ⟨s2, e2, _⟩ := h2.string Try.underlying9
    obtain ⟨s3, e3, _⟩ := h3.int Try.underlying3
    simp only [List.cons.injEq, and_true] at e0 e1 e2 e3
    subst e0 e1 e2 e3
    refine ⟨⟨s0, s1, s2, s3⟩, ⟨_, _, rfl, ⟨rfl, rfl⟩, _, _, rfl, ⟨rfl, rfl⟩, _, _, rfl, ⟨rfl, rfl⟩, _, _, rfl, ⟨rfl, rfl⟩, rfl⟩, ?_⟩
    intro u hu
    simp at hu
    rcases hu with rfl | rfl | rfl | rfl <;> rfl
theorem reads_cellZ {n : Nat} {cs : List Value} (h : ReadsZ Try.prog w n 34 cs) : ∃ c : ACell, LRep (FH w) (cellD c) cs ∧ One cs ∧ c.ws.length ≤ 140737488355328 := by
  obtain ⟨m, hn, hl, hf⟩ := h.struct Try.underlying34
  rw [cz34] at hl
  match cs, hl with
  | [c0, c1, c2], _ =>
    have h0 := hf 0 _ rfl
    have h1 := hf 1 _ rfl
    have h2 := hf 2 _ rfl
    simp only [cz2, cz3, cz5, cz32, List.getElem_toArray, List.getElem_cons_zero, List.getElem_cons_succ, List.drop_succ_cons, List.drop_zero, List.take_succ_cons, List.take_zero] at h0 h1 h2
    obtain ⟨s0, e0, _⟩ := h0.int Try.underlying5
    obtain ⟨s1, e1, _⟩ := h1.int Try.underlying3
    obtain ⟨v, l, e5, r5, _, z5, q5⟩ := h2.lstD (f := wordD) (Q := fun _ => True) Try.underlying32 cz36 bz36 (by decide) fun m' r hm' hr hrd => by
      obtain ⟨x, k1, k2⟩ := reads_wordZ hrd
      exact ⟨x, k1, k2, trivial⟩
    simp only [List.cons.injEq, and_true] at e0 e1 e5
    subst e0 e1 e5
    have hre := reach_le
    have ho := drep_one r5
    refine ⟨⟨s0, s1, l⟩, ⟨_, _, rfl, ⟨rfl, rfl⟩, _, _, rfl, ⟨rfl, rfl⟩, _, _, rfl, r5, rfl⟩, ?_, by show l.length ≤ _; omega⟩
    intro u hu
    simp at hu
    rcases hu with rfl | rfl | rfl <;> first | rfl | exact ho
theorem lrep_append {F : Frag} : ∀ {a b : List DV} {us vs : List Value}, LRep F a us → LRep F b vs → LRep F (a ++ b) (us ++ vs)
  | [], b, us, vs, h, k => by rw [show us = [] from h]; exact k
  | d :: a, b, us, vs, ⟨u, us', e, r, q⟩, k => by subst e; exact ⟨u, us' ++ vs, rfl, r, lrep_append q k⟩
theorem one_append {us vs : List Value} (h : One us) (k : One vs) : One (us ++ vs) := fun u hu => (List.mem_append.1 hu).elim (h u) (k u)
theorem doD_is (x : ADo) : doD x = ([.v (.int .i64 x.kind), .v (.int .i64 x.n)] ++ cellD x.c) ++ (valD x.v ++ (wordD x.w ++ [.v (.bool x.raw)])) := by
  obtain ⟨k, n, ⟨ck, cn, cw⟩, ⟨vk, vn, vs, vl⟩, ⟨wk, wn, ws, wg⟩, raw⟩ := x
  rfl
theorem reads_doZ {n : Nat} {cs : List Value} (h : ReadsZ Try.prog w n 84 cs) : ∃ x : ADo, LRep (FH w) (doD x) cs ∧ One cs ∧ x.low := by
  obtain ⟨m, hn, hl, hf⟩ := h.struct Try.underlying84
  rw [cz84] at hl
  match cs, hl with
  | [c0, c1, c2, c3, c4, c5, c6, c7, c8, c9, c10, c11, c12, c13], _ =>
    have h0 := hf 0 _ rfl
    have h1 := hf 1 _ rfl
    have h2 := hf 2 _ rfl
    have h3 := hf 3 _ rfl
    have h4 := hf 4 _ rfl
    have h5 := hf 5 _ rfl
    simp only [cz3, cz4, cz34, cz36, cz66, List.getElem_toArray, List.getElem_cons_zero, List.getElem_cons_succ, List.drop_succ_cons, List.drop_zero, List.take_succ_cons, List.take_zero] at h0 h1 h2 h3 h4 h5
    obtain ⟨s0, e0, _⟩ := h0.int Try.underlying3
    obtain ⟨s1, e1, _⟩ := h1.int Try.underlying3
    obtain ⟨c, k2, o2, z2⟩ := reads_cellZ h2
    obtain ⟨p, k3, o3, z3⟩ := reads_valZ _ h3
    obtain ⟨x, k4, o4⟩ := reads_wordZ h4
    obtain ⟨b, e5⟩ := h5.reads.bool Try.underlying4
    simp only [List.cons.injEq, and_true] at e0 e1 e5
    subst e0 e1 e5
    refine ⟨⟨s0, s1, c, p, x, b⟩, ?_, ?_, ⟨z3, z2⟩⟩
    · rw [doD_is]
      have ha : LRep (FH w) [.v (.int .i64 s0), .v (.int .i64 s1)] [.int .i64 s0, .int .i64 s1] := ⟨_, _, rfl, ⟨rfl, rfl⟩, _, _, rfl, ⟨rfl, rfl⟩, rfl⟩
      have hb : LRep (FH w) [.v (.bool b)] [.bool b] := ⟨_, _, rfl, ⟨rfl, rfl⟩, rfl⟩
      exact lrep_append (lrep_append ha k2) (lrep_append k3 (lrep_append k4 hb))
    · exact one_append (us := [.int .i64 s0, .int .i64 s1, c2, c3, c4]) (one_append (us := [.int .i64 s0, .int .i64 s1]) (by intro u hu; simp at hu; rcases hu with rfl | rfl <;> rfl) o2) (one_append o3 (one_append o4 (by intro u hu; simp at hu; subst hu; rfl)))
theorem reads_dosZ {n : Nat} {cs : List Value} (h : ReadsZ Try.prog w n 81 cs) : ∃ (v : Value) (l : List ADo), cs = [v] ∧ DRep (FH w) (.lst 14 (dosR l)) v ∧ l.length ≤ 140737488355328 ∧ ∀ x ∈ l, x.low := by
  obtain ⟨v, l, e, r, _, z, q⟩ := h.lstD (f := doD) (Q := fun p => p.low) Try.underlying81 cz84 bz84 (by decide) fun m' r hm' hr hrd => reads_doZ hrd
  have hre := reach_le
  exact ⟨v, l, e, r, by omega, q⟩
end
end Go.Proofs.Ytciciaikajdenaa
