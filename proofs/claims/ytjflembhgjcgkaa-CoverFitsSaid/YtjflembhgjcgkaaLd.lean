/- Ld: OpenD, LawD in one. -/
import Derived.Test.YtjflembhgjcgkaaLb
import Derived.Test.YtjflembhgjcgkaaAa
set_option linter.unusedSimpArgs false
set_option linter.unusedVariables false
/- Arguments, opened, as frozen data of the abstract walk; and a law's run, closed. -/
namespace Go.Proofs.Ytjflembhgjcgkaa
open Go.RowKit

/-- The whole memory. -/
def FH (w : World) : Frag := fun b => w.heap[b]?

theorem fcell_FH {w : World} {b off : Nat} {u : Value} (h : w.cell? ⟨b, off, none⟩ = some u) : fcell (FH w) b off = some u := by
  unfold World.cell? at h
  unfold fcell FH
  split at h <;> simp_all

/-- One-cell rows of values. -/
def One (us : List Value) : Prop := ∀ u ∈ us, u.oneCell' = true

theorem crep_cells {w : World} {b : Nat} : ∀ {ds : List DV} {us : List Value} {off : Nat}, LRep (FH w) ds us → One us → (∀ j u, us[j]? = some u → w.cell? ⟨b, off + j, none⟩ = some u) → CRep (FH w) ds b off
  | [], _, _, _, _, _ => trivial
  | d :: ds, _, off, ⟨u, us', e, r, q⟩, ho, hc => by
    subst e
    refine ⟨⟨u, fcell_FH (hc 0 u rfl), ho u (by simp), r⟩, crep_cells q (fun u hu => ho u (by simp [hu])) (fun j u hj => ?_)⟩
    have := hc (j + 1) u hj
    rwa [show off + 1 + j = off + (j + 1) by omega]

theorem LRep.lenD {F : Frag} : ∀ {ds : List DV} {us : List Value}, LRep F ds us → us.length = ds.length
  | [], _, h => by rw [h]; rfl
  | _ :: _, _, ⟨u, us', e, r, q⟩ => by rw [e]; simp [LRep.lenD q]

theorem rrep_cells {w : World} {b sz : Nat} : ∀ {rs : List (List DV)} {rows : List (List Value)} {off : Nat}, rs.length = rows.length → (∀ (i : Nat) (d : List DV) (r : List Value), rs[i]? = some d → rows[i]? = some r → LRep (FH w) d r ∧ One r ∧ d.length = sz) →
    (∀ j u, rows.flatten[j]? = some u → w.cell? ⟨b, off + j, none⟩ = some u) → RRep (FH w) sz rs b off
  | [], _, _, _, _, _ => trivial
  | d :: rs, [], _, h, _, _ => by simp at h
  | d :: rs, r :: rows, off, h, hr, hc => by
    obtain ⟨h1, h2, h3⟩ := hr 0 d r rfl rfl
    have hl := h1.lenD
    refine ⟨h3, crep_cells h1 h2 (fun j u hj => hc j u ?_), rrep_cells (rows := rows) (by simpa using h) (fun i d r e1 e2 => hr (i + 1) d r e1 e2) (fun j u hj => ?_)⟩
    · rw [List.flatten_cons, List.getElem?_append_left (List.getElem?_eq_some_iff.1 hj).1]; exact hj
    · have := hc (r.length + j) u (by rw [List.flatten_cons, List.getElem?_append_right (by omega), show r.length + j - r.length = j by omega]; exact hj)
      rwa [show off + sz + j = off + (r.length + j) by omega]

theorem drep_rd {w : World} {sz : Nat} {v : Value} {rs : List (List DV)} {rows : List (List Value)} (h : rd w sz v rows.length rows.flatten) (hl : rs.length = rows.length) (hr : ∀ (i : Nat) (d : List DV) (r : List Value), rs[i]? = some d → rows[i]? = some r → LRep (FH w) d r ∧ One r ∧ d.length = sz) : DRep (FH w) (.lst sz rs) v := by
  obtain ⟨_, ⟨⟨a, c, e⟩, h0⟩ | ⟨b, off, cap, e, h2, h3, h4⟩⟩ := h
  · have : rs = [] := List.eq_nil_of_length_eq_zero (by omega)
    subst this
    exact ⟨a, c, e, Nat.zero_le _, .inl rfl⟩
  · exact ⟨_, cap, by rw [e, hl], by omega, .inr ⟨b, off, rfl, rrep_cells hl hr h4⟩⟩

section
variable {P : Program} {w : World} {n : Nat} {t : TypeId} {cs : List Value}

/-- A slice that comes in. -/
theorem Reads.lstD {α : Type} {f : α → List DV} {Q : α → Prop} {e : TypeId} {sz : Nat} (ht : P.underlying t = some (.slice e)) (hsz : P.cellsOf e = sz) (hc : 0 < sz) (h : Reads P w n t cs)
    (hrow : ∀ m r, n = m + 1 → r.length = sz → Reads P w m e r → ∃ x, LRep (FH w) (f x) r ∧ One r ∧ Q x) :
    ∃ (v : Value) (l : List α), cs = [v] ∧ DRep (FH w) (.lst sz (l.map f)) v ∧ l.length ≤ maxLen ∧ ∀ x ∈ l, Q x := by
  subst hsz
  obtain ⟨v, rows, e1, h1, h2, h3⟩ := h.slice ht hc
  have key : ∀ (rows : List (List Value)), (∀ r ∈ rows, ∃ x, LRep (FH w) (f x) r ∧ One r ∧ r.length = P.cellsOf e ∧ Q x) → ∃ xs : List α, xs.length = rows.length ∧ (∀ (i : Nat) (d : List DV) (r : List Value), (xs.map f)[i]? = some d → rows[i]? = some r → LRep (FH w) d r ∧ One r ∧ d.length = P.cellsOf e) ∧ ∀ x ∈ xs, Q x := by
    intro rows
    induction rows with
    | nil => exact fun _ => ⟨[], rfl, by simp, by simp⟩
    | cons r rows ih =>
      intro h
      obtain ⟨x, q1, q2, q3, q4⟩ := h r (by simp)
      obtain ⟨xs, k1, k2, k3⟩ := ih fun r hr => h r (by simp [hr])
      refine ⟨x :: xs, by simp [k1], fun i d r' e1 e2 => ?_, fun y hy => ?_⟩
      · match i with
        | 0 =>
          simp at e1 e2
          subst e1 e2
          exact ⟨q1, q2, by rw [← q1.lenD]; exact q3⟩
        | i + 1 => exact k2 i d r' (by simpa using e1) (by simpa using e2)
      · rcases List.mem_cons.1 hy with rfl | hy
        · exact q4
        · exact k3 y hy
  obtain ⟨xs, k1, k2, k3⟩ := key rows fun r hr => by
    obtain ⟨h4, m, h5, h6⟩ := h3 r hr
    obtain ⟨x, q1, q2, q3⟩ := hrow m r h5 h4 h6
    exact ⟨x, q1, q2, h4, q3⟩
  refine ⟨v, xs, e1, drep_rd h1 (by simpa using k1) k2, by omega, k3⟩
end

theorem agree_size {w w' : World} (h : Agree w w') : w.heap.size ≤ w'.heap.size := by
  apply Decidable.byContradiction
  intro hn
  have := h w'.heap.size (by omega)
  rw [Array.getElem?_eq_none (Nat.le_refl _), Array.getElem?_eq_getElem (by omega)] at this
  cases this

/-- A run over data that came in. -/
theorem RunsP.calls {P : Program} {f : FuncId} {args : List DV} {post : DV → Prop} (h : RunsP P f args post) {w : World} {vs : List Value} (ha : LRep (FH w) args vs) :
    Calls P f vs.toArray w fun e w' => ∃ u d F', e = .returned u ∧ DRep F' d u ∧ post d ∧ Below w.heap.size w w' := by
  refine Calls.mono (h.2 ⟨w.os, w.tape, w.output⟩ (FH w) w vs ha (Le.refl _) ⟨rfl, rfl, rfl⟩) fun e w' ⟨u, v, F', h1, h2, h3, h4, h5, h6, h7, h8⟩ => ?_
  exact ⟨u, v, F', h1, h3, h8, h7.os, h7.tape, h7.output, agree_size h5, fun b hb => h5 b hb⟩
theorem RunsP.law {P : Program} {f : FuncId} {args : List DV} (h : RunsP P f args fun v => v = .v (.bool true)) {w : World} {vs : List Value} (ha : LRep (FH w) args vs) :
    Calls P f vs.toArray w fun e w' => e = .returned (.bool true) ∧ Below w.heap.size w w' :=
  (h.calls ha).mono fun e w' ⟨u, d, F', h1, h2, h3, h4⟩ => by
    subst h3
    exact ⟨by rw [h1, h2.1], h4⟩
end Go.Proofs.Ytjflembhgjcgkaa

/- The arguments of a law, each read. -/
namespace Go.Proofs.Ytjflembhgjcgkaa
open Go.ChangeShapes Go.WideShapes Go.ChangeAt Go.RowKit

def ReadsAll (P : Program) (w : World) : List TypeId → List Value → Prop
  | [], vs => vs = []
  | t :: ts, vs => ∃ v vs', vs = v :: vs' ∧ (∃ n, Reads P w n t v.cells.toList) ∧ ReadsAll P w ts vs'

theorem trodAll_reads {H : Type} {enc : TypeId × Value → H} {P : Program} {w : World} {base : Nat} {sp : Nat → Bool} {held : Bool} : ∀ {ts : List TypeId} {vs : List Value} {ds : List (DataW H)} {ps : List MemPlace},
    DataW.TrodAll enc P w base sp held ts vs ds ps → ReadsAll P w ts vs ∧ ds.length = ts.length
  | [], vs, ds, ps, h => by
    obtain ⟨h1, rfl, rfl⟩ := trodAll_nil h
    exact ⟨show vs = [] by simpa using h1, rfl⟩
  | t :: ts, vs, ds, ps, h => by
    obtain ⟨v, vs', d, ds', p, q, e, rfl, rfl, hd, hr⟩ := trodAll_cons h
    obtain ⟨k1, k2⟩ := trodAll_reads hr
    obtain ⟨n, hn⟩ := hd
    exact ⟨⟨v, vs', e, ⟨n, Reads.mk hn⟩, k1⟩, by simp [k2]⟩

theorem Reads.cell {P : Program} {w : World} {n : Nat} {t : TypeId} {v u : Value} (h : v.cells.toList = [u]) (hu : ∀ cs, v ≠ .agg cs) : v = u := by
  cases v <;> simp_all [Value.cells]
end Go.Proofs.Ytjflembhgjcgkaa
