/- Contracts over the separation logic, used in the abstract walk: an owned object that is described by an assertion. -/
import Derived.Test.YtlpgekodoiioaaaAm12
set_option linter.unusedSimpArgs false
set_option linter.unusedVariables false
namespace Go.Proofs.Ytlpgekodoiioaaa
open Go.RowKit

def bare (w : World) : World := { w with heap := #[] }
theorem newPart_bare (w0 w : World) : newPart (bare w0) w = fun b => w.heap[b]? := by funext k; simp [newPart, bare]

/-- All but what is in g. -/
def without (w : World) (g : Frag) : Frag := fun b => match g b with
  | some _ => none
  | none => w.heap[b]?

/-- A memory's view, over a part of memory. -/
structure All (x : Ctx) (σ : List AObj) (R rest : Frag) : Prop where
  hF : Le x.F rest
  hR : Le R rest
  n : x.n = σ.length
  FR : Disj x.F R
  own : ∃ g : Nat → Frag, (∀ l o, σ[l]? = some o → ORep x (x.env l) o (g l)) ∧ (∀ l, Le (g l) rest) ∧
    (∀ l k, l ≠ k → Disj (g l) (g k)) ∧ ∀ l, Disj (g l) x.F ∧ Disj (g l) R

/-- What stays when one object is in other hands. -/
structure Rest (x : Ctx) (σ : List AObj) (R : Frag) (loc : Nat) (rest : Frag) : Prop where
  hF : Le x.F rest
  hR : Le R rest
  n : x.n = σ.length
  FR : Disj x.F R
  own : ∃ g : Nat → Frag, (∀ l o, l ≠ loc → σ[l]? = some o → ORep x (x.env l) o (g l)) ∧ (∀ l, l ≠ loc → Le (g l) rest) ∧
    (∀ l k, l ≠ loc → k ≠ loc → l ≠ k → Disj (g l) (g k)) ∧ ∀ l, l ≠ loc → Disj (g l) x.F ∧ Disj (g l) R

theorem le_without {w : World} {f g : Frag} (h : Le f (fun b => w.heap[b]?)) (d : Disj g f) : Le f (without w g) := by
  intro b o e
  unfold without
  rcases d b with q | q
  · rw [q]; exact h b o e
  · rw [q] at e; cases e

theorem St.whole {w : World} : St (bare w) w [fun f => f = fun b => w.heap[b]?] := by
  refine ⟨rfl, rfl, rfl, Nat.zero_le _, (fun k hk => by simp [bare] at hk), ?_⟩
  rw [newPart_bare]
  exact ⟨_, fun _ => none, rfl, trivial, fun _ => .inr rfl, Le.refl _, (fun b o e => by cases e)⟩

section
variable {x : Ctx} {σ : List AObj} {R rest p q : Frag} {w w' w0 : World} {loc b : Nat} {P P' Q : Nat → HProp}

theorem Heap.all (h : Heap x σ R w) : All x σ R (fun b => w.heap[b]?) := ⟨h.hF, h.hR, h.n, h.FR, h.own⟩
theorem All.heap (h : All x σ R rest) (l : Le rest (fun b => w.heap[b]?)) : Heap x σ R w := by
  obtain ⟨g, g1, g2, g3, g4⟩ := h.own
  exact ⟨h.hF.trans l, h.hR.trans l, h.n, h.FR, g, g1, fun k => (g2 k).trans l, g3, g4⟩

theorem Heap.lend (h : Heap x σ R w) (hl : σ[loc]? = some (.hp P)) : (x.env loc).ver = 0 ∧ ∃ rest, St (bare w) w [P (x.env loc).blk, fun f => f = rest] ∧ Rest x σ R loc rest := by
  obtain ⟨g, g1, g2, g3, g4⟩ := h.own
  obtain ⟨hv, hp⟩ := g1 loc _ hl
  refine ⟨hv, without w (g loc), ⟨rfl, rfl, rfl, Nat.zero_le _, (fun k hk => by simp [bare] at hk), ?_⟩, le_without h.hF (g4 loc).1, le_without h.hR (g4 loc).2, h.n, h.FR, g, fun l o _ => g1 l o, fun l hn => le_without (g2 l) (g3 loc l (Ne.symm hn)), fun l k _ _ => g3 l k, fun l _ => g4 l⟩
  rw [newPart_bare]
  refine ⟨g loc, without w (g loc), hp, ⟨without w (g loc), fun _ => none, rfl, trivial, fun _ => .inr rfl, Le.refl _, (fun b o e => by cases e)⟩, ?_, g2 loc, ?_⟩
  · intro b
    unfold without
    cases hb : g loc b with
    | none => exact .inl rfl
    | some o => exact .inr rfl
  · intro b o e
    unfold without at e
    split at e
    · cases e
    · exact e

theorem getElem?_set_hp {σ : List AObj} {loc l : Nat} {o o' : AObj} (hs : (σ.set loc o')[l]? = some o) (hn : l ≠ loc) : σ[l]? = some o := by
  rwa [List.getElem?_set_ne (Ne.symm hn)] at hs

theorem Rest.all (r : Rest x σ R loc rest) (hv : (x.env loc).ver = 0) (hp : P' (x.env loc).blk p) (d : Disj p rest) : All x (σ.set loc (.hp P')) R (Un p rest) := by
  obtain ⟨g, g1, g2, g3, g4⟩ := r.own
  have h2 := Le.un_right d
  refine ⟨r.hF.trans h2, r.hR.trans h2, by simp [r.n], r.FR, fun l => if l = loc then p else g l, fun l o hs => ?_, fun l => ?_, fun l k hlk => ?_, fun l => ?_⟩
  · by_cases e : l = loc
    · subst e
      (try dsimp only)
      rw [if_pos rfl]
      have : o = .hp P' := by
        by_cases hlt : l < σ.length
        · rw [List.getElem?_set_self hlt] at hs; injection hs with hs; exact hs.symm
        · rw [List.getElem?_eq_none (by simpa using hlt)] at hs; cases hs
      subst this
      exact ⟨hv, hp⟩
    · (try dsimp only)
      rw [if_neg e]
      exact g1 l o e (getElem?_set_hp hs e)
  · (try dsimp only)
    split
    · exact Le.un_left _ _
    · rename_i e; exact (g2 l e).trans h2
  · (try dsimp only)
    split
    · rename_i e
      rw [if_neg (by omega)]
      exact d.le (Le.refl _) (g2 k (by omega))
    · rename_i e
      split
      · exact (d.le (Le.refl _) (g2 l e)).symm
      · rename_i e2; exact g3 l k e e2 hlk
  · (try dsimp only)
    split
    · exact ⟨d.le (Le.refl _) r.hF, d.le (Le.refl _) r.hR⟩
    · rename_i e; exact g4 l e

theorem All.new (h : All x σ R rest) (hq : Q b q) (d : Disj q rest) : All (x.push ⟨b, 0, 0, true⟩) (σ ++ [.hp Q]) R (Un q rest) := by
  obtain ⟨g, g1, g2, g3, g4⟩ := h.own
  have h2 := Le.un_right d
  refine ⟨h.hF.trans h2, h.hR.trans h2, by simp [Ctx.push, h.n], h.FR, fun l => if l = x.n then q else g l, fun l o' hl => ?_, fun l => ?_, fun l k hlk => ?_, fun l => ?_⟩
  · by_cases e : l = x.n
    · subst e
      rw [h.n, List.getElem?_concat_length] at hl
      injection hl with hl
      subst hl
      (try dsimp only)
      rw [if_pos rfl]
      have : (x.push ⟨b, 0, 0, true⟩).env x.n = ⟨b, 0, 0, true⟩ := by simp [Ctx.push]
      rw [this]; exact ⟨rfl, hq⟩
    · have hlt : l < σ.length := by
        have := (List.getElem?_eq_some_iff.1 hl).1
        simp at this
        rw [h.n] at e
        omega
      rw [List.getElem?_append_left hlt] at hl
      (try dsimp only)
      rw [if_neg e]
      have : (x.push ⟨b, 0, 0, true⟩).env l = x.env l := by simp [Ctx.push, e]
      rw [this]
      exact (g1 l o' hl).ext (x.push_ext _)
  · (try dsimp only)
    split
    · exact Le.un_left _ _
    · exact (g2 l).trans h2
  · (try dsimp only)
    split
    · rename_i e
      rw [if_neg (by omega)]
      exact d.le (Le.refl _) (g2 k)
    · (try dsimp only)
      split
      · exact (d.le (Le.refl _) (g2 l)).symm
      · exact g3 l k hlk
  · (try dsimp only)
    split
    · exact ⟨d.le (Le.refl _) h.hF, d.le (Le.refl _) h.hR⟩
    · exact g4 l

theorem All.frz (h : All x σ R rest) (d : Disj q rest) : All (x.frz (Un x.F q)) σ R (Un q rest) := by
  obtain ⟨g, g1, g2, g3, g4⟩ := h.own
  have h2 := Le.un_right d
  refine ⟨Le.un (h.hF.trans h2) (Le.un_left _ _), h.hR.trans h2, h.n, ?_, g, fun l o hl => (g1 l o hl).ext (Ctx.frz_ext (Le.un_left _ _)), fun l => (g2 l).trans h2, g3, fun l => ⟨Disj.un_right (g4 l).1 ((d.le (Le.refl _) (g2 l)).symm), (g4 l).2⟩⟩
  exact (Disj.un_right h.FR.symm ((d.le (Le.refl _) h.hR).symm)).symm

theorem St.two {A : HProp} (s : St (bare w0) w' [A, fun f => f = rest]) : ∃ p, A p ∧ Le p (fun b => w'.heap[b]?) ∧ Le rest (fun b => w'.heap[b]?) ∧ Disj p rest := by
  have := s.sep
  rw [newPart_bare] at this
  obtain ⟨p, q, h1, ⟨q1, q2, h2, _, _, l1, _⟩, d, a, b⟩ := this
  subst h2
  exact ⟨p, h1, a, l1.trans b, d.le (Le.refl _) l1⟩

theorem St.three {A B : HProp} (s : St (bare w0) w' [B, A, fun f => f = rest]) : ∃ q p, B q ∧ A p ∧ Le q (fun b => w'.heap[b]?) ∧ Le p (fun b => w'.heap[b]?) ∧ Le rest (fun b => w'.heap[b]?) ∧ Disj p rest ∧ Disj q (Un p rest) := by
  have := s.sep
  rw [newPart_bare] at this
  obtain ⟨q, s1, h1, ⟨p, s2, h2, ⟨r, _, h3, _, _, l3, _⟩, d2, l1, l2⟩, d, a, b⟩ := this
  subst h3
  exact ⟨q, p, h1, h2, a, l1.trans b, (l3.trans l2).trans b, d2.le (Le.refl _) l3, d.le (Le.refl _) (Le.un l1 (l3.trans l2))⟩

theorem Calm.st {B : Base} {L : List HProp} (c : Calm B w) (s : St (bare w) w' L) : Calm B w' := ⟨s.os.trans c.os, s.tape.trans c.tape, s.output.trans c.output⟩

/-- The object comes back. -/
theorem Rest.back (r : Rest x σ R loc rest) (hv : (x.env loc).ver = 0) (s : St (bare w0) w' [P' (x.env loc).blk, fun f => f = rest]) : Heap x (σ.set loc (.hp P')) R w' := by
  obtain ⟨p, hp, h1, h2, d⟩ := s.two
  exact (r.all hv hp d).heap (Le.un h1 h2)

/-- The object comes back, with a new one. -/
theorem Rest.back_new (r : Rest x σ R loc rest) (hv : (x.env loc).ver = 0) (s : St (bare w0) w' [Q b, P' (x.env loc).blk, fun f => f = rest]) : Heap (x.push ⟨b, 0, 0, true⟩) (σ.set loc (.hp P') ++ [.hp Q]) R w' := by
  obtain ⟨q, p, hq, hp, h0, h1, h2, d, d2⟩ := s.three
  exact ((r.all hv hp d).new hq d2).heap (Le.un h0 (Le.un h1 h2))

/-- The object comes back, with frozen memory. -/
theorem Rest.back_frz {A : HProp} (r : Rest x σ R loc rest) (hv : (x.env loc).ver = 0) (s : St (bare w0) w' [A, P' (x.env loc).blk, fun f => f = rest]) : ∃ q, A q ∧ Disj x.F q ∧ Heap (x.frz (Un x.F q)) (σ.set loc (.hp P')) R w' := by
  obtain ⟨q, p, hq, hp, h0, h1, h2, d, d2⟩ := s.three
  exact ⟨q, hq, (d2.le (Le.refl _) (r.hF.trans (Le.un_right d))).symm, ((r.all hv hp d).frz d2).heap (Le.un h0 (Le.un h1 h2))⟩

/-- A new object. -/
theorem Heap.new_st (h : Heap x σ R w) (s : St (bare w) w' [Q b, fun f => f = fun b => w.heap[b]?]) : Heap (x.push ⟨b, 0, 0, true⟩) (σ ++ [.hp Q]) R w' := by
  obtain ⟨p, hp, h1, h2, d⟩ := s.two
  exact (h.all.new hp d).heap (Le.un h1 h2)

theorem Heap.same_st (h : Heap x σ R w) (s : St (bare w) w' [fun f => f = fun b => w.heap[b]?]) : Heap x σ R w' := by
  have := s.sep
  rw [newPart_bare] at this
  obtain ⟨p, _, h1, _, _, l, _⟩ := this
  subst h1
  exact h.all.heap l

/-- The cells of a frozen row. -/
theorem crep_of {F : Frag} {b : Nat} {cs : Array Value} {T : TypeId} (hb : F b = some (.cells cs T (0, 0))) : ∀ {ds : List DV} {us : List Value} {off : Nat}, LRep F ds us → (∀ u ∈ us, u.oneCell' = true) → (∀ j u, us[j]? = some u → cs[off + j]? = some u) → CRep F ds b off
  | [], _, _, _, _, _ => trivial
  | d :: ds, _, off, ⟨u, us', e, r, q⟩, ho, hc => by
    subst e
    refine ⟨⟨u, ?_, ho u (by simp), r⟩, crep_of hb q (fun u hu => ho u (by simp [hu])) (fun j u hj => ?_)⟩
    · unfold fcell; rw [hb]; exact hc 0 u rfl
    · have := hc (j + 1) u hj
      rwa [show off + 1 + j = off + (j + 1) by omega]

theorem rrep_of {F : Frag} {b sz : Nat} {cs : Array Value} {T : TypeId} (hb : F b = some (.cells cs T (0, 0))) : ∀ {rs : List (List DV)} {us : List Value} {off : Nat}, FRep F sz rs us → (∀ u ∈ us, u.oneCell' = true) → (∀ j u, us[j]? = some u → cs[off + j]? = some u) → RRep F sz rs b off
  | [], _, _, _, _, _ => trivial
  | r :: rs, _, off, ⟨u, us', e, hl, hr, q⟩, ho, hc => by
    subst e
    have hul : u.length = sz := by
      rw [← hl]
      have : ∀ {ds : List DV} {vs : List Value}, LRep F ds vs → vs.length = ds.length := by
        intro ds
        induction ds with
        | nil => intro vs h; rw [h]; rfl
        | cons a l ih => intro vs ⟨y, ys, e, _, k⟩; rw [e]; simp [ih k]
      exact this hr
    refine ⟨hl, crep_of hb hr (fun v hv => ho v (by simp [hv])) (fun j v hj => hc j v ?_), rrep_of hb q (fun v hv => ho v (by simp [hv])) (fun j v hj => ?_)⟩
    · rw [List.getElem?_append_left (List.getElem?_eq_some_iff.1 hj).1]; exact hj
    · have := hc (sz + j) v (by rw [List.getElem?_append_right (by omega), show sz + j - u.length = j by omega]; exact hj)
      rwa [show off + sz + j = off + (sz + j) by omega]

/-- An owned slice, frozen. -/
theorem drep_own {F : Frag} {T : TypeId} {sz n : Nat} {v : Value} {us : List Value} {rs : List (List DV)} (h : ownS T sz v n us F) (hr : ∀ G, FRep G sz rs us) (hn : rs.length = n) (ho : ∀ u ∈ us, u.oneCell' = true) {G : Frag} (l : Le F G) : DRep G (.lst sz rs) v := by
  obtain ⟨h1, ⟨⟨a, e⟩, h0⟩ | ⟨b, cap, rest, e, h2, h3, h4, h5⟩⟩ := h
  · subst e
    have : rs = [] := by cases rs with | nil => rfl | cons _ _ => simp at hn; omega
    subst this
    exact ⟨a, 0, rfl, Nat.le_refl _, .inl rfl⟩
  · subst e
    refine ⟨_, cap, by rw [hn], by omega, .inr ⟨b, 0, rfl, rrep_of (l _ _ h5) (hr G) ho (fun j u hj => ?_)⟩⟩
    simp only [Nat.zero_add]
    rw [List.getElem?_toArray, List.getElem?_append_left (List.getElem?_eq_some_iff.1 hj).1]
    exact hj

/-- What a frozen list reads as. -/
theorem LRep.v_inv {F : Frag} : ∀ {vs us : List Value}, LRep F (vs.map .v) us → us = vs
  | [], _, h => h
  | v :: vs, _, ⟨u, us', e, r, q⟩ => by
    subst e
    obtain ⟨e, _⟩ := r
    rw [e, LRep.v_inv q]

theorem crep_cell {F : Frag} {b : Nat} : ∀ {vs : List Value} {off : Nat}, CRep F (vs.map .v) b off → ∀ j u, vs[j]? = some u → fcell F b (off + j) = some u
  | [], _, _, j, u, h => by simp at h
  | v :: vs, off, ⟨⟨u0, e, _, r⟩, q⟩, 0, u, h => by
    simp at h; subst h
    rw [r.1] at e; exact e
  | v :: vs, off, ⟨_, q⟩, j + 1, u, h => by
    have := crep_cell q j u (by simpa using h)
    rwa [show off + (j + 1) = off + 1 + j by omega]

theorem rrep_cell {F : Frag} {b sz : Nat} : ∀ {rs : List (List Value)} {off : Nat}, RRep F sz (rs.map fun r => r.map .v) b off → (∀ r ∈ rs, r.length = sz) ∧ ∀ j u, rs.flatten[j]? = some u → fcell F b (off + j) = some u
  | [], _, _ => ⟨by simp, fun j u h => by simp at h⟩
  | r :: rs, off, ⟨h1, h2, h3⟩ => by
    simp at h1
    obtain ⟨k1, k2⟩ := rrep_cell h3
    refine ⟨fun a ha => by rcases List.mem_cons.1 ha with rfl | ha; exact h1; exact k1 a ha, fun j u hj => ?_⟩
    simp only [List.flatten_cons] at hj
    by_cases hlt : j < r.length
    · rw [List.getElem?_append_left hlt] at hj
      exact crep_cell h2 j u hj
    · rw [List.getElem?_append_right (by omega)] at hj
      have := k2 _ u hj
      rwa [show off + sz + (j - r.length) = off + j by omega] at this

theorem fcell_at {F : Frag} (l : Le F (fun b => w.heap[b]?)) {b off : Nat} {u : Value} (h : fcell F b off = some u) : b < w.heap.size ∧ w.cell? ⟨b, off, none⟩ = some u := by
  unfold fcell at h
  split at h
  · rename_i cs T z hb
    have hh := l _ _ hb
    refine ⟨(Array.getElem?_eq_some_iff.1 hh).1, ?_⟩
    have hh : w.heap[b]? = some (.cells cs T z) := hh
    simp [World.cell?, hh, h]
  · cases h

/-- A frozen list can be read. -/
theorem rd_of_drep {F : Frag} {sz : Nat} {rs : List (List Value)} {v : Value} (h : DRep F (.lst sz (rs.map fun r => r.map .v)) v) (hsz : ∀ r ∈ rs, r.length = sz) (l : Le F (fun b => w.heap[b]?)) : rd w sz v rs.length rs.flatten := by
  obtain ⟨a, cap, e, hc, h⟩ := h
  simp only [List.length_map] at e hc
  have hfl : rs.flatten.length = rs.length * sz := by
    clear e hc h
    induction rs with
    | nil => simp
    | cons r rs ih => rw [List.flatten_cons, List.length_append, hsz r (by simp), ih (fun a ha => hsz a (by simp [ha])), List.length_cons, Nat.add_mul]; omega
  refine ⟨hfl, ?_⟩
  rcases h with h | ⟨b, off, e2, h⟩
  · simp at h
    subst h
    exact .inl ⟨⟨a, cap, e⟩, rfl⟩
  · subst e2
    obtain ⟨k1, k2⟩ := rrep_cell h
    refine .inr ⟨b, off, cap, e, hc, fun hp => ?_, fun j u hj => (fcell_at l (k2 j u hj)).2⟩
    exact (fcell_at l (k2 0 _ (List.getElem?_eq_getElem hp))).1

theorem frep_rows {G : Frag} {sz : Nat} : ∀ {rs : List (List Value)}, (∀ r ∈ rs, r.length = sz ∧ ∀ u ∈ r, u.oneCell' = true) → FRep G sz (rs.map fun r => r.map .v) rs.flatten
  | [], _ => rfl
  | r :: rs, h => by
    refine ⟨r, rs.flatten, rfl, by simpa using (h r (by simp)).1, ?_, frep_rows fun a ha => h a (by simp [ha])⟩
    have := (h r (by simp)).2
    clear h
    induction r with
    | nil => rfl
    | cons a l ih => exact ⟨a, l, rfl, ⟨rfl, this a (by simp)⟩, ih fun u hu => this u (by simp [hu])⟩
end
end Go.Proofs.Ytlpgekodoiioaaa
