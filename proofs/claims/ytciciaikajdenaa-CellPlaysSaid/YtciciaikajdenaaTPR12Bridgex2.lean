/- Contracts over the separation logic, used in the abstract walk: an owned object that is described by an assertion. -/
import Derived.Test.YtciciaikajdenaaRows
import Derived.KernelRfl
import Derived.Test.YtciciaikajdenaaTPR12Am12
import Derived.Test.YtciciaikajdenaaTPR12Ab
set_option linter.unusedSimpArgs false
set_option linter.unusedVariables false
namespace Go.Proofs.Ytciciaikajdenaa
open Go.RowKit

def bare (w : World) : World := { w with heap := #[] }
theorem newPart_bare (w0 w : World) : newPart (bare w0) w = fun b => w.heap[b]? := by funext k; simp [newPart, bare]

/-- All but what is in g. -/
def without (w : World) (g : Frag) : Frag := fun b => match g b with
  | some _ => none
  | none => w.heap[b]?

/-- A memory's view, over a part of memory. -/
structure All (x : Ctx) (σ : List AObj) (R rest : Frag) : Prop where
  hF : Le x.F rest
  hR : Le R rest
  n : x.n = σ.length
  FR : Disj x.F R
  own : ∃ g : Nat → Frag, (∀ l o, σ[l]? = some o → ORep x (x.env l) o (g l)) ∧ (∀ l, Le (g l) rest) ∧
    (∀ l k, l ≠ k → Disj (g l) (g k)) ∧ ∀ l, Disj (g l) x.F ∧ Disj (g l) R

/-- What stays when one object is in other hands. -/
structure Rest (x : Ctx) (σ : List AObj) (R : Frag) (loc : Nat) (rest : Frag) : Prop where
  hF : Le x.F rest
  hR : Le R rest
  n : x.n = σ.length
  FR : Disj x.F R
  own : ∃ g : Nat → Frag, (∀ l o, l ≠ loc → σ[l]? = some o → ORep x (x.env l) o (g l)) ∧ (∀ l, l ≠ loc → Le (g l) rest) ∧
    (∀ l k, l ≠ loc → k ≠ loc → l ≠ k → Disj (g l) (g k)) ∧ ∀ l, l ≠ loc → Disj (g l) x.F ∧ Disj (g l) R

theorem le_without {w : World} {f g : Frag} (h : Le f (fun b => w.heap[b]?)) (d : Disj g f) : Le f (without w g) := by
  intro b o e
  unfold without
  rcases d b with q | q
  · rw [q]; exact h b o e
  · rw [q] at e; cases e

theorem St.whole {w : World} : St (bare w) w [fun f => f = fun b => w.heap[b]?] := by
  refine ⟨rfl, rfl, rfl, Nat.zero_le _, (fun k hk => by simp [bare] at hk), ?_⟩
  rw [newPart_bare]
  exact ⟨_, fun _ => none, rfl, trivial, fun _ => .inr rfl, Le.refl _, (fun b o e => by cases e)⟩

section
variable {x : Ctx} {σ : List AObj} {R rest p q : Frag} {w w' w0 : World} {loc b : Nat} {P P' Q : Nat → HProp}

theorem Heap.all (h : Heap x σ R w) : All x σ R (fun b => w.heap[b]?) := ⟨h.hF, h.hR, h.n, h.FR, h.own⟩
theorem All.heap (h : All x σ R rest) (l : Le rest (fun b => w.heap[b]?)) : Heap x σ R w := by
  obtain ⟨g, g1, g2, g3, g4⟩ := h.own
  exact ⟨h.hF.trans l, h.hR.trans l, h.n, h.FR, g, g1, fun k => (g2 k).trans l, g3, g4⟩

theorem Heap.lend (h : Heap x σ R w) (hl : σ[loc]? = some (.hp P)) : (x.env loc).ver = 0 ∧ ∃ rest, St (bare w) w [P (x.env loc).blk, fun f => f = rest] ∧ Rest x σ R loc rest := by
  obtain ⟨g, g1, g2, g3, g4⟩ := h.own
  obtain ⟨hv, hp⟩ := g1 loc _ hl
  refine ⟨hv, without w (g loc), ⟨rfl, rfl, rfl, Nat.zero_le _, (fun k hk => by simp [bare] at hk), ?_⟩, le_without h.hF (g4 loc).1, le_without h.hR (g4 loc).2, h.n, h.FR, g, fun l o _ => g1 l o, fun l hn => le_without (g2 l) (g3 loc l (Ne.symm hn)), fun l k _ _ => g3 l k, fun l _ => g4 l⟩
  rw [newPart_bare]
  refine ⟨g loc, without w (g loc), hp, ⟨without w (g loc), fun _ => none, rfl, trivial, fun _ => .inr rfl, Le.refl _, (fun b o e => by cases e)⟩, ?_, g2 loc, ?_⟩
  · intro b
    unfold without
    cases hb : g loc b with
    | none => exact .inl rfl
    | some o => exact .inr rfl
  · intro b o e
    unfold without at e
    split at e
    · cases e
    · exact e

theorem getElem?_set_hp {σ : List AObj} {loc l : Nat} {o o' : AObj} (hs : (σ.set loc o')[l]? = some o) (hn : l ≠ loc) : σ[l]? = some o := by
  rwa [List.getElem?_set_ne (Ne.symm hn)] at hs

theorem Rest.all (r : Rest x σ R loc rest) (hv : (x.env loc).ver = 0) (hp : P' (x.env loc).blk p) (d : Disj p rest) : All x (σ.set loc (.hp P')) R (Un p rest) := by
  obtain ⟨g, g1, g2, g3, g4⟩ := r.own
  have h2 := Le.un_right d
  refine ⟨r.hF.trans h2, r.hR.trans h2, by simp [r.n], r.FR, fun l => if l = loc then p else g l, fun l o hs => ?_, fun l => ?_, fun l k hlk => ?_, fun l => ?_⟩
  · by_cases e : l = loc
    · subst e
      (try dsimp only)
      rw [if_pos rfl]
      have : o = .hp P' := by
        by_cases hlt : l < σ.length
        · rw [List.getElem?_set_self hlt] at hs; injection hs with hs; exact hs.symm
        · rw [List.getElem?_eq_none (by simpa using hlt)] at hs; cases hs
      subst this
      exact ⟨hv, hp⟩
    · (try dsimp only)
      rw [if_neg e]
      exact g1 l o e (getElem?_set_hp hs e)
  · (try dsimp only)
    split
    · exact Le.un_left _ _
    · rename_i e; exact (g2 l e).trans h2
  · (try dsimp only)
    split
    · rename_i e
      rw [if_neg (by omega)]
      exact d.le (Le.refl _) (g2 k (by omega))
    · rename_i e
      split
      · exact (d.le (Le.refl _) (g2 l e)).symm
      · rename_i e2; exact g3 l k e e2 hlk
  · (try dsimp only)
    split
    · exact ⟨d.le (Le.refl _) r.hF, d.le (Le.refl _) r.hR⟩
    · rename_i e; exact g4 l e

theorem All.new (h : All x σ R rest) (hq : Q b q) (d : Disj q rest) : All (x.push ⟨b, 0, 0, true⟩) (σ ++ [.hp Q]) R (Un q rest) := by
  obtain ⟨g, g1, g2, g3, g4⟩ := h.own
  have h2 := Le.un_right d
  refine ⟨h.hF.trans h2, h.hR.trans h2, by simp [Ctx.push, h.n], h.FR, fun l => if l = x.n then q else g l, fun l o' hl => ?_, fun l => ?_, fun l k hlk => ?_, fun l => ?_⟩
  · by_cases e : l = x.n
    · subst e
      rw [h.n, List.getElem?_concat_length] at hl
      injection hl with hl
      subst hl
      (try dsimp only)
      rw [if_pos rfl]
      have : (x.push ⟨b, 0, 0, true⟩).env x.n = ⟨b, 0, 0, true⟩ := by simp [Ctx.push]
      rw [this]; exact ⟨rfl, hq⟩
    · have hlt : l < σ.length := by
        have := (List.getElem?_eq_some_iff.1 hl).1
        simp at this
        rw [h.n] at e
        omega
      rw [List.getElem?_append_left hlt] at hl
      (try dsimp only)
      rw [if_neg e]
      have : (x.push ⟨b, 0, 0, true⟩).env l = x.env l := by simp [Ctx.push, e]
      rw [this]
      exact (g1 l o' hl).ext (x.push_ext _)
  · (try dsimp only)
    split
    · exact Le.un_left _ _
    · exact (g2 l).trans h2
  · (try dsimp only)
    split
    · rename_i e
      rw [if_neg (by omega)]
      exact d.le (Le.refl _) (g2 k)
    · (try dsimp only)
      split
      · exact (d.le (Le.refl _) (g2 l)).symm
      · exact g3 l k hlk
  · (try dsimp only)
    split
    · exact ⟨d.le (Le.refl _) h.hF, d.le (Le.refl _) h.hR⟩
    · exact g4 l

theorem All.frz (h : All x σ R rest) (d : Disj q rest) : All (x.frz (Un x.F q)) σ R (Un q rest) := by
  obtain ⟨g, g1, g2, g3, g4⟩ := h.own
  have h2 := Le.un_right d
  refine ⟨Le.un (h.hF.trans h2) (Le.un_left _ _), h.hR.trans h2, h.n, ?_, g, fun l o hl => (g1 l o hl).ext (Ctx.frz_ext (Le.un_left _ _)), fun l => (g2 l).trans h2, g3, fun l => ⟨Disj.un_right (g4 l).1 ((d.le (Le.refl _) (g2 l)).symm), (g4 l).2⟩⟩
  exact (Disj.un_right h.FR.symm ((d.le (Le.refl _) h.hR).symm)).symm

theorem St.two {A : HProp} (s : St (bare w0) w' [A, fun f => f = rest]) : ∃ p, A p ∧ Le p (fun b => w'.heap[b]?) ∧ Le rest (fun b => w'.heap[b]?) ∧ Disj p rest := by
  have := s.sep
  rw [newPart_bare] at this
  obtain ⟨p, q, h1, ⟨q1, q2, h2, _, _, l1, _⟩, d, a, b⟩ := this
  subst h2
  exact ⟨p, h1, a, l1.trans b, d.le (Le.refl _) l1⟩

theorem St.three {A B : HProp} (s : St (bare w0) w' [B, A, fun f => f = rest]) : ∃ q p, B q ∧ A p ∧ Le q (fun b => w'.heap[b]?) ∧ Le p (fun b => w'.heap[b]?) ∧ Le rest (fun b => w'.heap[b]?) ∧ Disj p rest ∧ Disj q (Un p rest) := by
  have := s.sep
  rw [newPart_bare] at this
  obtain ⟨q, s1, h1, ⟨p, s2, h2, ⟨r, _, h3, _, _, l3, _⟩, d2, l1, l2⟩, d, a, b⟩ := this
  subst h3
  exact ⟨q, p, h1, h2, a, l1.trans b, (l3.trans l2).trans b, d2.le (Le.refl _) l3, d.le (Le.refl _) (Le.un l1 (l3.trans l2))⟩

theorem Calm.st {B : Base} {L : List HProp} (c : Calm B w) (s : St (bare w) w' L) : Calm B w' := ⟨s.os.trans c.os, s.tape.trans c.tape, s.output.trans c.output⟩

/-- The object comes back. -/
theorem Rest.back (r : Rest x σ R loc rest) (hv : (x.env loc).ver = 0) (s : St (bare w0) w' [P' (x.env loc).blk, fun f => f = rest]) : Heap x (σ.set loc (.hp P')) R w' := by
  obtain ⟨p, hp, h1, h2, d⟩ := s.two
  exact (r.all hv hp d).heap (Le.un h1 h2)

/-- The object comes back, with frozen memory. -/
theorem Rest.back_frz {A : HProp} (r : Rest x σ R loc rest) (hv : (x.env loc).ver = 0) (s : St (bare w0) w' [A, P' (x.env loc).blk, fun f => f = rest]) : ∃ q, A q ∧ Disj x.F q ∧ Heap (x.frz (Un x.F q)) (σ.set loc (.hp P')) R w' := by
  obtain ⟨q, p, hq, hp, h0, h1, h2, d, d2⟩ := s.three
  exact ⟨q, hq, (d2.le (Le.refl _) (r.hF.trans (Le.un_right d))).symm, ((r.all hv hp d).frz d2).heap (Le.un h0 (Le.un h1 h2))⟩

/-- A new object. -/
theorem Heap.new_st (h : Heap x σ R w) (s : St (bare w) w' [Q b, fun f => f = fun b => w.heap[b]?]) : Heap (x.push ⟨b, 0, 0, true⟩) (σ ++ [.hp Q]) R w' := by
  obtain ⟨p, hp, h1, h2, d⟩ := s.two
  exact (h.all.new hp d).heap (Le.un h1 h2)

/-- The cells of a frozen row. -/
theorem crep_of {F : Frag} {b : Nat} {cs : Array Value} {T : TypeId} (hb : F b = some (.cells cs T (0, 0))) : ∀ {ds : List DV} {us : List Value} {off : Nat}, LRep F ds us → (∀ u ∈ us, u.oneCell' = true) → (∀ j u, us[j]? = some u → cs[off + j]? = some u) → CRep F ds b off
  | [], _, _, _, _, _ => trivial
  | d :: ds, _, off, ⟨u, us', e, r, q⟩, ho, hc => by
    subst e
    refine ⟨⟨u, ?_, ho u (by simp), r⟩, crep_of hb q (fun u hu => ho u (by simp [hu])) (fun j u hj => ?_)⟩
    · unfold fcell; rw [hb]; exact hc 0 u rfl
    · have := hc (j + 1) u hj
      rwa [show off + 1 + j = off + (j + 1) by omega]

theorem rrep_of {F : Frag} {b sz : Nat} {cs : Array Value} {T : TypeId} (hb : F b = some (.cells cs T (0, 0))) : ∀ {rs : List (List DV)} {us : List Value} {off : Nat}, FRep F sz rs us → (∀ u ∈ us, u.oneCell' = true) → (∀ j u, us[j]? = some u → cs[off + j]? = some u) → RRep F sz rs b off
  | [], _, _, _, _, _ => trivial
  | r :: rs, _, off, ⟨u, us', e, hl, hr, q⟩, ho, hc => by
    subst e
    have hul : u.length = sz := by
      rw [← hl]
      have : ∀ {ds : List DV} {vs : List Value}, LRep F ds vs → vs.length = ds.length := by
        intro ds
        induction ds with
        | nil => intro vs h; rw [h]; rfl
        | cons a l ih => intro vs ⟨y, ys, e, _, k⟩; rw [e]; simp [ih k]
      exact this hr
    refine ⟨hl, crep_of hb hr (fun v hv => ho v (by simp [hv])) (fun j v hj => hc j v ?_), rrep_of hb q (fun v hv => ho v (by simp [hv])) (fun j v hj => ?_)⟩
    · rw [List.getElem?_append_left (List.getElem?_eq_some_iff.1 hj).1]; exact hj
    · have := hc (sz + j) v (by rw [List.getElem?_append_right (by omega), show sz + j - u.length = j by omega]; exact hj)
      rwa [show off + sz + j = off + (sz + j) by omega]

/-- An owned slice, frozen. -/
theorem drep_own {F : Frag} {T : TypeId} {sz n : Nat} {v : Value} {us : List Value} {rs : List (List DV)} (h : ownS T sz v n us F) (hr : ∀ G, FRep G sz rs us) (hn : rs.length = n) (ho : ∀ u ∈ us, u.oneCell' = true) {G : Frag} (l : Le F G) : DRep G (.lst sz rs) v := by
  obtain ⟨h1, ⟨⟨a, e⟩, h0⟩ | ⟨b, cap, rest, e, h2, h3, h4, h5⟩⟩ := h
  · subst e
    have : rs = [] := by cases rs with | nil => rfl | cons _ _ => simp at hn; omega
    subst this
    exact ⟨a, 0, rfl, Nat.le_refl _, .inl rfl⟩
  · subst e
    refine ⟨_, cap, by rw [hn], by omega, .inr ⟨b, 0, rfl, rrep_of (l _ _ h5) (hr G) ho (fun j u hj => ?_)⟩⟩
    simp only [Nat.zero_add]
    rw [List.getElem?_toArray, List.getElem?_append_left (List.getElem?_eq_some_iff.1 hj).1]
    exact hj

theorem crep_cell {F : Frag} {b : Nat} : ∀ {vs : List Value} {off : Nat}, CRep F (vs.map .v) b off → ∀ j u, vs[j]? = some u → fcell F b (off + j) = some u
  | [], _, _, j, u, h => by simp at h
  | v :: vs, off, ⟨⟨u0, e, _, r⟩, q⟩, 0, u, h => by
    simp at h; subst h
    rw [r.1] at e; exact e
  | v :: vs, off, ⟨_, q⟩, j + 1, u, h => by
    have := crep_cell q j u (by simpa using h)
    rwa [show off + (j + 1) = off + 1 + j by omega]

theorem rrep_cell {F : Frag} {b sz : Nat} : ∀ {rs : List (List Value)} {off : Nat}, RRep F sz (rs.map fun r => r.map .v) b off → (∀ r ∈ rs, r.length = sz) ∧ ∀ j u, rs.flatten[j]? = some u → fcell F b (off + j) = some u
  | [], _, _ => ⟨by simp, fun j u h => by simp at h⟩
  | r :: rs, off, ⟨h1, h2, h3⟩ => by
    simp at h1
    obtain ⟨k1, k2⟩ := rrep_cell h3
    refine ⟨fun a ha => by rcases List.mem_cons.1 ha with rfl | ha; exact h1; exact k1 a ha, fun j u hj => ?_⟩
    simp only [List.flatten_cons] at hj
    by_cases hlt : j < r.length
    · rw [List.getElem?_append_left hlt] at hj
      exact crep_cell h2 j u hj
    · rw [List.getElem?_append_right (by omega)] at hj
      have := k2 _ u hj
      rwa [show off + sz + (j - r.length) = off + j by omega] at this

theorem fcell_at {F : Frag} (l : Le F (fun b => w.heap[b]?)) {b off : Nat} {u : Value} (h : fcell F b off = some u) : b < w.heap.size ∧ w.cell? ⟨b, off, none⟩ = some u := by
  unfold fcell at h
  split at h
  · rename_i cs T z hb
    have hh := l _ _ hb
    refine ⟨(Array.getElem?_eq_some_iff.1 hh).1, ?_⟩
    have hh : w.heap[b]? = some (.cells cs T z) := hh
    simp [World.cell?, hh, h]
  · cases h

/-- A frozen list can be read. -/
theorem rd_of_drep {F : Frag} {sz : Nat} {rs : List (List Value)} {v : Value} (h : DRep F (.lst sz (rs.map fun r => r.map .v)) v) (hsz : ∀ r ∈ rs, r.length = sz) (l : Le F (fun b => w.heap[b]?)) : rd w sz v rs.length rs.flatten := by
  obtain ⟨a, cap, e, hc, h⟩ := h
  simp only [List.length_map] at e hc
  have hfl : rs.flatten.length = rs.length * sz := by
    clear e hc h
    induction rs with
    | nil => simp
    | cons r rs ih => rw [List.flatten_cons, List.length_append, hsz r (by simp), ih (fun a ha => hsz a (by simp [ha])), List.length_cons, Nat.add_mul]; omega
  refine ⟨hfl, ?_⟩
  rcases h with h | ⟨b, off, e2, h⟩
  · simp at h
    subst h
    exact .inl ⟨⟨a, cap, e⟩, rfl⟩
  · subst e2
    obtain ⟨k1, k2⟩ := rrep_cell h
    refine .inr ⟨b, off, cap, e, hc, fun hp => ?_, fun j u hj => (fcell_at l (k2 j u hj)).2⟩
    exact (fcell_at l (k2 0 _ (List.getElem?_eq_getElem hp))).1

theorem frep_rows {G : Frag} {sz : Nat} : ∀ {rs : List (List Value)}, (∀ r ∈ rs, r.length = sz ∧ ∀ u ∈ r, u.oneCell' = true) → FRep G sz (rs.map fun r => r.map .v) rs.flatten
  | [], _ => rfl
  | r :: rs, h => by
    refine ⟨r, rs.flatten, rfl, by simpa using (h r (by simp)).1, ?_, frep_rows fun a ha => h a (by simp [ha])⟩
    have := (h r (by simp)).2
    clear h
    induction r with
    | nil => rfl
    | cons a l ih => exact ⟨a, l, rfl, ⟨rfl, this a (by simp)⟩, ih fun u hu => this u (by simp [hu])⟩
end
end Go.Proofs.Ytciciaikajdenaa
/- The tables of this seat's types. Printed by program. -/
set_option linter.unusedVariables false
namespace Go.Proofs.Ytciciaikajdenaa
open Go.RowKit

def tab : Tab where
  ty := [(2, 1, 8, false), (3, 1, 8, false), (4, 1, 1, false), (5, 1, 1, false), (6, 1, 1, false), (7, 4, 24, true),
    (8, 4, 24, true), (9, 1, 16, false), (10, 1, 16, false), (11, 1, 16, false), (12, 1, 8, false), (13, 2, 24, true),
    (14, 2, 24, true), (15, 1, 8, false), (16, 1, 8, false), (17, 1, 8, false), (18, 1, 8, true), (19, 1, 8, true),
    (21, 1, 4, false), (22, 1, 24, false), (25, 1, 8, false), (26, 1, 8, false), (29, 1, 8, false), (32, 1, 24, false),
    (33, 3, 40, true), (34, 3, 40, true), (35, 4, 40, true), (36, 4, 40, true), (37, 15, 152, true), (38, 15, 152, true),
    (51, 1, 24, false), (52, 1, 24, false), (53, 4, 64, true), (54, 4, 64, true), (58, 1, 8, false), (59, 1, 8, false),
    (64, 1, 24, false), (65, 4, 56, true), (66, 4, 56, true), (68, 1, 8, false), (81, 1, 24, false), (83, 14, 160, true),
    (84, 14, 160, true), (86, 1, 24, false), (91, 1, 24, false), (93, 1, 8, false), (107, 1, 24, false), (108, 4, 64, true),
    (109, 4, 64, true), (113, 5, 56, true), (114, 5, 56, true), (116, 1, 8, false), (117, 3, 40, true), (118, 3, 40, true),
    (122, 1, 8, false), (123, 5, 56, true), (124, 5, 56, true), (128, 1, 24, false), (129, 2, 32, true), (130, 2, 32, true),
    (135, 1, 24, false), (136, 4, 96, true), (137, 4, 96, true), (139, 1, 8, false), (143, 1, 8, false), (144, 3, 24, true),
    (145, 3, 24, true), (153, 5, 56, true), (154, 5, 56, true), (155, 1, 24, false), (156, 5, 104, true), (157, 5, 104, true),
    (160, 1, 24, false), (166, 1, 8, false), (168, 2, 16, true), (169, 2, 16, true), (170, 3, 24, true), (171, 3, 24, true),
    (172, 2, 16, true), (173, 2, 16, true), (179, 1, 8, true), (180, 1, 8, true), (185, 0, 0, true), (184, 1, 24, false), (187, 1, 8, false),
    (191, 4, 40, true), (192, 4, 40, true), (196, 1, 4, false), (197, 1, 1, false), (198, 1, 1, false), (200, 1, 8, false),
    (201, 1, 4, false), (202, 1, 4, false)]
  fld := [(7, 0, 0), (7, 1, 1), (7, 2, 2), (7, 3, 3), (8, 0, 0), (8, 1, 1),
    (8, 2, 2), (8, 3, 3), (13, 0, 0), (13, 1, 1), (14, 0, 0), (14, 1, 1),
    (18, 0, 0), (19, 0, 0), (33, 0, 0), (33, 1, 1), (33, 2, 2), (34, 0, 0),
    (34, 1, 1), (34, 2, 2), (35, 0, 0), (35, 1, 1), (35, 2, 2), (35, 3, 3),
    (36, 0, 0), (36, 1, 1), (36, 2, 2), (36, 3, 3), (37, 0, 0), (37, 1, 1),
    (37, 2, 2), (37, 3, 3), (37, 4, 6), (37, 5, 10), (37, 6, 14), (38, 0, 0),
    (38, 1, 1), (38, 2, 2), (38, 3, 3), (38, 4, 6), (38, 5, 10), (38, 6, 14),
    (53, 0, 0), (53, 1, 1), (53, 2, 2), (53, 3, 3), (54, 0, 0), (54, 1, 1),
    (54, 2, 2), (54, 3, 3), (65, 0, 0), (65, 1, 1), (65, 2, 2), (65, 3, 3),
    (66, 0, 0), (66, 1, 1), (66, 2, 2), (66, 3, 3), (83, 0, 0), (83, 1, 1),
    (83, 2, 2), (83, 3, 5), (83, 4, 9), (83, 5, 13), (84, 0, 0), (84, 1, 1),
    (84, 2, 2), (84, 3, 5), (84, 4, 9), (84, 5, 13), (108, 0, 0), (108, 1, 1),
    (108, 2, 2), (108, 3, 3), (109, 0, 0), (109, 1, 1), (109, 2, 2), (109, 3, 3),
    (113, 0, 0), (113, 1, 3), (113, 2, 4), (114, 0, 0), (114, 1, 3), (114, 2, 4),
    (117, 0, 0), (118, 0, 0), (123, 0, 0), (123, 1, 3), (123, 2, 4), (124, 0, 0),
    (124, 1, 3), (124, 2, 4), (129, 0, 0), (129, 1, 1), (130, 0, 0), (130, 1, 1),
    (136, 0, 0), (136, 1, 1), (136, 2, 2), (136, 3, 3), (137, 0, 0), (137, 1, 1),
    (137, 2, 2), (137, 3, 3), (144, 0, 0), (144, 1, 1), (144, 2, 2), (145, 0, 0),
    (145, 1, 1), (145, 2, 2), (153, 0, 0), (153, 1, 1), (153, 2, 2), (153, 3, 3),
    (153, 4, 4), (154, 0, 0), (154, 1, 1), (154, 2, 2), (154, 3, 3), (154, 4, 4),
    (156, 0, 0), (156, 1, 1), (156, 2, 2), (156, 3, 3), (156, 4, 4), (157, 0, 0),
    (157, 1, 1), (157, 2, 2), (157, 3, 3), (157, 4, 4), (168, 0, 0), (168, 1, 1),
    (169, 0, 0), (169, 1, 1), (170, 0, 0), (170, 1, 2), (171, 0, 0), (171, 1, 2),
    (172, 0, 0), (172, 1, 1), (173, 0, 0), (173, 1, 1), (179, 0, 0), (180, 0, 0),
    (191, 0, 0), (191, 1, 1), (191, 2, 2), (191, 3, 3), (192, 0, 0), (192, 1, 1),
    (192, 2, 2), (192, 3, 3)]
  sl := [(22, 38), (32, 36), (51, 114), (52, 3), (64, 66), (81, 84),
    (86, 154), (91, 130), (107, 124), (128, 4), (135, 171), (155, 173),
    (160, 2), (184, 5)]

def tabZ : TabZ where
  zs := [(2, [.int .i64 0]), (3, [.int .i64 0]), (4, [.bool false]), (5, [.int .u8 0]), (6, [.int .u8 0]), (7, [.int .i64 0, .int .i64 0, .bool false, .int .u8 0]),
    (8, [.int .i64 0, .int .i64 0, .bool false, .int .u8 0]), (9, [.string ⟨#[]⟩]), (10, [.string ⟨#[]⟩]), (11, [.string ⟨#[]⟩]), (12, [.int .u64 0]), (13, [.string ⟨#[]⟩, .int .u64 0]),
    (14, [.string ⟨#[]⟩, .int .u64 0]), (15, [.pointer none]), (16, [.pointer none]), (17, [.pointer none]), (18, [.pointer none]), (19, [.pointer none]),
    (21, [.int .i32 0]), (22, [.slice none 0 0]), (25, [.pointer none]), (26, [.int .i64 0]), (29, [.pointer none]), (32, [.slice none 0 0]),
    (33, [.int .u8 0, .int .i64 0, .slice none 0 0]), (34, [.int .u8 0, .int .i64 0, .slice none 0 0]), (35, [.int .u8 0, .int .i64 0, .string ⟨#[]⟩, .int .i64 0]), (36, [.int .u8 0, .int .i64 0, .string ⟨#[]⟩, .int .i64 0]), (37, [.int .i64 0, .int .i64 0, .int .i64 0, .int .u8 0, .int .i64 0, .slice none 0 0, .int .u8 0, .int .i64 0, .string ⟨#[]⟩, .int .i64 0, .int .u8 0, .int .i64 0, .string ⟨#[]⟩, .int .i64 0, .bool false]), (38, [.int .i64 0, .int .i64 0, .int .i64 0, .int .u8 0, .int .i64 0, .slice none 0 0, .int .u8 0, .int .i64 0, .string ⟨#[]⟩, .int .i64 0, .int .u8 0, .int .i64 0, .string ⟨#[]⟩, .int .i64 0, .bool false]),
    (51, [.slice none 0 0]), (52, [.slice none 0 0]), (53, [.int .i64 0, .slice none 0 0, .slice none 0 0, .int .i64 0]), (54, [.int .i64 0, .slice none 0 0, .slice none 0 0, .int .i64 0]), (58, [.map none]), (59, [.map none]),
    (64, [.slice none 0 0]), (65, [.int .u8 0, .int .i64 0, .string ⟨#[]⟩, .slice none 0 0]), (66, [.int .u8 0, .int .i64 0, .string ⟨#[]⟩, .slice none 0 0]), (68, [.pointer none]), (81, [.slice none 0 0]), (83, [.int .i64 0, .int .i64 0, .int .u8 0, .int .i64 0, .slice none 0 0, .int .u8 0, .int .i64 0, .string ⟨#[]⟩, .slice none 0 0, .int .u8 0, .int .i64 0, .string ⟨#[]⟩, .int .i64 0, .bool false]),
    (84, [.int .i64 0, .int .i64 0, .int .u8 0, .int .i64 0, .slice none 0 0, .int .u8 0, .int .i64 0, .string ⟨#[]⟩, .slice none 0 0, .int .u8 0, .int .i64 0, .string ⟨#[]⟩, .int .i64 0, .bool false]), (86, [.slice none 0 0]), (91, [.slice none 0 0]), (93, [.pointer none]), (107, [.slice none 0 0]), (108, [.int .i64 0, .int .i64 0, .slice none 0 0, .slice none 0 0]),
    (109, [.int .i64 0, .int .i64 0, .slice none 0 0, .slice none 0 0]), (113, [.int .u8 0, .int .i64 0, .slice none 0 0, .int .i64 0, .bool false]), (114, [.int .u8 0, .int .i64 0, .slice none 0 0, .int .i64 0, .bool false]), (116, [.pointer none]), (117, [.int .u8 0, .int .i64 0, .slice none 0 0]), (118, [.int .u8 0, .int .i64 0, .slice none 0 0]),
    (122, [.pointer none]), (123, [.int .u8 0, .int .i64 0, .slice none 0 0, .int .i64 0, .bool false]), (124, [.int .u8 0, .int .i64 0, .slice none 0 0, .int .i64 0, .bool false]), (128, [.slice none 0 0]), (129, [.string ⟨#[]⟩, .string ⟨#[]⟩]), (130, [.string ⟨#[]⟩, .string ⟨#[]⟩]),
    (135, [.slice none 0 0]), (136, [.slice none 0 0, .slice none 0 0, .slice none 0 0, .slice none 0 0]), (137, [.slice none 0 0, .slice none 0 0, .slice none 0 0, .slice none 0 0]), (139, [.pointer none]), (143, [.map none]), (144, [.pointer none, .map none, .bool false]),
    (145, [.pointer none, .map none, .bool false]), (153, [.int .u8 0, .int .i64 0, .string ⟨#[]⟩, .string ⟨#[]⟩, .bool false]), (154, [.int .u8 0, .int .i64 0, .string ⟨#[]⟩, .string ⟨#[]⟩, .bool false]), (155, [.slice none 0 0]), (156, [.slice none 0 0, .slice none 0 0, .int .i64 0, .slice none 0 0, .slice none 0 0]), (157, [.slice none 0 0, .slice none 0 0, .int .i64 0, .slice none 0 0, .slice none 0 0]),
    (160, [.slice none 0 0]), (166, [.pointer none]), (168, [.int .i64 0, .int .i64 0]), (169, [.int .i64 0, .int .i64 0]), (170, [.int .i64 0, .int .i64 0, .bool false]), (171, [.int .i64 0, .int .i64 0, .bool false]),
    (172, [.int .i64 0, .int .i64 0]), (173, [.int .i64 0, .int .i64 0]), (179, [.int .i64 0]), (180, [.int .i64 0]), (185, []), (184, [.slice none 0 0]), (187, [.pointer none]),
    (191, [.pointer none, .pointer none, .pointer none, .string ⟨#[]⟩]), (192, [.pointer none, .pointer none, .pointer none, .string ⟨#[]⟩]), (196, [.int .u32 0]), (197, [.int .u8 0]), (198, [.int .u8 0]), (200, [.pointer none]),
    (201, [.int .i32 0]), (202, [.int .i32 0])]
  st := [(7, [(0, 1), (1, 1), (2, 1), (3, 1)], [.int .i64 0, .int .i64 0, .bool false, .int .u8 0]), (8, [(0, 1), (1, 1), (2, 1), (3, 1)], [.int .i64 0, .int .i64 0, .bool false, .int .u8 0]), (13, [(0, 1), (1, 1)], [.string ⟨#[]⟩, .int .u64 0]), (14, [(0, 1), (1, 1)], [.string ⟨#[]⟩, .int .u64 0]), (18, [(0, 1)], [.pointer none]), (19, [(0, 1)], [.pointer none]),
    (33, [(0, 1), (1, 1), (2, 1)], [.int .u8 0, .int .i64 0, .slice none 0 0]), (34, [(0, 1), (1, 1), (2, 1)], [.int .u8 0, .int .i64 0, .slice none 0 0]), (35, [(0, 1), (1, 1), (2, 1), (3, 1)], [.int .u8 0, .int .i64 0, .string ⟨#[]⟩, .int .i64 0]), (36, [(0, 1), (1, 1), (2, 1), (3, 1)], [.int .u8 0, .int .i64 0, .string ⟨#[]⟩, .int .i64 0]), (37, [(0, 1), (1, 1), (2, 1), (3, 3), (6, 4), (10, 4), (14, 1)], [.int .i64 0, .int .i64 0, .int .i64 0, .int .u8 0, .int .i64 0, .slice none 0 0, .int .u8 0, .int .i64 0, .string ⟨#[]⟩, .int .i64 0, .int .u8 0, .int .i64 0, .string ⟨#[]⟩, .int .i64 0, .bool false]), (38, [(0, 1), (1, 1), (2, 1), (3, 3), (6, 4), (10, 4), (14, 1)], [.int .i64 0, .int .i64 0, .int .i64 0, .int .u8 0, .int .i64 0, .slice none 0 0, .int .u8 0, .int .i64 0, .string ⟨#[]⟩, .int .i64 0, .int .u8 0, .int .i64 0, .string ⟨#[]⟩, .int .i64 0, .bool false]),
    (53, [(0, 1), (1, 1), (2, 1), (3, 1)], [.int .i64 0, .slice none 0 0, .slice none 0 0, .int .i64 0]), (54, [(0, 1), (1, 1), (2, 1), (3, 1)], [.int .i64 0, .slice none 0 0, .slice none 0 0, .int .i64 0]), (65, [(0, 1), (1, 1), (2, 1), (3, 1)], [.int .u8 0, .int .i64 0, .string ⟨#[]⟩, .slice none 0 0]), (66, [(0, 1), (1, 1), (2, 1), (3, 1)], [.int .u8 0, .int .i64 0, .string ⟨#[]⟩, .slice none 0 0]), (83, [(0, 1), (1, 1), (2, 3), (5, 4), (9, 4), (13, 1)], [.int .i64 0, .int .i64 0, .int .u8 0, .int .i64 0, .slice none 0 0, .int .u8 0, .int .i64 0, .string ⟨#[]⟩, .slice none 0 0, .int .u8 0, .int .i64 0, .string ⟨#[]⟩, .int .i64 0, .bool false]), (84, [(0, 1), (1, 1), (2, 3), (5, 4), (9, 4), (13, 1)], [.int .i64 0, .int .i64 0, .int .u8 0, .int .i64 0, .slice none 0 0, .int .u8 0, .int .i64 0, .string ⟨#[]⟩, .slice none 0 0, .int .u8 0, .int .i64 0, .string ⟨#[]⟩, .int .i64 0, .bool false]),
    (108, [(0, 1), (1, 1), (2, 1), (3, 1)], [.int .i64 0, .int .i64 0, .slice none 0 0, .slice none 0 0]), (109, [(0, 1), (1, 1), (2, 1), (3, 1)], [.int .i64 0, .int .i64 0, .slice none 0 0, .slice none 0 0]), (113, [(0, 3), (3, 1), (4, 1)], [.int .u8 0, .int .i64 0, .slice none 0 0, .int .i64 0, .bool false]), (114, [(0, 3), (3, 1), (4, 1)], [.int .u8 0, .int .i64 0, .slice none 0 0, .int .i64 0, .bool false]), (117, [(0, 3)], [.int .u8 0, .int .i64 0, .slice none 0 0]), (118, [(0, 3)], [.int .u8 0, .int .i64 0, .slice none 0 0]),
    (123, [(0, 3), (3, 1), (4, 1)], [.int .u8 0, .int .i64 0, .slice none 0 0, .int .i64 0, .bool false]), (124, [(0, 3), (3, 1), (4, 1)], [.int .u8 0, .int .i64 0, .slice none 0 0, .int .i64 0, .bool false]), (129, [(0, 1), (1, 1)], [.string ⟨#[]⟩, .string ⟨#[]⟩]), (130, [(0, 1), (1, 1)], [.string ⟨#[]⟩, .string ⟨#[]⟩]), (136, [(0, 1), (1, 1), (2, 1), (3, 1)], [.slice none 0 0, .slice none 0 0, .slice none 0 0, .slice none 0 0]), (137, [(0, 1), (1, 1), (2, 1), (3, 1)], [.slice none 0 0, .slice none 0 0, .slice none 0 0, .slice none 0 0]),
    (144, [(0, 1), (1, 1), (2, 1)], [.pointer none, .map none, .bool false]), (145, [(0, 1), (1, 1), (2, 1)], [.pointer none, .map none, .bool false]), (153, [(0, 1), (1, 1), (2, 1), (3, 1), (4, 1)], [.int .u8 0, .int .i64 0, .string ⟨#[]⟩, .string ⟨#[]⟩, .bool false]), (154, [(0, 1), (1, 1), (2, 1), (3, 1), (4, 1)], [.int .u8 0, .int .i64 0, .string ⟨#[]⟩, .string ⟨#[]⟩, .bool false]), (156, [(0, 1), (1, 1), (2, 1), (3, 1), (4, 1)], [.slice none 0 0, .slice none 0 0, .int .i64 0, .slice none 0 0, .slice none 0 0]), (157, [(0, 1), (1, 1), (2, 1), (3, 1), (4, 1)], [.slice none 0 0, .slice none 0 0, .int .i64 0, .slice none 0 0, .slice none 0 0]),
    (168, [(0, 1), (1, 1)], [.int .i64 0, .int .i64 0]), (169, [(0, 1), (1, 1)], [.int .i64 0, .int .i64 0]), (170, [(0, 2), (2, 1)], [.int .i64 0, .int .i64 0, .bool false]), (171, [(0, 2), (2, 1)], [.int .i64 0, .int .i64 0, .bool false]), (172, [(0, 1), (1, 1)], [.int .i64 0, .int .i64 0]), (173, [(0, 1), (1, 1)], [.int .i64 0, .int .i64 0]),
    (179, [(0, 1)], [.int .i64 0]), (180, [(0, 1)], [.int .i64 0]), (185, [], []), (191, [(0, 1), (1, 1), (2, 1), (3, 1)], [.pointer none, .pointer none, .pointer none, .string ⟨#[]⟩]), (192, [(0, 1), (1, 1), (2, 1), (3, 1)], [.pointer none, .pointer none, .pointer none, .string ⟨#[]⟩])]

set_option maxRecDepth 100000 in
theorem tab_ok : okTab Try.prog tab = true := by kernel_rfl
set_option maxRecDepth 100000 in
theorem tabZ_ok : okTabZ Try.prog tabZ = true := by kernel_rfl
theorem bool_ok : Try.prog.underlying 4 = some .bool := by kernel_rfl
theorem str_ok : Try.prog.underlying 9 = some .string := by kernel_rfl
theorem mixed_ok : Try.prog.follows .mixedOrders = true := by kernel_rfl
end Go.Proofs.Ytciciaikajdenaa
