/- M14: what useful says, by values. No program in sight (but for lemmas that stand in C22). -/
import Derived.Test.YtjflembhgjcgkaaTP10M13
import Derived.Test.YtjflembhgjcgkaaTP10C22
set_option linter.unusedSimpArgs false
set_option linter.unusedVariables false
namespace Go.Proofs.Ytjflembhgjcgkaa
open Go.RowKit

/-! Heads. -/
theorem asks_iff {p : Pat} {h : Head} : asksH p = some h ↔ (p.kind = 3 ∧ h = ⟨3, 0, p.i, ⟨#[]⟩⟩) ∨ (p.kind = 4 ∧ h = ⟨4, 0, 0, p.s⟩) ∨ (p.kind = 5 ∧ h = ⟨5, p.n, 0, ⟨#[]⟩⟩) := by
  obtain ⟨k, n, i, s, a, b, c, l⟩ := p
  simp only [asksH, Pat.kind, Pat.n, Pat.i, Pat.s]
  by_cases h3 : k = 3
  · rw [if_pos h3]
    constructor
    · intro e; injection e with e; exact .inl ⟨h3, e.symm⟩
    · rintro (⟨_, rfl⟩ | ⟨h, _⟩ | ⟨h, _⟩)
      · rfl
      · omega
      · omega
  · rw [if_neg h3]
    by_cases h4 : k = 4
    · rw [if_pos h4]
      constructor
      · intro e; injection e with e; exact .inr (.inl ⟨h4, e.symm⟩)
      · rintro (⟨h, _⟩ | ⟨_, rfl⟩ | ⟨h, _⟩)
        · omega
        · rfl
        · omega
    · rw [if_neg h4]
      by_cases h5 : k = 5
      · rw [if_pos h5]
        constructor
        · intro e; injection e with e; exact .inr (.inr ⟨h5, e.symm⟩)
        · rintro (⟨h, _⟩ | ⟨h, _⟩ | ⟨_, rfl⟩)
          · omega
          · omega
          · rfl
      · rw [if_neg h5]
        constructor
        · intro e; cases e
        · rintro (⟨h, _⟩ | ⟨h, _⟩ | ⟨h, _⟩) <;> omega
section
variable {g : Sg} {h : Head} {p0 : Pat} {w : Val}
theorem anys_len (n : Nat) : (anysL n).length = n := by simp [anysL]

end

/-! Rows, and a vector, that go together column by column. -/
structure MOk (g : Sg) (rows : List (List Pat)) (v : List Pat) : Prop where
  len : ∀ r ∈ v :: rows, r.length = v.length
  wf : ∀ r ∈ v :: rows, ∀ p ∈ r, Wf g p
  two : ∀ r ∈ v :: rows, ∀ r' ∈ v :: rows, twoPL g r r'
section
variable {g : Sg} {h : Head} {p0 : Pat} {rows : List (List Pat)} {v0 : Pat} {vs v' : List Pat}
theorem MOk.cons (m : MOk g rows (v0 :: vs)) : ∀ r ∈ (v0 :: vs) :: rows, ∃ p rest, r = p :: rest ∧ rest.length = vs.length ∧ Wf g p := fun r hr => by
  have h1 := m.len r hr
  cases r with
  | nil => simp at h1
  | cons p rest => exact ⟨p, rest, rfl, by simpa using h1, m.wf _ hr p (List.mem_cons_self ..)⟩
theorem below_mem {n : Nat} {q : List Pat} : q ∈ belowL rows h n ↔ ∃ r ∈ rows, belowR h n r = some q := by unfold belowL; rw [List.mem_filterMap]
theorem below_mem' {n : Nat} {q : List Pat} (hv : belowR h n (v0 :: vs) = some v') (hq : q ∈ v' :: belowL rows h n) : ∃ r ∈ (v0 :: vs) :: rows, belowR h n r = some q := by
  rcases List.mem_cons.1 hq with rfl | hq
  · exact ⟨_, List.mem_cons_self .., hv⟩
  · obtain ⟨r, hr, e⟩ := below_mem.1 hq
    exact ⟨r, List.mem_cons_of_mem _ hr, e⟩
theorem below_split {p : Pat} {rest q : List Pat} (hp : Wf g p) (hb : belowR h (arityH g h) (p :: rest) = some q) : ∃ x, q = x ++ rest ∧ x.length = arityH g h ∧ ((asksH p = none ∧ x = anysL (arityH g h)) ∨ (asksH p = some h ∧ x = p.l)) := by
  simp only [belowR] at hb
  cases ha : asksH p with
  | none =>
    rw [ha] at hb
    injection hb with hb
    exact ⟨_, hb.symm, anys_len _, .inl ⟨rfl, rfl⟩⟩
  | some h' =>
    rw [ha] at hb
    simp only at hb
    split at hb
    · rename_i e
      injection hb with hb
      subst e
      exact ⟨_, hb.symm, wf_len ha hp, .inr ⟨rfl, rfl⟩⟩
    · cases hb
theorem heads_two {p q : Pat} (ht : twoP g p q) (hp : Wf g p) (hq : Wf g q) (ha : asksH p = some h) (hb : asksH q = some h) : twoPL g p.l q.l := by
  rcases asks_iff.1 ha with ⟨e, rfl⟩ | ⟨e, rfl⟩ | ⟨e, rfl⟩
  · rw [alone_leaf hp.alone (by omega)]; cases q.l <;> exact trivial
  · rw [alone_leaf hp.alone (by omega)]; cases q.l <;> exact trivial
  · rcases asks_iff.1 hb with ⟨_, x⟩ | ⟨_, x⟩ | ⟨e', x⟩
    · injection x with x; omega
    · injection x with x; omega
    · injection x with _ x; exact (twoP_def.1 ht).2 e e' x
theorem MOk.below (m : MOk g rows (v0 :: vs)) (hv : belowR h (arityH g h) (v0 :: vs) = some v') : MOk g (belowL rows h (arityH g h)) v' := by
  have key : ∀ q ∈ v' :: belowL rows h (arityH g h), ∃ p rest x, p :: rest ∈ (v0 :: vs) :: rows ∧ Wf g p ∧ rest.length = vs.length ∧ q = x ++ rest ∧ x.length = arityH g h ∧ ((asksH p = none ∧ x = anysL (arityH g h)) ∨ (asksH p = some h ∧ x = p.l)) := fun q hq => by
    obtain ⟨r, hr, e⟩ := below_mem' hv hq
    obtain ⟨p, rest, rfl, h1, h2⟩ := m.cons r hr
    obtain ⟨x, h3, h4, h5⟩ := below_split h2 e
    exact ⟨p, rest, x, hr, h2, h1, h3, h4, h5⟩
  obtain ⟨_, _, xv, _, _, hlv, hv', hxv, _⟩ := key v' (List.mem_cons_self ..)
  refine ⟨fun q hq => ?_, fun q hq z hz => ?_, fun q hq q' hq' => ?_⟩
  · obtain ⟨p, rest, x, _, _, h1, rfl, h2, _⟩ := key q hq
    rw [hv', List.length_append, List.length_append, h1, h2, hxv, hlv]
  · obtain ⟨p, rest, x, hr, hp, h1, rfl, h2, h3⟩ := key q hq
    rcases List.mem_append.1 hz with hz | hz
    · rcases h3 with ⟨_, rfl⟩ | ⟨_, rfl⟩
      · rw [anys_mem hz]; exact wf_any g
      · exact hp.kids z hz
    · exact m.wf _ hr z (List.mem_cons_of_mem _ hz)
  · obtain ⟨p, rest, x, hr, hp, h1, rfl, h2, h3⟩ := key q hq
    obtain ⟨p', rest', x', hr', hp', h1', rfl, h2', h3'⟩ := key q' hq'
    have ht : twoP g p p' ∧ twoPL g rest rest' := m.two _ hr _ hr'
    refine (twoPL_append (by rw [h2, h2'])).2 ⟨?_, ht.2⟩
    rcases h3 with ⟨_, rfl⟩ | ⟨ha, rfl⟩
    · exact twoPL_anys _ _
    · rcases h3' with ⟨_, rfl⟩ | ⟨hb, rfl⟩
      · exact twoPL_anys' _ _
      · exact heads_two ht.1 hp hp' ha hb
end

/-! Heads that are not there. -/
section
variable {g : Sg} {rows : List (List Pat)} {v0 : Pat} {vs : List Pat}
theorem cons_data (hsv : Serves g) {x : Int} {c : ConT} (hx : g.con x = some c) : ∃ d, g.dat c.data = some d ∧ x ∈ d.cons := by
  obtain ⟨m, rfl, hm⟩ := con_nat hx
  exact hsv.con m c hm
theorem con_some {n : Int} (h0 : 0 ≤ n) (h1 : n < g.cons.length) : ∃ c, g.con n = some c := by
  obtain ⟨m, rfl⟩ : ∃ m : Nat, n = m := ⟨n.toNat, by omega⟩
  obtain ⟨c, hc⟩ := getS (l := g.cons) (k := m) (by omega)
  exact ⟨c, con_of hc⟩
theorem con_range {n : Int} {c : ConT} (h : g.con n = some c) : 0 ≤ n ∧ n < g.cons.length := by
  obtain ⟨m, rfl, hm⟩ := con_nat h
  have := (List.getElem?_eq_some_iff.1 hm).1
  omega
/-- A constructor is one of its data type's; and those are its like. -/
theorem consOf_mem (hsv : Serves g) {n : Int} (h0 : 0 ≤ n) (h1 : n < g.cons.length) {x : Int} : x ∈ g.consOf (g.dataOf n) ↔ 0 ≤ x ∧ x < g.cons.length ∧ g.dataOf x = g.dataOf n := by
  obtain ⟨c, hc⟩ := con_some h0 h1
  obtain ⟨d, hd, _⟩ := cons_data hsv hc
  have e1 : g.dataOf n = c.data := by unfold Sg.dataOf; rw [hc]
  have e2 : g.consOf (g.dataOf n) = d.cons := by rw [e1]; unfold Sg.consOf; rw [hd]
  rw [e2, e1]
  constructor
  · intro hx
    obtain ⟨m, hm, hd'⟩ := dat_nat hd
    obtain ⟨c', hc', e⟩ := hsv.dat m d hd' x hx
    obtain ⟨h2, h3⟩ := con_range hc'
    refine ⟨h2, h3, ?_⟩
    unfold Sg.dataOf
    rw [hc']
    exact e.trans hm.symm
  · rintro ⟨h2, h3, e⟩
    obtain ⟨c', hc'⟩ := con_some h2 h3
    obtain ⟨d', hd', hx⟩ := cons_data hsv hc'
    unfold Sg.dataOf at e
    rw [hc'] at e
    simp only at e
    rw [e, hd] at hd'
    injection hd' with hd'
    subst hd'
    exact hx

end

end Go.Proofs.Ytjflembhgjcgkaa
