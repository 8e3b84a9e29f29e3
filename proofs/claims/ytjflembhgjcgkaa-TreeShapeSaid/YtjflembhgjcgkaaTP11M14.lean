/- M14: what useful says, by values. No program in sight (but for lemmas that stand in C22). -/
import Derived.Test.YtjflembhgjcgkaaTP11M13
import Derived.Test.YtjflembhgjcgkaaTP11C22
set_option linter.unusedSimpArgs false
set_option linter.unusedVariables false
namespace Go.Proofs.Ytjflembhgjcgkaa
open Go.RowKit

def colL (R : List (List Pat)) (j : Nat) : List Pat := R.filterMap fun r => r[j]?
theorem col_mem {R : List (List Pat)} {j : Nat} {p : Pat} : p ∈ colL R j ↔ ∃ r ∈ R, r[j]? = some p := by
  unfold colL; rw [List.mem_filterMap]
theorem col_all2 {g : Sg} {R : List (List Pat)} (wf : ∀ r ∈ R, ∀ p ∈ r, Wf g p) (two : ∀ r ∈ R, ∀ r' ∈ R, twoPL g r r') (j : Nat) : All2 g (colL R j) := by
  refine ⟨fun p hp => ?_, fun p hp q hq => ?_⟩
  · obtain ⟨r, hr, e⟩ := col_mem.1 hp
    exact wf r hr p (List.mem_of_getElem? e)
  · obtain ⟨r, hr, e⟩ := col_mem.1 hp
    obtain ⟨r', hr', e'⟩ := col_mem.1 hq
    exact twoPL_iff.1 (two r hr r' hr') j p q e e'
theorem fitsL_same {l : List Pat} {a b : List Val} (hl : a.length = b.length) (h : ∀ (j : Nat) (p : Pat) (x y : Val), l[j]? = some p → a[j]? = some x → b[j]? = some y → fitsB p x = fitsB p y) : fitsL l a = fitsL l b := by
  rw [Bool.eq_iff_iff, fitsL_iff, fitsL_iff]
  constructor
  · intro hf j p y e1 e2
    obtain ⟨x, hx⟩ := getS (l := a) (k := j) (by rw [hl]; exact (List.getElem?_eq_some_iff.1 e2).1)
    rw [← h j p x y e1 hx e2]
    exact hf j p x e1 hx
  · intro hf j p x e1 e2
    obtain ⟨y, hy⟩ := getS (l := b) (k := j) (by rw [← hl]; exact (List.getElem?_eq_some_iff.1 e2).1)
    rw [h j p x y e1 e2 hy]
    exact hf j p y e1 hy
/-- Values that go with some rows are made such as go with more. -/
theorem retypeL {g : Sg} {n : Nat} {R' R : List (List Pat)} (sub : ∀ r ∈ R', r ∈ R) (wf : ∀ r ∈ R, ∀ p ∈ r, Wf g p) (two : ∀ r ∈ R, ∀ r' ∈ R, twoPL g r r') {ws : List Val} (hl : ws.length = n) (hg : ∀ r ∈ R', goesL g r ws) :
    ∃ ws' : List Val, ws'.length = n ∧ (∀ r ∈ R, goesL g r ws') ∧ ∀ r ∈ R', fitsL r ws' = fitsL r ws := by
  obtain ⟨vl, h1, h2⟩ := choose_list (P := fun k w => ∃ u, ws[k]? = some u ∧ (∀ p ∈ colL R k, goesP g p w) ∧ ∀ p ∈ colL R' k, fitsB p w = fitsB p u) n fun k hk => by
    obtain ⟨u, hu⟩ := getS (l := ws) (k := k) (by omega)
    obtain ⟨w, h1, h2⟩ := retype _ (colL R k) (colL R' k) (Nat.le_refl _) (col_all2 wf two k) (fun p hp => by
      obtain ⟨r, hr, e⟩ := col_mem.1 hp
      exact col_mem.2 ⟨r, sub r hr, e⟩) u fun p hp => by
        obtain ⟨r, hr, e⟩ := col_mem.1 hp
        exact goesL_iff.1 (hg r hr) k p u e hu
    exact ⟨w, u, hu, h1, h2⟩
  refine ⟨vl, h1, fun r hr => goesL_iff.2 fun j p w e1 e2 => ?_, fun r hr => fitsL_same (by omega) fun j p x y e1 e2 e3 => ?_⟩
  · obtain ⟨u, _, h3, _⟩ := h2 j w e2
    exact h3 p (col_mem.2 ⟨r, hr, e1⟩)
  · obtain ⟨u, hu, _, h4⟩ := h2 j x e2
    rw [e3] at hu
    injection hu with hu
    subst hu
    exact h4 p (col_mem.2 ⟨r, hr, e1⟩)

/-! Heads. -/
theorem asks_iff {p : Pat} {h : Head} : asksH p = some h ↔ (p.kind = 3 ∧ h = ⟨3, 0, p.i, ⟨#[]⟩⟩) ∨ (p.kind = 4 ∧ h = ⟨4, 0, 0, p.s⟩) ∨ (p.kind = 5 ∧ h = ⟨5, p.n, 0, ⟨#[]⟩⟩) := by
  obtain ⟨k, n, i, s, a, b, c, l⟩ := p
  simp only [asksH, Pat.kind, Pat.n, Pat.i, Pat.s]
  by_cases h3 : k = 3
  · rw [if_pos h3]
    constructor
    · intro e; injection e with e; exact .inl ⟨h3, e.symm⟩
    · rintro (⟨_, rfl⟩ | ⟨h, _⟩ | ⟨h, _⟩)
      · rfl
      · omega
      · omega
  · rw [if_neg h3]
    by_cases h4 : k = 4
    · rw [if_pos h4]
      constructor
      · intro e; injection e with e; exact .inr (.inl ⟨h4, e.symm⟩)
      · rintro (⟨h, _⟩ | ⟨_, rfl⟩ | ⟨h, _⟩)
        · omega
        · rfl
        · omega
    · rw [if_neg h4]
      by_cases h5 : k = 5
      · rw [if_pos h5]
        constructor
        · intro e; injection e with e; exact .inr (.inr ⟨h5, e.symm⟩)
        · rintro (⟨h, _⟩ | ⟨h, _⟩ | ⟨_, rfl⟩)
          · omega
          · omega
          · rfl
      · rw [if_neg h5]
        constructor
        · intro e; cases e
        · rintro (⟨h, _⟩ | ⟨h, _⟩ | ⟨h, _⟩) <;> omega
def IsH (g : Sg) (h : Head) (w : Val) : Prop := (h.kind = 3 ∧ w.kind = 1 ∧ w.n = h.i) ∨ (h.kind = 4 ∧ w.kind = 2 ∧ w.s = h.s) ∨ (h.kind = 5 ∧ ConV g w ∧ w.n = h.n)
def kidsV (h : Head) (w : Val) : List Val := if h.kind = 5 then w.l else []
/-- A value of a head, with kids. -/
def valH (g : Sg) (h : Head) (kids : List Val) : Val := if h.kind = 3 then .mk 1 h.i ⟨#[]⟩ [] else if h.kind = 4 then .mk 2 0 h.s [] else mkV g h.n kids

section
variable {g : Sg} {h : Head} {p0 : Pat} {w : Val}
theorem kidsV_len (hw : IsH g h w) : (kidsV h w).length = arityH g h := by
  unfold kidsV arityH
  rcases hw with ⟨e, _⟩ | ⟨e, _⟩ | ⟨e, hc, hn⟩
  · rw [if_neg (by omega), if_neg (by omega)]; rfl
  · rw [if_neg (by omega), if_neg (by omega)]; rfl
  · rw [if_pos e, if_pos e, hc.len, hn]
theorem valH_is (h0 : asksH p0 = some h) (hw : Wf g p0) {kids : List Val} (hl : kids.length = arityH g h) : IsH g h (valH g h kids) ∧ kidsV h (valH g h kids) = kids := by
  unfold valH kidsV
  rcases asks_iff.1 h0 with ⟨e, rfl⟩ | ⟨e, rfl⟩ | ⟨e, rfl⟩
  · exact ⟨.inl ⟨rfl, rfl, rfl⟩, (List.length_eq_zero_iff.1 (by simpa [arityH] using hl)).symm⟩
  · exact ⟨.inr (.inl ⟨rfl, rfl, rfl⟩), (List.length_eq_zero_iff.1 (by simpa [arityH] using hl)).symm⟩
  · obtain ⟨h1, h2, _⟩ := alone_con hw.alone e
    exact ⟨.inr (.inr ⟨rfl, mkV_con h1 h2 (by simpa [arityH] using hl), rfl⟩), rfl⟩
theorem fits_head {p : Pat} {h' : Head} (h0 : asksH p0 = some h) (hw : IsH g h w) (hp : Wf g p) (ha : asksH p = some h') : fitsB p w = true ↔ h' = h ∧ fitsL p.l (kidsV h w) = true := by
  have leaf : p.kind ≠ 5 → fitsL p.l (kidsV h w) = true := fun e => by rw [alone_leaf hp.alone e]; rfl
  rcases asks_iff.1 ha with ⟨e, rfl⟩ | ⟨e, rfl⟩ | ⟨e, rfl⟩ <;> rcases asks_iff.1 h0 with ⟨_, rfl⟩ | ⟨_, rfl⟩ | ⟨_, rfl⟩ <;> rcases hw with ⟨k1, k2, k3⟩ | ⟨k1, k2, k3⟩ | ⟨k1, k2, k3⟩ <;> simp only at k1 <;> (try omega)
  · rw [fits_three e]
    constructor
    · rintro ⟨_, x⟩; exact ⟨by rw [← x, k3], leaf (by omega)⟩
    · rintro ⟨x, _⟩; injection x with _ _ x; exact ⟨k2, by rw [k3]; exact x.symm⟩
  · rw [fits_three e]
    exact ⟨fun x => by omega, fun x => by injection x.1 with x; omega⟩
  · rw [fits_three e]
    exact ⟨fun x => by have := k2.kind; omega, fun x => by injection x.1 with x; omega⟩
  · rw [fits_four e]
    exact ⟨fun x => by omega, fun x => by injection x.1 with x; omega⟩
  · rw [fits_four e]
    constructor
    · rintro ⟨_, x⟩; exact ⟨by rw [← x, k3], leaf (by omega)⟩
    · rintro ⟨x, _⟩; injection x with _ _ _ x; exact ⟨k2, by rw [k3]; exact x.symm⟩
  · rw [fits_four e]
    exact ⟨fun x => by have := k2.kind; omega, fun x => by injection x.1 with x; omega⟩
  · rw [fits_five e]
    exact ⟨fun x => by omega, fun x => by injection x.1 with x; omega⟩
  · rw [fits_five e]
    exact ⟨fun x => by omega, fun x => by injection x.1 with x; omega⟩
  · rw [fits_con k2 e hp.alone]
    constructor
    · rintro ⟨x, y⟩; exact ⟨by rw [← x, k3], y⟩
    · rintro ⟨x, y⟩; injection x with _ x; exact ⟨by rw [k3]; exact x.symm, y⟩
theorem goes_head {p : Pat} (hw : IsH g h w) (hp : Wf g p) (ha : asksH p = some h) : goesP g p w ↔ goesL g p.l (kidsV h w) := by
  have leaf : p.kind ≠ 5 → goesL g p.l (kidsV h w) := fun e => by rw [alone_leaf hp.alone e]; cases kidsV h w <;> exact trivial
  rcases asks_iff.1 ha with ⟨e, rfl⟩ | ⟨e, rfl⟩ | ⟨e, rfl⟩ <;> rcases hw with ⟨k1, k2, k3⟩ | ⟨k1, k2, k3⟩ | ⟨k1, k2, k3⟩ <;> simp only at k1 <;> (try omega)
  · exact ⟨fun _ => leaf (by omega), fun _ => goesP_def.2 ⟨fun _ => k2, fun x => by omega, fun x => by omega⟩⟩
  · exact ⟨fun _ => leaf (by omega), fun _ => goesP_def.2 ⟨fun x => by omega, fun _ => k2, fun x => by omega⟩⟩
  · simp only at k3
    rw [goesP_def]
    constructor
    · exact fun x => (x.2.2 e).2.2 k3
    · exact fun x => ⟨fun y => by omega, fun y => by omega, fun _ => ⟨k2, by rw [k3], fun _ => x⟩⟩
theorem goes_other {p : Pat} {h' : Head} (h0 : asksH p0 = some h) (hw : IsH g h w) (ht : pairB g p0 p = true) (ha : asksH p = some h') (hne : h' ≠ h) : goesP g p w := by
  have h1 := pair_cases ht
  have o0 : openB p0 ≠ true := fun e => by have := open_kind e; rcases asks_iff.1 h0 with ⟨x, _⟩ | ⟨x, _⟩ | ⟨x, _⟩ <;> omega
  have o1 : openB p ≠ true := fun e => by have := open_kind e; rcases asks_iff.1 ha with ⟨x, _⟩ | ⟨x, _⟩ | ⟨x, _⟩ <;> omega
  rcases h1 with h1 | h1 | ⟨h1, h2⟩
  · exact absurd h1 o0
  · exact absurd h1 o1
  · rcases asks_iff.1 h0 with ⟨e, rfl⟩ | ⟨e, rfl⟩ | ⟨e, rfl⟩ <;> rcases hw with ⟨k1, k2, k3⟩ | ⟨k1, k2, k3⟩ | ⟨k1, k2, k3⟩ <;> simp only at k1 <;> (try omega)
    · exact goesP_def.2 ⟨fun _ => k2, fun x => by omega, fun x => by omega⟩
    · exact goesP_def.2 ⟨fun x => by omega, fun _ => k2, fun x => by omega⟩
    · refine goesP_def.2 ⟨fun x => by omega, fun x => by omega, fun _ => ⟨k2, by rw [k3]; exact h2 e, fun hn => ?_⟩⟩
      exfalso
      apply hne
      rcases asks_iff.1 ha with ⟨x, _⟩ | ⟨x, _⟩ | ⟨x, rfl⟩
      · omega
      · omega
      · rw [← hn, k3]
theorem is_head {p : Pat} (ha : asksH p = some h) (hg : goesP g p w) (hf : fitsB p w = true) : IsH g h w := by
  rcases asks_iff.1 ha with ⟨e, rfl⟩ | ⟨e, rfl⟩ | ⟨e, rfl⟩
  · obtain ⟨x, y⟩ := (fits_three e).1 hf
    exact .inl ⟨rfl, x, y⟩
  · obtain ⟨x, y⟩ := (fits_four e).1 hf
    exact .inr (.inl ⟨rfl, x, y⟩)
  · exact .inr (.inr ⟨rfl, ((goesP_def.1 hg).2.2 e).1, ((fits_five e).1 hf).2.1⟩)
theorem fitsL_anys : ∀ (n : Nat) (vl : List Val), fitsL (anysL n) vl = true := fun n vl => fitsL_iff.2 fun j p v e _ => by rw [anys_mem (List.mem_of_getElem? e)]; exact fits_open rfl
theorem goesL_anys (n : Nat) (vl : List Val) : goesL g (anysL n) vl := goesL_iff.2 fun j p v e _ => by rw [anys_mem (List.mem_of_getElem? e)]; exact goes_open rfl
theorem anys_len (n : Nat) : (anysL n).length = n := by simp [anysL]

theorem row_fits {p : Pat} {rest : List Pat} {ws : List Val} (h0 : asksH p0 = some h) (hw : IsH g h w) (hp : Wf g p) :
    fitsL (p :: rest) (w :: ws) = true ↔ ∃ q, belowR h (arityH g h) (p :: rest) = some q ∧ fitsL q (kidsV h w ++ ws) = true := by
  have hk := kidsV_len hw
  simp only [fitsL, Bool.and_eq_true, belowR]
  cases ha : asksH p with
  | none =>
    have ho := none_open ha hp.alone
    simp only [fits_open ho, true_and]
    constructor
    · intro h1
      exact ⟨_, rfl, by rw [fitsL_append (by rw [anys_len, hk]), fitsL_anys, h1]; rfl⟩
    · rintro ⟨q, e, h1⟩
      injection e with e
      subst e
      rw [fitsL_append (by rw [anys_len, hk]), fitsL_anys, Bool.true_and] at h1
      exact h1
  | some h' =>
    simp only [fits_head h0 hw hp ha]
    by_cases e : h' = h
    · rw [if_pos e]
      subst e
      have hl := wf_len ha hp
      constructor
      · rintro ⟨⟨_, h1⟩, h2⟩
        exact ⟨_, rfl, by rw [fitsL_append (by rw [hl, hk]), h1, h2]; rfl⟩
      · rintro ⟨q, e, h1⟩
        injection e with e
        subst e
        rw [fitsL_append (by rw [hl, hk]), Bool.and_eq_true] at h1
        exact ⟨⟨rfl, h1.1⟩, h1.2⟩
    · rw [if_neg e]
      exact ⟨fun x => absurd x.1.1 e, fun ⟨q, x, _⟩ => by cases x⟩
theorem row_goes {p : Pat} {rest q : List Pat} {ws : List Val} (hw : IsH g h w) (hp : Wf g p) (hb : belowR h (arityH g h) (p :: rest) = some q) : goesL g (p :: rest) (w :: ws) ↔ goesL g q (kidsV h w ++ ws) := by
  have hk := kidsV_len hw
  simp only [belowR] at hb
  simp only [goesL]
  cases ha : asksH p with
  | none =>
    rw [ha] at hb
    injection hb with hb
    subst hb
    rw [goesL_append (by rw [anys_len, hk])]
    exact ⟨fun x => ⟨goesL_anys _ _, x.2⟩, fun x => ⟨goes_open (none_open ha hp.alone), x.2⟩⟩
  | some h' =>
    rw [ha] at hb
    simp only at hb
    split at hb
    · rename_i e
      injection hb with hb
      subst hb e
      rw [goesL_append (by rw [wf_len ha hp, hk]), goes_head hw hp ha]
    · cases hb
theorem row_tail {p : Pat} {rest q : List Pat} {kids ws ws' : List Val} (hp : Wf g p) (hk : kids.length = arityH g h) (hb : belowR h (arityH g h) (p :: rest) = some q) (hf : fitsL rest ws' = fitsL rest ws) : fitsL q (kids ++ ws') = fitsL q (kids ++ ws) := by
  simp only [belowR] at hb
  cases ha : asksH p with
  | none =>
    rw [ha] at hb
    injection hb with hb
    subst hb
    rw [fitsL_append (by rw [anys_len, hk]), fitsL_append (by rw [anys_len, hk]), hf]
  | some h' =>
    rw [ha] at hb
    simp only at hb
    split at hb
    · rename_i e
      injection hb with hb
      subst hb e
      rw [fitsL_append (by rw [wf_len ha hp, hk]), fitsL_append (by rw [wf_len ha hp, hk]), hf]
    · cases hb
theorem row_tail_goes {p : Pat} {rest q : List Pat} {kids ws : List Val} (hp : Wf g p) (hk : kids.length = arityH g h) (hb : belowR h (arityH g h) (p :: rest) = some q) (hg : goesL g q (kids ++ ws)) : goesL g rest ws ∧ (asksH p = some h → goesL g p.l kids) := by
  simp only [belowR] at hb
  cases ha : asksH p with
  | none =>
    rw [ha] at hb
    injection hb with hb
    subst hb
    rw [goesL_append (by rw [anys_len, hk])] at hg
    exact ⟨hg.2, fun e => by cases e⟩
  | some h' =>
    rw [ha] at hb
    simp only at hb
    split at hb
    · rename_i e
      injection hb with hb
      subst hb e
      rw [goesL_append (by rw [wf_len ha hp, hk])] at hg
      exact ⟨hg.2, fun _ => hg.1⟩
    · cases hb
end

/-! Rows, and a vector, that go together column by column. -/
structure MOk (g : Sg) (rows : List (List Pat)) (v : List Pat) : Prop where
  len : ∀ r ∈ v :: rows, r.length = v.length
  wf : ∀ r ∈ v :: rows, ∀ p ∈ r, Wf g p
  two : ∀ r ∈ v :: rows, ∀ r' ∈ v :: rows, twoPL g r r'
/-- Values that fit a vector and no row, and go with all. -/
structure Wit (g : Sg) (rows : List (List Pat)) (v : List Pat) (ws : List Val) : Prop where
  len : ws.length = v.length
  fits : fitsL v ws = true
  goes : ∀ r ∈ v :: rows, goesL g r ws
  none : ∀ r ∈ rows, fitsL r ws = false

section
variable {g : Sg} {h : Head} {p0 : Pat} {rows : List (List Pat)} {v0 : Pat} {vs v' : List Pat}
theorem MOk.cons (m : MOk g rows (v0 :: vs)) : ∀ r ∈ (v0 :: vs) :: rows, ∃ p rest, r = p :: rest ∧ rest.length = vs.length ∧ Wf g p := fun r hr => by
  have h1 := m.len r hr
  cases r with
  | nil => simp at h1
  | cons p rest => exact ⟨p, rest, rfl, by simpa using h1, m.wf _ hr p (List.mem_cons_self ..)⟩
theorem below_mem {n : Nat} {q : List Pat} : q ∈ belowL rows h n ↔ ∃ r ∈ rows, belowR h n r = some q := by unfold belowL; rw [List.mem_filterMap]
theorem below_mem' {n : Nat} {q : List Pat} (hv : belowR h n (v0 :: vs) = some v') (hq : q ∈ v' :: belowL rows h n) : ∃ r ∈ (v0 :: vs) :: rows, belowR h n r = some q := by
  rcases List.mem_cons.1 hq with rfl | hq
  · exact ⟨_, List.mem_cons_self .., hv⟩
  · obtain ⟨r, hr, e⟩ := below_mem.1 hq
    exact ⟨r, List.mem_cons_of_mem _ hr, e⟩
theorem below_split {p : Pat} {rest q : List Pat} (hp : Wf g p) (hb : belowR h (arityH g h) (p :: rest) = some q) : ∃ x, q = x ++ rest ∧ x.length = arityH g h ∧ ((asksH p = none ∧ x = anysL (arityH g h)) ∨ (asksH p = some h ∧ x = p.l)) := by
  simp only [belowR] at hb
  cases ha : asksH p with
  | none =>
    rw [ha] at hb
    injection hb with hb
    exact ⟨_, hb.symm, anys_len _, .inl ⟨rfl, rfl⟩⟩
  | some h' =>
    rw [ha] at hb
    simp only at hb
    split at hb
    · rename_i e
      injection hb with hb
      subst e
      exact ⟨_, hb.symm, wf_len ha hp, .inr ⟨rfl, rfl⟩⟩
    · cases hb
theorem heads_two {p q : Pat} (ht : twoP g p q) (hp : Wf g p) (hq : Wf g q) (ha : asksH p = some h) (hb : asksH q = some h) : twoPL g p.l q.l := by
  rcases asks_iff.1 ha with ⟨e, rfl⟩ | ⟨e, rfl⟩ | ⟨e, rfl⟩
  · rw [alone_leaf hp.alone (by omega)]; cases q.l <;> exact trivial
  · rw [alone_leaf hp.alone (by omega)]; cases q.l <;> exact trivial
  · rcases asks_iff.1 hb with ⟨_, x⟩ | ⟨_, x⟩ | ⟨e', x⟩
    · injection x with x; omega
    · injection x with x; omega
    · injection x with _ x; exact (twoP_def.1 ht).2 e e' x
theorem MOk.below (m : MOk g rows (v0 :: vs)) (hv : belowR h (arityH g h) (v0 :: vs) = some v') : MOk g (belowL rows h (arityH g h)) v' := by
  have key : ∀ q ∈ v' :: belowL rows h (arityH g h), ∃ p rest x, p :: rest ∈ (v0 :: vs) :: rows ∧ Wf g p ∧ rest.length = vs.length ∧ q = x ++ rest ∧ x.length = arityH g h ∧ ((asksH p = none ∧ x = anysL (arityH g h)) ∨ (asksH p = some h ∧ x = p.l)) := fun q hq => by
    obtain ⟨r, hr, e⟩ := below_mem' hv hq
    obtain ⟨p, rest, rfl, h1, h2⟩ := m.cons r hr
    obtain ⟨x, h3, h4, h5⟩ := below_split h2 e
    exact ⟨p, rest, x, hr, h2, h1, h3, h4, h5⟩
  obtain ⟨_, _, xv, _, _, hlv, hv', hxv, _⟩ := key v' (List.mem_cons_self ..)
  refine ⟨fun q hq => ?_, fun q hq z hz => ?_, fun q hq q' hq' => ?_⟩
  · obtain ⟨p, rest, x, _, _, h1, rfl, h2, _⟩ := key q hq
    rw [hv', List.length_append, List.length_append, h1, h2, hxv, hlv]
  · obtain ⟨p, rest, x, hr, hp, h1, rfl, h2, h3⟩ := key q hq
    rcases List.mem_append.1 hz with hz | hz
    · rcases h3 with ⟨_, rfl⟩ | ⟨_, rfl⟩
      · rw [anys_mem hz]; exact wf_any g
      · exact hp.kids z hz
    · exact m.wf _ hr z (List.mem_cons_of_mem _ hz)
  · obtain ⟨p, rest, x, hr, hp, h1, rfl, h2, h3⟩ := key q hq
    obtain ⟨p', rest', x', hr', hp', h1', rfl, h2', h3'⟩ := key q' hq'
    have ht : twoP g p p' ∧ twoPL g rest rest' := m.two _ hr _ hr'
    refine (twoPL_append (by rw [h2, h2'])).2 ⟨?_, ht.2⟩
    rcases h3 with ⟨_, rfl⟩ | ⟨ha, rfl⟩
    · exact twoPL_anys _ _
    · rcases h3' with ⟨_, rfl⟩ | ⟨hb, rfl⟩
      · exact twoPL_anys' _ _
      · exact heads_two ht.1 hp hp' ha hb
theorem others_mem {q : List Pat} : q ∈ othersL rows ↔ ∃ p, p :: q ∈ rows ∧ openB p = true := by
  unfold othersL
  rw [List.mem_filterMap]
  constructor
  · rintro ⟨r, hr, e⟩
    cases r with
    | nil => cases e
    | cons p rest =>
      simp only [othersR] at e
      split at e
      · rename_i ho; injection e with e; subst e; exact ⟨p, hr, ho⟩
      · cases e
  · rintro ⟨p, hr, ho⟩
    exact ⟨_, hr, by simp only [othersR]; rw [if_pos ho]⟩
theorem MOk.others (m : MOk g rows (v0 :: vs)) : MOk g (othersL rows) vs := by
  have key : ∀ q ∈ vs :: othersL rows, ∃ p, p :: q ∈ (v0 :: vs) :: rows := fun q hq => by
    rcases List.mem_cons.1 hq with rfl | hq
    · exact ⟨v0, List.mem_cons_self ..⟩
    · obtain ⟨p, hp, _⟩ := others_mem.1 hq
      exact ⟨p, List.mem_cons_of_mem _ hp⟩
  refine ⟨fun q hq => ?_, fun q hq z hz => ?_, fun q hq q' hq' => ?_⟩
  · obtain ⟨p, h1⟩ := key q hq
    simpa using m.len _ h1
  · obtain ⟨p, h1⟩ := key q hq
    exact m.wf _ h1 z (List.mem_cons_of_mem _ hz)
  · obtain ⟨p, h1⟩ := key q hq
    obtain ⟨p', h1'⟩ := key q' hq'
    exact (m.two _ h1 _ h1').2

/-- The rows without their first column. -/
theorem MOk.tails (m : MOk g rows (v0 :: vs)) {R' : List (List Pat)} (hR : ∀ t ∈ R', ∃ p, p :: t ∈ (v0 :: vs) :: rows) {ws : List Val} (hl : ws.length = vs.length) (hg : ∀ t ∈ R', goesL g t ws) :
    ∃ ws' : List Val, ws'.length = vs.length ∧ (∀ p rest, p :: rest ∈ (v0 :: vs) :: rows → goesL g rest ws') ∧ ∀ t ∈ R', fitsL t ws' = fitsL t ws := by
  have key : ∀ t ∈ ((v0 :: vs) :: rows).map List.tail, ∃ p, p :: t ∈ (v0 :: vs) :: rows := fun t ht => by
    obtain ⟨r, hr, rfl⟩ := List.mem_map.1 ht
    obtain ⟨p, rest, rfl, _⟩ := m.cons r hr
    exact ⟨p, hr⟩
  obtain ⟨ws', h1, h2, h3⟩ := retypeL (g := g) (n := vs.length) (R' := R') (R := ((v0 :: vs) :: rows).map List.tail) (fun t ht => by
      obtain ⟨p, hp⟩ := hR t ht
      exact List.mem_map.2 ⟨_, hp, rfl⟩) (fun t ht z hz => by
      obtain ⟨p, hp⟩ := key t ht
      exact m.wf _ hp z (List.mem_cons_of_mem _ hz)) (fun t ht t' ht' => by
      obtain ⟨p, hp⟩ := key t ht
      obtain ⟨p', hp'⟩ := key t' ht'
      exact (m.two _ hp _ hp').2) hl hg
  exact ⟨ws', h1, fun p rest hr => h2 rest (List.mem_map.2 ⟨_, hr, rfl⟩), h3⟩

theorem sub_back {w : Val} {ws : List Val} (m : MOk g rows (v0 :: vs)) (h0 : asksH p0 = some h) (hv : belowR h (arityH g h) (v0 :: vs) = some v') (hw : IsH g h w) (k : Wit g rows (v0 :: vs) (w :: ws)) : Wit g (belowL rows h (arityH g h)) v' (kidsV h w ++ ws) := by
  have hk := kidsV_len hw
  obtain ⟨x, hx, hxl, _⟩ := below_split (m.wf _ (List.mem_cons_self ..) v0 (List.mem_cons_self ..)) hv
  have hl := k.len
  simp only [List.length_cons] at hl
  refine ⟨by rw [hx, List.length_append, List.length_append, hk, hxl]; omega, ?_, fun q hq => ?_, fun q hq => ?_⟩
  · obtain ⟨q, e, h1⟩ := (row_fits h0 hw (m.wf _ (List.mem_cons_self ..) v0 (List.mem_cons_self ..))).1 k.fits
    rw [hv] at e
    injection e with e
    subst e
    exact h1
  · obtain ⟨r, hr, e⟩ := below_mem' hv hq
    obtain ⟨p, rest, rfl, _, hp⟩ := m.cons r hr
    exact (row_goes hw hp e).1 (k.goes _ hr)
  · obtain ⟨r, hr, e⟩ := below_mem.1 hq
    obtain ⟨p, rest, rfl, _, hp⟩ := m.cons r (List.mem_cons_of_mem _ hr)
    have h1 := k.none _ hr
    cases hf : fitsL q (kidsV h w ++ ws) with
    | false => rfl
    | true => rw [(row_fits h0 hw hp).2 ⟨q, e, hf⟩] at h1; cases h1
theorem sub_fwd {ws : List Val} {r0 : List Pat} (m : MOk g rows (v0 :: vs)) (hr0 : p0 :: r0 ∈ (v0 :: vs) :: rows) (h0 : asksH p0 = some h) (hv : belowR h (arityH g h) (v0 :: vs) = some v') (k : Wit g (belowL rows h (arityH g h)) v' ws) :
    ∃ w ws', IsH g h w ∧ Wit g rows (v0 :: vs) (w :: ws') := by
  have hp0 := m.wf _ hr0 p0 (List.mem_cons_self ..)
  obtain ⟨x, hx, hxl, _⟩ := below_split (m.wf _ (List.mem_cons_self ..) v0 (List.mem_cons_self ..)) hv
  have hl := k.len
  rw [hx, List.length_append, hxl] at hl
  obtain ⟨kids, tail, rfl, hkl⟩ : ∃ kids tail, ws = kids ++ tail ∧ kids.length = arityH g h := ⟨ws.take (arityH g h), ws.drop (arityH g h), (List.take_append_drop ..).symm, by rw [List.length_take]; omega⟩
  have htl : tail.length = vs.length := by rw [List.length_append] at hl; omega
  obtain ⟨hw, hkv⟩ := valH_is (g := g) h0 hp0 hkl
  obtain ⟨ws', h1, h2, h3⟩ := m.tails (R' := ((v0 :: vs) :: rows).filterMap fun r => match r with | [] => none | p :: rest => if asksH p = none ∨ asksH p = some h then some rest else none) (fun t ht => by
      obtain ⟨r, hr, e⟩ := List.mem_filterMap.1 ht
      cases r with
      | nil => cases e
      | cons p rest =>
        simp only at e
        split at e
        · injection e with e; subst e; exact ⟨p, hr⟩
        · cases e) htl (fun t ht => by
      obtain ⟨r, hr, e⟩ := List.mem_filterMap.1 ht
      cases r with
      | nil => cases e
      | cons p rest =>
        simp only at e
        split at e
        · rename_i hh
          injection e with e
          subst e
          have hp := m.wf _ hr p (List.mem_cons_self ..)
          have hb : ∃ q, belowR h (arityH g h) (p :: rest) = some q := by
            simp only [belowR]
            rcases hh with hh | hh <;> rw [hh]
            · exact ⟨_, rfl⟩
            · exact ⟨_, if_pos rfl⟩
          obtain ⟨q, hq⟩ := hb
          have hm : q ∈ v' :: belowL rows h (arityH g h) := by
            rcases List.mem_cons.1 hr with e | hr
            · rw [e, hv] at hq; injection hq with hq; subst hq; exact List.mem_cons_self ..
            · exact List.mem_cons_of_mem _ (below_mem.2 ⟨_, hr, hq⟩)
          exact (row_tail_goes hp hkl hq (k.goes q hm)).1
        · cases e)
  have hin : ∀ p rest q, p :: rest ∈ (v0 :: vs) :: rows → belowR h (arityH g h) (p :: rest) = some q → fitsL q (kids ++ ws') = fitsL q (kids ++ tail) := fun p rest q hr hq => by
    have hp := m.wf _ hr p (List.mem_cons_self ..)
    refine row_tail hp hkl hq (h3 rest (List.mem_filterMap.2 ⟨_, hr, ?_⟩))
    simp only
    obtain ⟨_, _, _, ⟨e, _⟩ | ⟨e, _⟩⟩ := below_split hp hq
    · rw [if_pos (.inl e)]
    · rw [if_pos (.inr e)]
  refine ⟨valH g h kids, ws', hw, by simp [h1], ?_, fun r hr => ?_, fun r hr => ?_⟩
  · refine (row_fits h0 hw (m.wf _ (List.mem_cons_self ..) v0 (List.mem_cons_self ..))).2 ⟨v', hv, ?_⟩
    rw [hkv, hin v0 vs v' (List.mem_cons_self ..) hv]
    exact k.fits
  · obtain ⟨p, rest, rfl, _, hp⟩ := m.cons r hr
    refine ⟨?_, h2 p rest hr⟩
    cases ha : asksH p with
    | none => exact goes_open (none_open ha hp.alone)
    | some h' =>
      by_cases e : h' = h
      · subst e
        have hq : belowR h' (arityH g h') (p :: rest) = some (p.l ++ rest) := by simp only [belowR]; rw [ha]; exact if_pos rfl
        have hm : p.l ++ rest ∈ v' :: belowL rows h' (arityH g h') := by
          rcases List.mem_cons.1 hr with e | hr
          · rw [e, hv] at hq; injection hq with hq; subst hq; exact List.mem_cons_self ..
          · exact List.mem_cons_of_mem _ (below_mem.2 ⟨_, hr, hq⟩)
        rw [goes_head hw hp ha, hkv]
        exact (row_tail_goes hp hkl hq (k.goes _ hm)).2 ha
      · exact goes_other h0 hw (twoP_def.1 (m.two _ hr0 _ hr).1).1 ha e
  · obtain ⟨p, rest, rfl, _, hp⟩ := m.cons r (List.mem_cons_of_mem _ hr)
    cases hf : fitsL (p :: rest) (valH g h kids :: ws') with
    | false => rfl
    | true =>
      obtain ⟨q, hq, h4⟩ := (row_fits h0 hw hp).1 hf
      rw [hkv, hin p rest q (List.mem_cons_of_mem _ hr) hq, k.none q (below_mem.2 ⟨_, hr, hq⟩)] at h4
      cases h4
end

/-! Heads that are not there. -/
theorem heads_in : ∀ (rows : List (List Pat)) (acc : List Head) (h : Head), (h ∈ acc ∨ ∃ p rest, p :: rest ∈ rows ∧ asksH p = some h) → h ∈ rows.foldl headsR acc
  | [], acc, h, hm => by
    rcases hm with hm | ⟨p, rest, hm, _⟩
    · exact hm
    · cases hm
  | r :: rows, acc, h, hm => by
    refine heads_in rows (headsR acc r) h ?_
    rcases hm with hm | ⟨p, rest, hm, ha⟩
    · left
      cases r with
      | nil => exact hm
      | cons p rest =>
        simp only [headsR]
        cases asksH p with
        | none => exact hm
        | some k =>
          simp only [addH]
          split
          · exact hm
          · exact List.mem_append_left _ hm
    · rcases List.mem_cons.1 hm with e | hm
      · left
        subst e
        simp only [headsR, ha, addH]
        split
        · rename_i hh; exact hh
        · simp
      · exact .inr ⟨p, rest, hm, ha⟩
theorem headsL_iff {rows : List (List Pat)} {h : Head} : h ∈ headsL rows ↔ ∃ p rest, p :: rest ∈ rows ∧ asksH p = some h :=
  ⟨headsL_mem, fun hm => heads_in rows [] h (.inr hm)⟩

section
variable {g : Sg} {rows : List (List Pat)} {v0 : Pat} {vs : List Pat}
theorem cons_data (hsv : Serves g) {x : Int} {c : ConT} (hx : g.con x = some c) : ∃ d, g.dat c.data = some d ∧ x ∈ d.cons := by
  obtain ⟨m, rfl, hm⟩ := con_nat hx
  exact hsv.con m c hm
theorem con_some {n : Int} (h0 : 0 ≤ n) (h1 : n < g.cons.length) : ∃ c, g.con n = some c := by
  obtain ⟨m, rfl⟩ : ∃ m : Nat, n = m := ⟨n.toNat, by omega⟩
  obtain ⟨c, hc⟩ := getS (l := g.cons) (k := m) (by omega)
  exact ⟨c, con_of hc⟩
theorem con_range {n : Int} {c : ConT} (h : g.con n = some c) : 0 ≤ n ∧ n < g.cons.length := by
  obtain ⟨m, rfl, hm⟩ := con_nat h
  have := (List.getElem?_eq_some_iff.1 hm).1
  omega
/-- A constructor is one of its data type's; and those are its like. -/
theorem consOf_mem (hsv : Serves g) {n : Int} (h0 : 0 ≤ n) (h1 : n < g.cons.length) {x : Int} : x ∈ g.consOf (g.dataOf n) ↔ 0 ≤ x ∧ x < g.cons.length ∧ g.dataOf x = g.dataOf n := by
  obtain ⟨c, hc⟩ := con_some h0 h1
  obtain ⟨d, hd, _⟩ := cons_data hsv hc
  have e1 : g.dataOf n = c.data := by unfold Sg.dataOf; rw [hc]
  have e2 : g.consOf (g.dataOf n) = d.cons := by rw [e1]; unfold Sg.consOf; rw [hd]
  rw [e2, e1]
  constructor
  · intro hx
    obtain ⟨m, hm, hd'⟩ := dat_nat hd
    obtain ⟨c', hc', e⟩ := hsv.dat m d hd' x hx
    obtain ⟨h2, h3⟩ := con_range hc'
    refine ⟨h2, h3, ?_⟩
    unfold Sg.dataOf
    rw [hc']
    exact e.trans hm.symm
  · rintro ⟨h2, h3, e⟩
    obtain ⟨c', hc'⟩ := con_some h2 h3
    obtain ⟨d', hd', hx⟩ := cons_data hsv hc'
    unfold Sg.dataOf at e
    rw [hc'] at e
    simp only at e
    rw [e, hd] at hd'
    injection hd' with hd'
    subst hd'
    exact hx

/-- A value that has none of the rows' heads. -/
theorem fresh_val (hsv : Serves g) (m : MOk g rows (v0 :: vs)) {p' : Pat} (hf : freshP g (headsL rows) = some p') : ∃ w, ∀ p rest, p :: rest ∈ rows → goesP g p w ∧ (∀ h, asksH p = some h → fitsB p w = false) := by
  have hwf : ∀ p rest, p :: rest ∈ rows → Wf g p := fun p rest hr => m.wf _ (List.mem_cons_of_mem _ hr) p (List.mem_cons_self ..)
  cases hh : headsL rows with
  | nil =>
    refine ⟨zeroV, fun p rest hr => ?_⟩
    cases ha : asksH p with
    | none => exact ⟨goes_open (none_open ha (hwf p rest hr).alone), fun h e => by cases e⟩
    | some h =>
      have : h ∈ headsL rows := headsL_iff.2 ⟨p, rest, hr, ha⟩
      rw [hh] at this
      cases this
  | cons h0 t =>
    have hm0 : h0 ∈ headsL rows := by rw [hh]; exact List.mem_cons_self ..
    obtain ⟨p0, r0, hr0, ha0⟩ := headsL_iff.1 hm0
    have hp0 := hwf p0 r0 hr0
    have hpair : ∀ p rest, p :: rest ∈ rows → pairB g p0 p = true := fun p rest hr => (twoP_def.1 (m.two _ (List.mem_cons_of_mem _ hr0) _ (List.mem_cons_of_mem _ hr)).1).1
    have hno : openB p0 ≠ true := fun e => by have := open_kind e; rcases asks_iff.1 ha0 with ⟨x, _⟩ | ⟨x, _⟩ | ⟨x, _⟩ <;> omega
    have hin : ∀ p rest h, p :: rest ∈ rows → asksH p = some h → h ∈ h0 :: t := fun p rest h hr ha => by rw [← hh]; exact headsL_iff.2 ⟨p, rest, hr, ha⟩
    rw [hh] at hf
    simp only [freshP] at hf
    rcases asks_iff.1 ha0 with ⟨e, eh⟩ | ⟨e, eh⟩ | ⟨e, eh⟩
    · have hs := (freshN_spec headI_inj (h0 :: t)).1
      generalize freshN headI (h0 :: t) = i at hs
      refine ⟨.mk 1 i ⟨#[]⟩ [], fun p rest hr => ?_⟩
      rcases pair_cases (hpair p rest hr) with x | x | ⟨x, _⟩
      · exact absurd x hno
      · exact ⟨goes_open x, fun h ha => by have := open_kind x; rcases asks_iff.1 ha with ⟨y, _⟩ | ⟨y, _⟩ | ⟨y, _⟩ <;> omega⟩
      · have h3 : p.kind = 3 := by omega
        refine ⟨goesP_def.2 ⟨fun _ => rfl, fun y => by omega, fun y => by omega⟩, fun h ha => ?_⟩
        rw [Bool.eq_false_iff]
        intro hf'
        have hi : (i : Int) = p.i := ((fits_three h3).1 hf').2
        apply hs
        have := hin p rest h hr ha
        rcases asks_iff.1 ha with ⟨_, rfl⟩ | ⟨y, _⟩ | ⟨y, _⟩
        · rw [← hi] at this; exact this
        · omega
        · omega
    · have hs := (freshN_spec headS_inj (h0 :: t)).1
      generalize freshN headS (h0 :: t) = i at hs
      refine ⟨.mk 2 0 (aas i) [], fun p rest hr => ?_⟩
      rcases pair_cases (hpair p rest hr) with x | x | ⟨x, _⟩
      · exact absurd x hno
      · exact ⟨goes_open x, fun h ha => by have := open_kind x; rcases asks_iff.1 ha with ⟨y, _⟩ | ⟨y, _⟩ | ⟨y, _⟩ <;> omega⟩
      · have h3 : p.kind = 4 := by omega
        refine ⟨goesP_def.2 ⟨fun y => by omega, fun _ => rfl, fun y => by omega⟩, fun h ha => ?_⟩
        rw [Bool.eq_false_iff]
        intro hf'
        have hi : aas i = p.s := ((fits_four h3).1 hf').2
        apply hs
        have := hin p rest h hr ha
        rcases asks_iff.1 ha with ⟨y, _⟩ | ⟨_, rfl⟩ | ⟨y, _⟩
        · omega
        · rw [← hi] at this; exact this
        · omega
    · have e5 : h0.kind = 5 := by rw [eh]
      have en : h0.n = p0.n := by rw [eh]
      rw [if_neg (by omega), if_neg (by omega), en] at hf
      obtain ⟨c, hc, _⟩ := Option.map_eq_some_iff.1 hf
      have hc1 := List.find?_some hc
      have hc2 := List.mem_of_find?_eq_some hc
      obtain ⟨k0, k1, _⟩ := alone_con hp0.alone e
      obtain ⟨c0, c1, c2⟩ := (consOf_mem hsv k0 k1).1 hc2
      have hcv := mkV_con (g := g) c0 c1 (vl := List.replicate (g.arity c) zeroV) (by simp)
      refine ⟨mkV g c (List.replicate (g.arity c) zeroV), fun p rest hr => ?_⟩
      rcases pair_cases (hpair p rest hr) with x | x | ⟨x, x2⟩
      · exact absurd x hno
      · exact ⟨goes_open x, fun h ha => by have := open_kind x; rcases asks_iff.1 ha with ⟨y, _⟩ | ⟨y, _⟩ | ⟨y, _⟩ <;> omega⟩
      · have h5 : p.kind = 5 := by omega
        have hne : ∀ h, asksH p = some h → c ≠ p.n := fun h ha hn => by
          have := hin p rest h hr ha
          rcases asks_iff.1 ha with ⟨y, _⟩ | ⟨y, _⟩ | ⟨_, rfl⟩
          · omega
          · omega
          · rw [← hn] at this
            simp at hc1
            exact (by simpa [headC] using hc1 : ¬ (_ ∨ _)) (by simpa using this)
        have ha5 : asksH p = some ⟨5, p.n, 0, ⟨#[]⟩⟩ := asks_iff.2 (.inr (.inr ⟨h5, rfl⟩))
        refine ⟨goesP_def.2 ⟨fun y => by omega, fun y => by omega, fun _ => ⟨hcv, ?_, fun hn => absurd hn (hne _ ha5)⟩⟩, fun h ha => ?_⟩
        · show g.dataOf c = g.dataOf p.n
          rw [c2, x2 e]
        · rw [Bool.eq_false_iff]
          intro hf'
          exact hne h ha ((fits_con hcv h5 (hwf p rest hr).alone).1 hf').1
/-- A value that has none of the rows' heads, and goes with all: then there is a fresh one. -/
theorem fresh_some (hsv : Serves g) (m : MOk g rows (v0 :: vs)) {w : Val} (hg : ∀ p rest, p :: rest ∈ rows → goesP g p w) (hn : ∀ h ∈ headsL rows, ¬ IsH g h w) : ∃ p', freshP g (headsL rows) = some p' := by
  cases hh : headsL rows with
  | nil => exact ⟨_, rfl⟩
  | cons h0 t =>
    have hm0 : h0 ∈ headsL rows := by rw [hh]; exact List.mem_cons_self ..
    obtain ⟨p0, r0, hr0, ha0⟩ := headsL_iff.1 hm0
    simp only [freshP]
    rcases asks_iff.1 ha0 with ⟨e, eh⟩ | ⟨e, eh⟩ | ⟨e, eh⟩
    · rw [if_pos (by rw [eh])]; exact ⟨_, rfl⟩
    · rw [if_neg (by rw [eh]; simp), if_pos (by rw [eh])]; exact ⟨_, rfl⟩
    · have e5 : h0.kind = 5 := by rw [eh]
      have en : h0.n = p0.n := by rw [eh]
      rw [if_neg (by omega), if_neg (by omega)]
      obtain ⟨hc, hd, _⟩ := (goesP_def.1 (hg p0 r0 hr0)).2.2 e
      have hp0 := m.wf _ (List.mem_cons_of_mem _ hr0) p0 (List.mem_cons_self ..)
      obtain ⟨k0, k1, _⟩ := alone_con hp0.alone e
      have hmem : w.n ∈ g.consOf (g.dataOf h0.n) := by rw [en]; exact (consOf_mem hsv k0 k1).2 ⟨hc.lo, hc.hi, hd⟩
      have hsome : ((g.consOf (g.dataOf h0.n)).find? fun c => decide (headC c ∉ h0 :: t)).isSome = true := by
        rw [List.find?_isSome]
        refine ⟨w.n, hmem, ?_⟩
        rw [decide_eq_true_eq]
        intro hx
        rw [← hh] at hx
        exact hn _ hx (.inr (.inr ⟨rfl, hc, rfl⟩))
      obtain ⟨c, hc'⟩ := Option.isSome_iff_exists.1 hsome
      rw [hc']
      exact ⟨_, rfl⟩
end

theorem withF_some {r : List (List Pat) → List Pat → Option (List Pat)} {rows : List (List Pat)} {vs : List Pat} {h : Head} {p : Pat} {kids : List Pat} : (withF r rows vs h p kids).isSome = (r (belowL rows h kids.length) (kids ++ vs)).isSome := by
  unfold withF; simp

/-- useful finds something just if there are such values. -/
theorem useful_sem {g : Sg} (hsv : Serves g) {A : Nat} (hA : ∀ c ∈ g.cons, c.fields.length ≤ A) : ∀ (f : Nat) (rows : List (List Pat)) (v : List Pat), MOk g rows v → mu A rows v < f → ((usefulF g f rows v).isSome = true ↔ ∃ ws, Wit g rows v ws)
  | 0, rows, v, m, hf => absurd hf (Nat.not_lt_zero _)
  | f + 1, rows, [], m, hf => by
    simp only [usefulF]
    cases rows with
    | nil =>
      refine ⟨fun _ => ⟨[], rfl, rfl, fun r hr => ?_, fun r hr => by cases hr⟩, fun _ => rfl⟩
      rw [List.mem_singleton.1 hr]
      exact trivial
    | cons r rows =>
      refine ⟨fun h => by simp at h, fun ⟨ws, k⟩ => ?_⟩
      have h1 := k.none r (List.mem_cons_self ..)
      have h2 := m.len r (by simp)
      rw [List.length_eq_zero_iff.1 h2] at h1
      cases h1
  | f + 1, rows, v0 :: vs, m, hf => by
    have hv0 := m.wf _ (List.mem_cons_self ..) v0 (List.mem_cons_self ..)
    cases ha : asksH v0 with
    | some h =>
      have hl : v0.l.length = arityH g h := wf_len ha hv0
      have hk : v0.l.length ≤ A := by rw [hl]; exact arity_le hA h
      have hmu : mu A (belowL rows h v0.l.length) (v0.l ++ vs) < mu A rows (v0 :: vs) := mu_con ha hk
      have hv : belowR h (arityH g h) (v0 :: vs) = some (v0.l ++ vs) := by simp only [belowR]; rw [ha]; exact if_pos rfl
      have ih := useful_sem hsv hA f _ _ (m.below hv) (by rw [← hl]; omega)
      simp only [usefulF]
      rw [ha]
      simp only [withF_some]
      rw [hl, ih]
      constructor
      · rintro ⟨ws, k⟩
        obtain ⟨w, ws', _, h2⟩ := sub_fwd m (List.mem_cons_self ..) ha hv k
        exact ⟨_, h2⟩
      · rintro ⟨ws, k⟩
        have h1 := k.len
        cases ws with
        | nil => simp at h1
        | cons w ws =>
          have hf' := k.fits
          simp only [fitsL, Bool.and_eq_true] at hf'
          exact ⟨_, sub_back m ha hv (is_head ha (k.goes _ (List.mem_cons_self ..)).1 hf'.1) k⟩
    | none =>
      have ho := none_open ha hv0.alone
      have hmo : mu A (othersL rows) vs < mu A rows (v0 :: vs) := mu_others
      have iho := useful_sem hsv hA f (othersL rows) vs m.others (by omega)
      have ihh : ∀ h ∈ headsL rows, ((withF (usefulF g f) rows vs h (patH h) (anysL (arityH g h))).isSome = true ↔ ∃ ws, Wit g (belowL rows h (arityH g h)) (anysL (arityH g h) ++ vs) ws) := fun h hh => by
        have hmu : mu A (belowL rows h (arityH g h)) (anysL (arityH g h) ++ vs) < mu A rows (v0 :: vs) := mu_head hh (arity_le hA h)
        have hv : belowR h (arityH g h) (v0 :: vs) = some (anysL (arityH g h) ++ vs) := by simp only [belowR]; rw [ha]
        rw [withF_some, anys_len]
        exact useful_sem hsv hA f _ _ (m.below hv) (by omega)
      have hv : ∀ h, belowR h (arityH g h) (v0 :: vs) = some (anysL (arityH g h) ++ vs) := fun h => by simp only [belowR]; rw [ha]
      have e1 : (usefulF g (f + 1) rows (v0 :: vs)).isSome = true ↔ ((∃ p, freshP g (headsL rows) = some p) ∧ (usefulF g f (othersL rows) vs).isSome = true) ∨ ∃ h ∈ headsL rows, (withF (usefulF g f) rows vs h (patH h) (anysL (arityH g h))).isSome = true := by
        simp only [usefulF]
        rw [ha]
        simp only
        have fs : ((headsL rows).findSome? fun h => withF (usefulF g f) rows vs h (patH h) (anysL (arityH g h))).isSome = true ↔ ∃ h ∈ headsL rows, (withF (usefulF g f) rows vs h (patH h) (anysL (arityH g h))).isSome = true := by
          rw [List.findSome?_isSome_iff]
        cases hfr : freshP g (headsL rows) with
        | none =>
          simp only
          rw [fs]
          exact ⟨.inr, fun x => x.elim (fun y => by obtain ⟨⟨p, e⟩, _⟩ := y; cases e) id⟩
        | some p =>
          cases hu : usefulF g f (othersL rows) vs with
          | none =>
            simp only
            rw [fs]
            exact ⟨.inr, fun x => x.elim (fun y => by cases y.2) id⟩
          | some w => exact ⟨fun _ => .inl ⟨⟨_, rfl⟩, rfl⟩, fun _ => rfl⟩
      rw [e1, iho]
      constructor
      · rintro (⟨⟨p, hp⟩, ws, k⟩ | ⟨h, hh, k⟩)
        · obtain ⟨w, hw⟩ := fresh_val hsv m hp
          obtain ⟨ws', h1, h2, h3⟩ := m.tails (R' := vs :: othersL rows) (fun t ht => by
            rcases List.mem_cons.1 ht with rfl | ht
            · exact ⟨v0, List.mem_cons_self ..⟩
            · obtain ⟨p, hp, _⟩ := others_mem.1 ht
              exact ⟨p, List.mem_cons_of_mem _ hp⟩) k.len k.goes
          refine ⟨w :: ws', by simp [h1], ?_, fun r hr => ?_, fun r hr => ?_⟩
          · simp only [fitsL, fits_open ho, Bool.true_and]
            rw [h3 vs (List.mem_cons_self ..)]
            exact k.fits
          · obtain ⟨p, rest, rfl, _, _⟩ := m.cons r hr
            refine ⟨?_, h2 p rest hr⟩
            rcases List.mem_cons.1 hr with e | hr
            · injection e with e; rw [e]; exact goes_open ho
            · exact (hw p rest hr).1
          · obtain ⟨p, rest, rfl, _, hpw⟩ := m.cons r (List.mem_cons_of_mem _ hr)
            simp only [fitsL]
            cases hpa : asksH p with
            | some h => rw [(hw p rest hr).2 h hpa]; rfl
            | none =>
              have hm : rest ∈ othersL rows := others_mem.2 ⟨p, hr, none_open hpa hpw.alone⟩
              rw [h3 rest (List.mem_cons_of_mem _ hm), k.none rest hm, Bool.and_false]
        · obtain ⟨ws, k⟩ := (ihh h hh).1 k
          obtain ⟨p, rest, hr, hpa⟩ := headsL_iff.1 hh
          obtain ⟨w, ws', _, h2⟩ := sub_fwd m (List.mem_cons_of_mem _ hr) hpa (hv h) k
          exact ⟨_, h2⟩
      · rintro ⟨ws, k⟩
        have h1 := k.len
        cases ws with
        | nil => simp at h1
        | cons w ws =>
          by_cases hx : ∃ h ∈ headsL rows, IsH g h w
          · obtain ⟨h, hh, hw⟩ := hx
            obtain ⟨p, rest, hr, hpa⟩ := headsL_iff.1 hh
            exact .inr ⟨h, hh, (ihh h hh).2 ⟨_, sub_back m hpa (hv h) hw k⟩⟩
          · refine .inl ⟨fresh_some hsv m (fun p rest hr => (k.goes _ (List.mem_cons_of_mem _ hr)).1) fun h hh hw => hx ⟨h, hh, hw⟩, ws, by simpa using h1, ?_, fun t ht => ?_, fun t ht => ?_⟩
            · have := k.fits
              simp only [fitsL, Bool.and_eq_true] at this
              exact this.2
            · rcases List.mem_cons.1 ht with rfl | ht
              · exact (k.goes _ (List.mem_cons_self ..)).2
              · obtain ⟨p, hp, _⟩ := others_mem.1 ht
                exact (k.goes _ (List.mem_cons_of_mem _ hp)).2
            · obtain ⟨p, hp, hpo⟩ := others_mem.1 ht
              have := k.none _ hp
              simp only [fitsL, fits_open hpo, Bool.true_and] at this
              exact this
end Go.Proofs.Ytjflembhgjcgkaa
