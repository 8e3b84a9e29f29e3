/- M15: the document's tree, by what is known of places; it is the tree of rows. No program in sight. -/
import Derived.Test.YtjflembhgjcgkaaTP11XM10CZM12
import Derived.Test.YtjflembhgjcgkaaTP11M13
import Derived.Test.YtjflembhgjcgkaaTP11XM1M11C1x2
import Derived.Test.YtjflembhgjcgkaaTP11M14
set_option linter.unusedSimpArgs false
set_option linter.unusedVariables false
namespace Go.Proofs.Ytjflembhgjcgkaa
open Go.RowKit

structure FactT where
  path : List Int
  is : Pat
  no : List Pat
def knownF (L : List FactT) (path : List Int) : Option FactT := L.find? fun f => decide (f.path = path)
/-! The asks that are open. -/
mutual
def front (L : List FactT) : Pat → List Int → List AskT
  | .mk k n i s a b c l, path => if k = 1 ∨ k = 2 then [] else match knownF L path with
    | none => [⟨path, .mk k n i s a b c l⟩]
    | some _ => frontL L l path 0
def frontL (L : List FactT) : List Pat → List Int → Nat → List AskT
  | [], _, _ => []
  | q :: l, path, i => front L q (path ++ [(i : Int)]) ++ frontL L l path (i + 1)
end
section
variable {L : List FactT}
theorem frontL_mem {l : List Pat} {path : List Int} {a : AskT} : ∀ {i : Nat}, a ∈ frontL L l path i ↔ ∃ (j : Nat) (q : Pat), l[j]? = some q ∧ a ∈ front L q (path ++ [((i + j : Nat) : Int)]) := by
  induction l with
  | nil => intro i; exact ⟨fun h => (by cases h), fun ⟨j, q, e, _⟩ => (by simp at e)⟩
  | cons q l ih =>
    intro i
    simp only [frontL, List.mem_append, ih]
    constructor
    · rintro (h | ⟨j, q', e, h⟩)
      · exact ⟨0, q, rfl, h⟩
      · exact ⟨j + 1, q', by simpa using e, by rw [show i + (j + 1) = i + 1 + j by omega]; exact h⟩
    · rintro ⟨j, q', e, h⟩
      cases j with
      | zero => simp at e; subst e; exact .inl h
      | succ j => exact .inr ⟨j, q', by simpa using e, by rw [show i + 1 + j = i + (j + 1) by omega]; exact h⟩
/-! One fact more. -/
section
variable {g : Sg} {f : FactT}
/-! Rows that are narrowed. -/
theorem spot_none {path : List Int} {asks : List AskT} (h : spotF path asks = none) : ∀ a ∈ asks, a.path ≠ path := fun a ha e => by
  have := List.findIdx?_eq_none_iff.1 h a ha
  simp [e] at this
end

/-! What is told apart at a place. -/
theorem fold_grow {α : Type} {f : List Pat → α → List Pat} (hf : ∀ out a, ∃ m, f out a = out ++ m) : ∀ (l : List α) (out : List Pat), ∃ m, l.foldl f out = out ++ m
  | [], out => ⟨[], by simp⟩
  | a :: l, out => by
    obtain ⟨m, e⟩ := hf out a
    obtain ⟨m', e'⟩ := fold_grow hf l (f out a)
    exact ⟨m ++ m', by rw [List.foldl_cons, e', e, List.append_assoc]⟩
theorem casesA_grow (path : List Int) (out : List Pat) (a : AskT) : ∃ m, casesA path out a = out ++ m := by
  unfold casesA
  split
  · exact ⟨_, rfl⟩
  · exact ⟨[], by simp⟩
theorem casesA_has {path : List Int} {a : AskT} (ha : a.path = path) (h5 : a.p.kind ≠ 5) (out : List Pat) : (casesA path out a).any (fun p => isB p a.p) = true := by
  unfold casesA
  split
  · rw [List.any_append]
    simp only [List.any_cons, List.any_nil, Bool.or_false, Bool.or_eq_true]
    right
    exact decide_eq_true ⟨rfl, rfl, rfl, fun e => absurd e h5⟩
  · rename_i h
    cases e : out.any fun p => isB p a.p with
    | true => rfl
    | false => exact absurd ⟨ha, e⟩ h
theorem cases_has {path : List Int} {a : AskT} (ha : a.path = path) (h5 : a.p.kind ≠ 5) : ∀ (rows : List RowT) (out : List Pat) (r : RowT), r ∈ rows → a ∈ r.asks → (rows.foldl (fun out r => r.asks.foldl (casesA path) out) out).any (fun p => isB p a.p) = true := by
  have asks : ∀ (asks : List AskT) (out : List Pat), a ∈ asks → (asks.foldl (casesA path) out).any (fun p => isB p a.p) = true := by
    intro asks
    induction asks with
    | nil => intro out h; cases h
    | cons b asks ih =>
      intro out h
      rw [List.foldl_cons]
      rcases List.mem_cons.1 h with rfl | h
      · obtain ⟨m, e⟩ := fold_grow (casesA_grow path) asks (casesA path out a)
        rw [e, List.any_append, casesA_has ha h5]
        rfl
      · exact ih _ h
  intro rows
  induction rows with
  | nil => intro out r h; cases h
  | cons r' rows ih =>
    intro out r hr h
    rw [List.foldl_cons]
    rcases List.mem_cons.1 hr with rfl | hr
    · obtain ⟨m, e⟩ := fold_grow (f := fun out (r : RowT) => r.asks.foldl (casesA path) out) (fun out r => fold_grow (casesA_grow path) r.asks out) rows (r.asks.foldl (casesA path) out)
      rw [e, List.any_append, asks _ _ h]
      rfl
    · exact ih _ r hr h

/-! The two trees are one. -/
theorem asked_at {path : List Int} : ∀ {l : List Pat} {i : Nat} {a : AskT}, a ∈ askedF path i l → ∃ j : Nat, l[j]? = some a.p ∧ a.path = path ++ [((i + j : Nat) : Int)]
  | [], i, a, h => by cases h
  | p :: l, i, a, h => by
    simp only [askedF] at h
    have tail : a ∈ askedF path (i + 1) l → ∃ j : Nat, (p :: l)[j]? = some a.p ∧ a.path = path ++ [((i + j : Nat) : Int)] := fun h => by
      obtain ⟨j, h1, h2⟩ := asked_at h
      exact ⟨j + 1, by simpa using h1, by rw [h2, show i + 1 + j = i + (j + 1) by omega]⟩
    split at h
    · rcases List.mem_cons.1 h with rfl | h
      · exact ⟨0, rfl, rfl⟩
      · exact tail h
    · exact tail h
end
mutual
theorem one_refl : ∀ t : TreeT, oneB t t = true
  | .mk _ _ _ _ k n p c e => by simp [oneB, oneC_refl c, oneL_refl e]
theorem oneC_refl : ∀ l : List TreeT, oneC l l = true
  | [] => rfl
  | t :: l => by simp [oneC, one_refl t, oneC_refl l]
theorem oneL_refl : ∀ l : List TreeT, oneL l l = true
  | [] => rfl
  | t :: l => by simp [oneL, one_refl t, oneL_refl l]
end
end Go.Proofs.Ytjflembhgjcgkaa
/- M20: a tree's run, as a function. No program in sight. -/
set_option linter.unusedSimpArgs false
set_option linter.unusedVariables false
namespace Go.Proofs.Ytjflembhgjcgkaa
open Go.RowKit

def firstF (l : List Pat) (v : Val) : Option Nat := l.findIdx? fun p => fitsB p v
end Go.Proofs.Ytjflembhgjcgkaa
/- M21: a tree that is built of patterns takes a value that goes with them to the first that it fits. No program in sight. -/
set_option linter.unusedSimpArgs false
set_option linter.unusedVariables false
namespace Go.Proofs.Ytjflembhgjcgkaa
open Go.RowKit

theorem at_append {v w : Val} : ∀ {x y : List Int}, atF v x = some w → atF v (x ++ y) = atF w y := by
  intro x
  induction x generalizing v with
  | nil => intro y h; injection h with h; rw [h]; rfl
  | cons i x ih =>
    intro y h
    simp only [List.cons_append, atF] at h ⊢
    split at h
    · cases h
    · rename_i hi
      rw [if_neg hi]
      cases hu : v.l[i.toNat]? with
      | none => rw [hu] at h; cases h
      | some u => rw [hu] at h; exact ih h
theorem at_one {v : Val} {j : Nat} : atF v [(j : Int)] = v.l[j]? := by
  simp only [atF]
  rw [if_neg (by omega)]
  cases h : v.l[j]? with
  | none => simp [h]
  | some w => simp [h, atF]

def fitsA (v : Val) (a : AskT) : Bool := match atF v a.path with
  | some w => fitsB a.p w
  | none => false
def fitsR (v : Val) (r : RowT) : Bool := r.asks.all (fitsA v)
def hasQ (q : Pat) (w : Val) : Bool :=
  if q.kind = 3 then decide (w.kind = 1 ∧ w.n = q.i)
  else if q.kind = 4 then decide (w.kind = 2 ∧ w.s = q.s)
  else if q.kind = 5 then decide ((w.kind = 11 ∨ (w.kind = 4 ∧ w.l = [])) ∧ w.n = q.n)
  else false
theorem has_at (t : TreeT) (q : Pat) (w : Val) : hasB (t.at q.kind q.n q.i q.s) w = hasQ q w := by cases t; rfl
/-- An ask that a value answers. -/
structure AskV (g : Sg) (v : Val) (a : AskT) : Prop where
  tests : openB a.p = false
  wf : Wf g a.p
  at' : ∃ w, atF v a.path = some w ∧ goesP g a.p w
/-- A case. -/
structure CanQ (q : Pat) : Prop where
  three : q.kind = 3 → q.s = ⟨#[]⟩
  four : q.kind = 4 → q.i = 0
  five : q.kind = 5 → q.s = ⟨#[]⟩ ∧ q.i = 0
theorem can_wf {g : Sg} : ∀ {p : Pat}, aloneB g p = true → CanQ p
  | .mk k n i s a b c l, h => by
    unfold aloneB at h
    refine ⟨fun e => ?_, fun e => ?_, fun e => ?_⟩ <;> simp only [Pat.kind] at e <;> subst e <;> simp at h
    · exact h.2.1
    · exact h.2.1
    · exact ⟨h.2.1, h.1⟩
theorem is_iff {q p : Pat} : isB q p = true ↔ q.kind = p.kind ∧ q.s = p.s ∧ q.i = p.i ∧ (q.kind = 5 → q.n = p.n) := by
  unfold isB
  rw [decide_eq_true_eq]

section
variable {g : Sg} {v w : Val} {path : List Int}
/-- What a case has, and what fits a pattern. -/
theorem has_fits {q p : Pat} (hq : CanQ q) (hp : Wf g p) (ho : openB p = false) (hg : goesP g p w) : fitsB p w = true → (isB q p = true ↔ hasQ q w = true) := by
  intro hf
  have hc := can_wf hp.alone
  rw [is_iff]
  rcases alone_kind hp.alone with h | h | h | h
  · rw [ho] at h; cases h
  · obtain ⟨h1, h2⟩ := (fits_three h).1 hf
    unfold hasQ
    rw [h, h1, hc.three h, h2]
    constructor
    · rintro ⟨a, b, c, _⟩
      rw [if_pos a]
      simp [c]
    · intro e
      split at e
      · rename_i hk
        simp at e
        exact ⟨hk, hq.three hk, e.symm, fun h5 => by omega⟩
      · split at e
        · simp at e
        · split at e
          · simp at e
          · cases e
  · obtain ⟨h1, h2⟩ := (fits_four h).1 hf
    unfold hasQ
    rw [h, h1, hc.four h, h2]
    constructor
    · rintro ⟨a, b, c, _⟩
      rw [if_neg (by omega), if_pos a]
      simp [b]
    · intro e
      split at e
      · simp at e
      · split at e
        · rename_i hk
          simp at e
          exact ⟨hk, e.symm, hq.four hk, fun h5 => by omega⟩
        · split at e
          · simp at e
          · cases e
  · obtain ⟨h1, h2, h3, h4⟩ := (fits_five h).1 hf
    unfold hasQ
    rw [h, (hc.five h).1, (hc.five h).2, h2]
    constructor
    · rintro ⟨a, b, c, d⟩
      rw [if_neg (by omega), if_neg (by omega), if_pos a]
      exact decide_eq_true ⟨h1, (d a).symm⟩
    · intro e
      split at e
      · rename_i hk
        have e := (of_decide_eq_true e).1
        rcases h1 with h1 | h1
        · rw [h1] at e; cases e
        · rw [h1.1] at e; cases e
      · split at e
        · have e := (of_decide_eq_true e).1
          rcases h1 with h1 | h1
          · rw [h1] at e; cases e
          · rw [h1.1] at e; cases e
        · split at e
          · rename_i hk
            exact ⟨hk, (hq.five hk).1, (hq.five hk).2, fun _ => (of_decide_eq_true e).2.symm⟩
          · cases e
theorem is_fits {q p : Pat} (hp : Wf g p) (ho : openB p = false) (hg : goesP g p w) (hi : isB q p = true) (hh : hasQ q w = true) : fitsB p w = fitsL p.l w.l ∧ (p.kind = 5 → ConV g w ∧ w.n = p.n) ∧ (p.kind ≠ 5 → p.l = []) := by
  obtain ⟨i1, i2, i3, i4⟩ := is_iff.1 hi
  have hkids : p.kind ≠ 5 → p.l = [] := fun h5 => by
    cases hl : p.l with
    | nil => rfl
    | cons x l => exact absurd (kids_five hp.alone (k := 0) (by rw [hl]; simp)) h5
  refine ⟨?_, ?_, hkids⟩
  · unfold hasQ at hh
    rcases alone_kind hp.alone with h | h | h | h
    · rw [ho] at h; cases h
    · rw [hkids (by omega)]
      rw [if_pos (by omega)] at hh
      have hh := of_decide_eq_true hh
      rw [(fits_three h).2 ⟨hh.1, by rw [hh.2, i3]⟩]
      simp [fitsL]
    · rw [hkids (by omega)]
      rw [if_neg (by omega), if_pos (by omega)] at hh
      have hh := of_decide_eq_true hh
      rw [(fits_four h).2 ⟨hh.1, by rw [hh.2, i2]⟩]
      simp [fitsL]
    · rw [if_neg (by omega), if_neg (by omega), if_pos (by omega)] at hh
      have hh := of_decide_eq_true hh
      have hcv := ((goesP_def.1 hg).2.2 h).1
      rw [Bool.eq_iff_iff, fits_con hcv h hp.alone]
      exact ⟨fun x => x.2, fun x => ⟨by rw [hh.2]; exact i4 (by omega), x⟩⟩
  · intro h5
    unfold hasQ at hh
    rw [if_neg (by omega), if_neg (by omega), if_pos (by omega)] at hh
    have hh := of_decide_eq_true hh
    exact ⟨((goesP_def.1 hg).2.2 h5).1, by rw [hh.2]; exact i4 (by omega)⟩
theorem asked_fits (hw : atF v path = some w) : ∀ (l : List Pat) (ws : List Val) (i : Nat), (∀ j : Nat, w.l[i + j]? = ws[j]?) → l.length ≤ ws.length → (∀ p ∈ l, Wf g p) → goesL g l ws →
    (askedF path i l).all (fitsA v) = fitsL l ws ∧ ∀ a ∈ askedF path i l, AskV g v a
  | [], ws, i, _, _, _, _ => ⟨by cases ws <;> rfl, fun a h => by cases h⟩
  | p :: l, [], i, _, h, _, _ => by simp at h
  | p :: l, x :: ws, i, hj, hl, hwf, hg => by
    obtain ⟨hg1, hg2⟩ := hg
    obtain ⟨h1, h2⟩ := asked_fits hw l ws (i + 1) (fun j => by have := hj (j + 1); rw [List.getElem?_cons_succ] at this; rwa [show i + 1 + j = i + (j + 1) from by omega]) (by simpa using hl) (fun q hq => hwf q (by simp [hq])) hg2
    have hx : w.l[i]? = some x := by have := hj 0; simpa using this
    have hat : atF v (path ++ [(i : Int)]) = some x := by rw [at_append hw, at_one, hx]
    unfold askedF
    have hpw := hwf p (List.mem_cons_self ..)
    by_cases ht : testsB p = true
    · rw [if_pos ht]
      refine ⟨?_, fun a ha => ?_⟩
      · rw [List.all_cons, h1]
        unfold fitsA
        simp only [hat, fitsL]
      · rcases List.mem_cons.1 ha with rfl | ha
        · refine ⟨?_, hpw, x, hat, hg1⟩
          have := of_decide_eq_true ht
          cases ho : openB p with
          | false => rfl
          | true =>
            rcases open_kind ho with h | h
            · have h : p.kind = 1 := h
              omega
            · have h : p.kind = 2 := h
              omega
        · exact h2 a ha
    · rw [if_neg ht]
      refine ⟨?_, h2⟩
      rw [h1]
      have ho : openB p = true := by
        rcases alone_kind hpw.alone with h | h | h | h
        · exact h
        all_goals exact absurd (decide_eq_true (by omega)) ht
      simp only [fitsL, fits_open ho, Bool.true_and]

theorem all_split {α : Type} {f : α → Bool} : ∀ {l : List α} {k : Nat} {a : α}, l[k]? = some a → l.all f = ((l.take k).all f && f a && (l.drop (k + 1)).all f)
  | [], k, a, h => by simp at h
  | x :: l, 0, a, h => by simp at h; subst h; simp
  | x :: l, k + 1, a, h => by
    simp only [List.getElem?_cons_succ] at h
    simp only [List.all_cons, List.take_succ_cons, List.drop_succ_cons]
    rw [all_split h]
    simp only [Bool.and_assoc]

/-- What is left of a row. -/
def Left (g : Sg) (v : Val) (r : RowT) : Option RowT → Prop
  | none => fitsR v r = false
  | some r' => r'.n = r.n ∧ fitsR v r' = fitsR v r ∧ ∀ a ∈ r'.asks, AskV g v a
theorem narrow_some (hw : atF v path = some w) {q : Pat} (hq : CanQ q) (hh : hasQ q w = true) {r : RowT} (hr : ∀ a ∈ r.asks, AskV g v a) : Left g v r (narrowR path (some q) r) := by
  unfold narrowR
  cases hs : spotF path r.asks with
  | none => exact ⟨rfl, rfl, hr⟩
  | some k =>
    obtain ⟨a, ha, hp⟩ := spot_at hs
    have hav := hr a (List.mem_of_getElem? ha)
    obtain ⟨w', hw', hg⟩ := hav.at'
    rw [hp, hw] at hw'
    injection hw' with hw'
    subst hw'
    have hfa : fitsA v a = fitsB a.p w := by unfold fitsA; rw [hp, hw]
    have hall := all_split (f := fitsA v) ha
    simp only [ha]
    cases hi : isB q a.p with
    | true =>
      rw [if_pos rfl]
      obtain ⟨e1, e2, e3⟩ := is_fits hav.wf hav.tests hg hi hh
      have hlen : a.p.l.length ≤ w.l.length ∧ goesL g a.p.l w.l := by
        by_cases h5 : a.p.kind = 5
        · obtain ⟨hc, hn⟩ := e2 h5
          have := ((goesP_def.1 hg).2.2 h5).2.2 hn
          refine ⟨?_, this⟩
          rw [hc.len, hn]
          have hal := hav.wf.alone
          obtain ⟨path', ⟨k0, n0, i0, s0, a0, b0, c0, l0⟩⟩ := a
          simp only [Pat.kind] at h5
          subst h5
          unfold aloneB at hal
          simp at hal
          simp only [Pat.l, Pat.n]
          omega
        · rw [e3 h5]; exact ⟨by simp, by cases w.l <;> trivial⟩
      obtain ⟨h1, h2⟩ := asked_fits hw a.p.l w.l 0 (fun j => by rw [Nat.zero_add]) hlen.1 hav.wf.kids hlen.2
      refine ⟨rfl, ?_, fun b hb => ?_⟩
      · unfold fitsR
        rw [hall, List.all_append, List.all_append, h1, hfa, e1]
      · simp only [List.mem_append] at hb
        rcases hb with (hb | hb) | hb
        · exact hr b (List.mem_of_mem_take hb)
        · exact h2 b hb
        · exact hr b (List.mem_of_mem_drop hb)
    | false =>
      rw [if_neg (by simp)]
      show fitsR v r = false
      unfold fitsR
      rw [hall, hfa]
      cases hf : fitsB a.p w with
      | false => simp
      | true =>
        have := (has_fits hq hav.wf hav.tests hg hf).2 hh
        rw [hi] at this; cases this
theorem narrow_else (hw : atF v path = some w) {cs : List Pat} (hcs : ∀ q ∈ cs, CanQ q ∧ hasQ q w = false) {r : RowT} (hr : ∀ a ∈ r.asks, AskV g v a) (hin : ∀ a ∈ r.asks, a.path = path → (cs.any fun p => isB p a.p) = true) : Left g v r (narrowR path none r) := by
  unfold narrowR
  cases hs : spotF path r.asks with
  | none => exact ⟨rfl, rfl, hr⟩
  | some k =>
    obtain ⟨a, ha, hp⟩ := spot_at hs
    have ham := List.mem_of_getElem? ha
    have hav := hr a ham
    obtain ⟨w', hw', hg⟩ := hav.at'
    rw [hp, hw] at hw'
    injection hw' with hw'
    subst hw'
    have hfa : fitsA v a = fitsB a.p w := by unfold fitsA; rw [hp, hw]
    have hall := all_split (f := fitsA v) ha
    show fitsR v r = false
    unfold fitsR
    rw [hall, hfa]
    cases hf : fitsB a.p w with
    | false => simp
    | true =>
      obtain ⟨q, hq1, hq2⟩ := List.any_eq_true.1 (hin a ham hp)
      obtain ⟨hc, hn⟩ := hcs q hq1
      have := (has_fits hc hav.wf hav.tests hg hf).1 hq2
      rw [hn] at this; cases this
theorem find_narrow {N : RowT → Option RowT} : ∀ (rows : List RowT), (∀ r ∈ rows, Left g v r (N r)) → ((rows.filterMap N).find? (fitsR v)).map (·.n) = (rows.find? (fitsR v)).map (·.n)
  | [], _ => rfl
  | r :: rows, h => by
    have ih := find_narrow rows fun x hx => h x (by simp [hx])
    have h0 := h r (by simp)
    rw [List.filterMap_cons]
    cases hN : N r with
    | none =>
      rw [hN] at h0
      have h0 : fitsR v r = false := h0
      rw [List.find?_cons, h0]
      exact ih
    | some r' =>
      rw [hN] at h0
      obtain ⟨h1, h2, _⟩ := h0
      simp only [List.find?_cons]
      rw [h2]
      cases fitsR v r with
      | true => simp [h1]
      | false => exact ih
theorem rows_narrow {s : Option Pat} {rows : List RowT} (h : ∀ r ∈ rows, Left g v r (narrowR path s r)) : ∀ r ∈ narrowF rows path s, ∀ a ∈ r.asks, AskV g v a := by
  intro r hr
  unfold narrowF at hr
  obtain ⟨r0, h0, e⟩ := List.mem_filterMap.1 hr
  have := h r0 h0
  rw [e] at this
  exact this.2.2

theorem branches_le {F : Int → Option Pat → TreeT × Int} (hF : ∀ l s, (F l s).2 ≤ l - 1) : ∀ (cs : List Pat) (left : Int), (branchesF F cs left).2 ≤ left
  | [], left => by simp [branchesF]
  | q :: cs, left => by
    simp only [branchesF]
    have h1 := branches_le hF cs (F left (some q)).2
    have h2 := hF left (some q)
    omega
theorem buildF_le : ∀ (f : Nat) (left : Int) (rows : List RowT), (buildF g f left rows).2 ≤ left - 1
  | 0, left, rows => by simp [buildF]
  | f + 1, left, [] => by unfold buildF; split <;> simp
  | f + 1, left, r :: rows => by
    unfold buildF
    split
    · simp
    · simp only
      match hra : r.asks with
      | [] => simp
      | a :: asks =>
        simp only
        have hb := branches_le (F := fun left p => buildF g f left (narrowF (r :: rows) a.path p)) (fun l s => buildF_le f l _) (casesF g (r :: rows) a.path a.p) (left - 1)
        split
        · exact hb
        · have := buildF_le f (branchesF (fun left p => buildF g f left (narrowF (r :: rows) a.path p)) (casesF g (r :: rows) a.path a.p) (left - 1)).2 (narrowF (r :: rows) a.path none)
          simp only
          omega
theorem branches_find {F : Int → Option Pat → TreeT × Int} (hF : ∀ l s, (F l s).2 ≤ l - 1) : ∀ (cs : List Pat) (left : Int), 0 ≤ (branchesF F cs left).2 →
    match cs.find? (fun q => hasQ q w) with
    | some q => ∃ lf, lf ≤ left ∧ 0 ≤ (F lf (some q)).2 ∧ (branchesF F cs left).1.find? (fun c => hasB c w) = some ((F lf (some q)).1.at q.kind q.n q.i q.s)
    | none => (branchesF F cs left).1.find? (fun c => hasB c w) = none
  | [], left, _ => rfl
  | q :: cs, left, h => by
    simp only [branchesF] at h ⊢
    have h1 := branches_le hF cs (F left (some q)).2
    have h2 := hF left (some q)
    have ih := branches_find hF cs (F left (some q)).2 h
    rw [List.find?_cons, List.find?_cons, has_at]
    cases hq : hasQ q w with
    | true => exact ⟨left, by omega, by omega, rfl⟩
    | false =>
      simp only
      cases hq' : cs.find? (fun q => hasQ q w) with
      | some q' =>
        rw [hq'] at ih
        obtain ⟨lf, i1, i2, i3⟩ := ih
        exact ⟨lf, by omega, i2, i3⟩
      | none =>
        rw [hq'] at ih
        exact ih

theorem cases_can {rows : List RowT} {first : Pat} (hr : ∀ r ∈ rows, ∀ a ∈ r.asks, AskV g v a) : ∀ q ∈ casesF g rows path first, CanQ q := by
  unfold casesF
  split
  · intro q hq
    obtain ⟨c, _, rfl⟩ := List.mem_map.1 hq
    exact ⟨(fun e => by simp [Pat.kind] at e), (fun e => by simp [Pat.kind] at e), fun _ => ⟨rfl, rfl⟩⟩
  · have inner : ∀ (asks : List AskT) (out : List Pat), (∀ a ∈ asks, AskV g v a) → (∀ q ∈ out, CanQ q) → ∀ q ∈ asks.foldl (casesA path) out, CanQ q := by
      intro asks
      induction asks with
      | nil => exact fun out _ h => h
      | cons a asks ih =>
        intro out ha ho
        refine ih _ (fun b hb => ha b (by simp [hb])) ?_
        unfold casesA
        split
        · intro q hq
          rcases List.mem_append.1 hq with hq | hq
          · exact ho q hq
          · rw [List.mem_singleton.1 hq]
            have hc := can_wf (ha a (by simp)).wf.alone
            exact ⟨hc.three, hc.four, hc.five⟩
        · exact ho
    have outer : ∀ (rows : List RowT) (out : List Pat), (∀ r ∈ rows, ∀ a ∈ r.asks, AskV g v a) → (∀ q ∈ out, CanQ q) → ∀ q ∈ rows.foldl (fun out r => r.asks.foldl (casesA path) out) out, CanQ q := by
      intro rows
      induction rows with
      | nil => exact fun out _ h => h
      | cons r rows ih => exact fun out h ho => ih _ (fun x hx => h x (by simp [hx])) (inner r.asks out (h r (by simp)) ho)
    exact outer rows [] hr fun q hq => by cases hq

theorem rowsOf_find : ∀ (l : List Pat) (i : Nat), (∀ p ∈ l, Wf g p) → ((rowsOf i l).find? (fitsR v)).map (·.n) = (l.findIdx? fun p => fitsB p v).map (fun k => ((i + k : Nat) : Int))
  | [], i, _ => rfl
  | p :: l, i, h => by
    have ih := rowsOf_find l (i + 1) fun q hq => h q (by simp [hq])
    have hpw := h p (by simp)
    have e : fitsR v ⟨if testsB p = true then [⟨[], p⟩] else [], (i : Int)⟩ = fitsB p v := by
      unfold fitsR
      by_cases ht : testsB p = true
      · simp only [if_pos ht, List.all_cons, List.all_nil, Bool.and_true]
        rfl
      · simp only [if_neg ht, List.all_nil]
        have ho : openB p = true := by
          rcases alone_kind hpw.alone with h | h | h | h
          · exact h
          all_goals exact absurd (decide_eq_true (by omega)) ht
        rw [fits_open ho]
    rw [rowsOf, List.find?_cons, e, List.findIdx?_cons]
    cases fitsB p v with
    | true => simp
    | false =>
      simp only [Bool.false_eq_true, if_false]
      rw [ih]
      cases l.findIdx? fun p => fitsB p v with
      | none => rfl
      | some k => simp only [Option.map_some]; congr 1; omega
/-! Where a pattern's names stand there is something. -/
end
end Go.Proofs.Ytjflembhgjcgkaa
