/- M4, M7, M5: in one. -/
import Derived.Test.YtjflembhgjcgkaaTP11XM3C12
import Derived.Test.YtjflembhgjcgkaaTP11XAhAiAj
set_option linter.unusedSimpArgs false
set_option linter.unusedVariables false
/- M4: patterns that ask nothing; how lists of patterns are bounded; when they do not go together. No program in sight. -/
namespace Go.Proofs.Ytjflembhgjcgkaa
open Go.RowKit

def anyP : Pat := .mk 2 0 0 ⟨#[]⟩ 0 0 0 []
def anysL (n : Nat) : List Pat := List.replicate n anyP
def rowNil : List DV := [.v (.int .u8 2), .v (.int .i64 0), .v (.int .i64 0), .v (.string ⟨#[]⟩), .v (.int .i64 0), .v (.int .i64 0), .v (.int .i64 0), .nil]
def rowVnil (k : Int) : List DV := [.v (.int .u8 k), .v (.int .i64 0), .v (.int .i64 0), .v (.string ⟨#[]⟩), .v (.int .i64 0), .v (.int .i64 0), .v (.int .i64 0), .v (.slice none 0 0)]
theorem Wk.vnil (sz : Nat) : Wk (.v (.slice none 0 0)) (.lst sz []) := fun F u ⟨e, _⟩ => ⟨none, 0, e, Nat.le_refl _, .inl rfl⟩
theorem wkL_patnil {k n i a b c : Int} {s : ByteArray} {x : DV} (h : Wk x (.lst 8 [])) : WkL [.v (.int .u8 k), .v (.int .i64 n), .v (.int .i64 i), .v (.string s), .v (.int .i64 a), .v (.int .i64 b), .v (.int .i64 c), x] (patD (.mk k n i s a b c [])) :=
  .cons (.refl _) (.cons (.refl _) (.cons (.refl _) (.cons (.refl _) (.cons (.refl _) (.cons (.refl _) (.cons (.refl _) (.cons h .nil)))))))
theorem wkR_replicate {x y : List DV} (h : WkL x y) : ∀ n : Nat, WkR (List.replicate n x) (List.replicate n y)
  | 0 => trivial
  | n + 1 => ⟨h, wkR_replicate h n⟩
theorem patR_replicate (p : Pat) : ∀ n : Nat, patR (List.replicate n p) = List.replicate n (patD p)
  | 0 => rfl
  | n + 1 => by simp [List.replicate_succ, patR, patR_replicate p n]
theorem wk_anys (n : Nat) : Wk (.lst 8 (List.replicate n rowNil)) (patsD (anysL n)) := by
  refine Wk.lst ?_
  rw [anysL, patR_replicate]
  exact wkR_replicate (wkL_patnil (Wk.nil 8)) n
theorem wk_vanys (n : Nat) : Wk (.lst 8 (List.replicate n (rowVnil 2))) (patsD (anysL n)) := by
  refine Wk.lst ?_
  rw [anysL, patR_replicate]
  exact wkR_replicate (wkL_patnil (Wk.vnil 8)) n

structure SmallP (m : Nat) (l : List Pat) : Prop where
  each : ∀ p ∈ l, p.small m
  len : l.length ≤ m
theorem small_kids {m : Nat} : ∀ {p : Pat}, p.small m → SmallP m p.l
  | .mk .., h => ⟨fun p hp => Pat.smallL_mem h.2.2 p hp, h.1⟩
theorem SmallP.kids {m : Nat} {l : List Pat} (h : SmallP m l) (c : Int) (k : Nat) : SmallP m (kidsL l c k) := by
  refine ⟨fun q hq => ?_, Nat.le_trans (List.length_filterMap_le _ _) h.len⟩
  obtain ⟨p, hp, e⟩ := List.mem_filterMap.1 hq
  split at e
  · exact (small_kids (h.each p hp)).each q (List.mem_of_getElem? e)
  · cases e
theorem SmallP.append {m : Nat} {a b : List Pat} (h : SmallP m a) (k : ∀ p ∈ b, p.small m) (hl : a.length + b.length ≤ m) : SmallP m (a ++ b) :=
  ⟨fun p hp => (List.mem_append.1 hp).elim (h.each p) (k p), by simpa using hl⟩
theorem SmallP.sub {m : Nat} {a b : List Pat} (h : SmallP m a) (hs : ∀ p ∈ b, p ∈ a) (hl : b.length ≤ m) : SmallP m b := ⟨fun p hp => h.each p (hs p hp), hl⟩

theorem tog_alone {g : Sg} {l : List Pat} {p : Pat} (hp : p ∈ l) (h : aloneB g p = false) : togB g l = false := by
  cases ht : togB g l with
  | false => rfl
  | true =>
    obtain ⟨h1, _, _⟩ := togB_iff.1 ht
    rw [h1 p hp] at h; cases h
theorem tog_pair {g : Sg} {l : List Pat} {p q : Pat} (hp : p ∈ l) (hq : q ∈ l) (h : pairB g p q = false) : togB g l = false := by
  cases ht : togB g l with
  | false => rfl
  | true =>
    obtain ⟨_, h1, _⟩ := togB_iff.1 ht
    rw [h1 p hp q hq] at h; cases h
theorem tog_kid {g : Sg} {l : List Pat} {p : Pat} {m : Nat} (hp : p ∈ l) (hm : m < p.l.length) (h : togB g (kidsL l p.n m) = false) : togB g l = false := by
  cases ht : togB g l with
  | false => rfl
  | true =>
    obtain ⟨_, _, h1⟩ := togB_iff.1 ht
    rw [togB_iff.2 (h1 p hp m hm)] at h; cases h
theorem tog_ok {g : Sg} {l : List Pat} (h1 : ∀ p ∈ l, aloneB g p = true) (h2 : ∀ p ∈ l, ∀ q ∈ l, pairB g p q = true) (h3 : ∀ p ∈ l, ∀ m, m < p.l.length → togB g (kidsL l p.n m) = true) : togB g l = true :=
  togB_iff.2 (.mk h1 h2 fun p hp m hm => togB_iff.1 (h3 p hp m hm))
theorem pair_self (g : Sg) (p : Pat) : pairB g p p = true := by unfold pairB; simp
mutual
def namedB : Pat → Bool
  | .mk k _ _ _ _ _ _ l => namedL l || decide (k = 1)
def namedL : List Pat → Bool
  | [] => false
  | p :: l => namedB p || namedL l
end
end Go.Proofs.Ytjflembhgjcgkaa

/- M7: rows of patterns: those below a head, the others, the heads; a head that is not there. No program in sight. -/
namespace Go.Proofs.Ytjflembhgjcgkaa
open Go.RowKit

def belowR (h : Head) (kids : Nat) : List Pat → Option (List Pat)
  | [] => none
  | p :: rest => match asksH p with
    | none => some (anysL kids ++ rest)
    | some k => if k = h then some (p.l ++ rest) else none
def belowL (rows : List (List Pat)) (h : Head) (kids : Nat) : List (List Pat) := rows.filterMap (belowR h kids)
def othersR : List Pat → Option (List Pat)
  | [] => none
  | p :: rest => if openB p then some rest else none
def othersL (rows : List (List Pat)) : List (List Pat) := rows.filterMap othersR
def addH (l : List Head) : Option Head → List Head
  | none => l
  | some h => if h ∈ l then l else l ++ [h]
def headsR (acc : List Head) : List Pat → List Head
  | [] => acc
  | p :: _ => addH acc (asksH p)
def headsL (rows : List (List Pat)) : List Head := rows.foldl headsR []

theorem filterMap_yes {α β : Type} {f : α → Option β} {l : List α} {k : Nat} {x : α} {y : β} (hx : l[k]? = some x) (h : f x = some y) : (l.take (k + 1)).filterMap f = (l.take k).filterMap f ++ [y] := by
  rw [List.take_add_one, hx, List.filterMap_append]; simp [h]
theorem filterMap_no {α β : Type} {f : α → Option β} {l : List α} {k : Nat} {x : α} (hx : l[k]? = some x) (h : f x = none) : (l.take (k + 1)).filterMap f = (l.take k).filterMap f := by
  rw [List.take_add_one, hx, List.filterMap_append]; simp [h]
theorem filterMap_len {α β : Type} (f : α → Option β) (l : List α) (k : Nat) : ((l.take k).filterMap f).length ≤ l.length := Nat.le_trans (List.length_filterMap_le _ _) (by rw [List.length_take]; omega)
theorem heads_next {rows : List (List Pat)} {k : Nat} {r : List Pat} (hx : rows[k]? = some r) : headsL (rows.take (k + 1)) = headsR (headsL (rows.take k)) r := by
  unfold headsL
  rw [List.take_add_one, hx, List.foldl_append]; rfl
theorem headsR_len (acc : List Head) (r : List Pat) : (headsR acc r).length ≤ acc.length + 1 := by
  cases r with
  | nil => simp [headsR]
  | cons p l =>
    simp only [headsR]
    cases asksH p with
    | none => simp [addH]
    | some h => simp only [addH]; split <;> simp
theorem heads_len : ∀ (rows : List (List Pat)) (acc : List Head), (rows.foldl headsR acc).length ≤ acc.length + rows.length
  | [], acc => by simp
  | r :: rows, acc => by
    have h1 := heads_len rows (headsR acc r)
    have h2 := headsR_len acc r
    simp only [List.foldl_cons, List.length_cons]; omega
theorem headsL_len (rows : List (List Pat)) : (headsL rows).length ≤ rows.length := by have := heads_len rows []; simpa [headsL] using this

/-- Rows that may be handed on. -/
structure RowsB (m : Nat) (rows : List (List Pat)) : Prop where
  len : rows.length ≤ m
  each : ∀ r ∈ rows, SmallP m r

/-- The first of a family that is not in a list. -/
def freshN (f : Nat → Head) (l : List Head) : Nat := ((List.range (l.length + 1)).find? fun i => decide (f i ∉ l)).getD 0
theorem inj_len {f : Nat → Head} (hf : ∀ i j, f i = f j → i = j) : ∀ (n : Nat) (l : List Head), (∀ j, j < n → f j ∈ l) → n ≤ l.length
  | 0, _, _ => Nat.zero_le _
  | n + 1, l, h => by
    have h1 := inj_len hf n (l.erase (f n)) fun j hj => by
      have := h j (by omega)
      exact (List.mem_erase_of_ne (fun e => by have := hf _ _ e; omega)).2 this
    rw [List.length_erase_of_mem (h n (by omega))] at h1
    have := List.length_pos_of_mem (h n (by omega))
    omega
theorem freshN_spec {f : Nat → Head} (hf : ∀ i j, f i = f j → i = j) (l : List Head) : f (freshN f l) ∉ l ∧ (∀ j, j < freshN f l → f j ∈ l) ∧ freshN f l ≤ l.length := by
  unfold freshN
  cases h : (List.range (l.length + 1)).find? fun i => decide (f i ∉ l) with
  | none =>
    rw [List.find?_eq_none] at h
    have := inj_len hf (l.length + 1) l fun j hj => by
      have := h j (List.mem_range.2 hj)
      simpa using this
    omega
  | some i =>
    rw [List.find?_eq_some_iff_getElem] at h
    obtain ⟨h1, k, hk, h2, h3⟩ := h
    simp only [List.getElem_range] at h2 h3
    subst h2
    refine ⟨by simpa using h1, fun j hj => ?_, ?_⟩
    · have := h3 j hj
      simpa using this
    · simp at hk; simp; omega
theorem freshN_eq {f : Nat → Head} (hf : ∀ i j, f i = f j → i = j) {l : List Head} {i : Nat} (h1 : f i ∉ l) (h2 : ∀ j, j < i → f j ∈ l) : freshN f l = i := by
  obtain ⟨a, b, _⟩ := freshN_spec hf l
  by_cases c : freshN f l < i
  · exact absurd (h2 _ c) a
  · by_cases d : i < freshN f l
    · exact absurd (b _ d) h1
    · omega
def headI (i : Nat) : Head := ⟨3, 0, i, ⟨#[]⟩⟩
def aas (i : Nat) : ByteArray := ⟨(List.replicate i (97 : UInt8)).toArray⟩
def headS (i : Nat) : Head := ⟨4, 0, 0, aas i⟩
def headC (c : Int) : Head := ⟨5, c, 0, ⟨#[]⟩⟩
theorem headI_inj : ∀ i j, headI i = headI j → i = j := fun i j h => by injection h with _ _ h _; omega
theorem headS_inj : ∀ i j, headS i = headS j → i = j := fun i j h => by
  injection h with _ _ _ h
  injection h with h
  have := congrArg Array.size h
  simpa using this
/-- A pattern of a value that has none of some heads. -/
def freshP (g : Sg) : List Head → Option Pat
  | [] => some anyP
  | h0 :: t => if h0.kind = 3 then some (.mk 3 0 (freshN headI (h0 :: t)) ⟨#[]⟩ 0 0 0 [])
    else if h0.kind = 4 then some (.mk 4 0 0 (aas (freshN headS (h0 :: t))) 0 0 0 [])
    else ((g.consOf (g.dataOf h0.n)).find? fun c => decide (headC c ∉ h0 :: t)).map fun c => .mk 5 c 0 ⟨#[]⟩ 0 0 0 (anysL (g.arity c))
end Go.Proofs.Ytjflembhgjcgkaa

/- M5: patterns by constructor, in a map; the first that asks something. -/
namespace Go.Proofs.Ytjflembhgjcgkaa
open Go.RowKit

def grp (c : Int) (l : List Pat) : List Pat := l.filter fun p => decide (p.kind = 5 ∧ p.n = c)
theorem grp_yes {c : Int} {l : List Pat} {p : Pat} (h5 : p.kind = 5) (hn : p.n = c) : grp c (l ++ [p]) = grp c l ++ [p] := by
  unfold grp; rw [List.filter_append]; simp [h5, hn]
theorem grp_no {c : Int} {l : List Pat} {p : Pat} (h : ¬ (p.kind = 5 ∧ p.n = c)) : grp c (l ++ [p]) = grp c l := by
  unfold grp; rw [List.filter_append]; simp [h]
theorem grp_len (c : Int) (l : List Pat) : (grp c l).length ≤ l.length := List.length_filter_le _ _

theorem nodup_idx {α β : Type} {f : α → β} : ∀ {G : List α}, (G.map f).Nodup → ∀ {i j : Nat} {x y : α}, G[i]? = some x → G[j]? = some y → f x = f y → i = j
  | [], _, _, _, _, _, h, _, _ => by simp at h
  | a :: G, hn, 0, 0, _, _, _, _, _ => rfl
  | a :: G, hn, i + 1, j + 1, x, y, hi, hj, e => by
    rw [List.map_cons, List.nodup_cons] at hn
    exact congrArg (· + 1) (nodup_idx hn.2 (by simpa using hi) (by simpa using hj) e)
  | a :: G, hn, 0, j + 1, x, y, hi, hj, e => by
    rw [List.map_cons, List.nodup_cons] at hn
    simp at hi hj
    subst hi
    exact absurd (List.mem_map.2 ⟨y, List.mem_of_getElem? hj, e.symm⟩) hn.1
  | a :: G, hn, i + 1, 0, x, y, hi, hj, e => by
    rw [List.map_cons, List.nodup_cons] at hn
    simp at hi hj
    subst hj
    exact absurd (List.mem_map.2 ⟨x, List.mem_of_getElem? hi, e⟩) hn.1

def entE (l : List Pat) (x : Int × Nat × Nat) : Int × AV := (x.1, .own x.2.1 x.2.2 8 0 (patR (grp x.1 l)).length)
def kI : Int → Value := Value.int .i64

structure GInv (σ : List AObj) (locM : Nat) (G : List (Int × Nat × Nat)) (l : List Pat) : Prop where
  map : σ[locM]? = some (.map (entsV kI (G.map (entE l))))
  arr : ∀ x ∈ G, σ[x.2.1]? = some (.arr 41 8 x.2.2 (patR (grp x.1 l)))
  keys : (G.map (·.1)).Nodup
  locs : (G.map (·.2.1)).Nodup
  has : ∀ p ∈ l, p.kind = 5 → ∃ x ∈ G, x.1 = p.n
  from_ : ∀ x ∈ G, ∃ p ∈ l, p.kind = 5 ∧ p.n = x.1

section
variable {σ σ' : List AObj} {locM : Nat} {G : List (Int × Nat × Nat)} {l : List Pat} {p : Pat}
theorem GInv.fresh {loc : Nat} {o : AObj} (h : GInv σ locM G l) (hf : Fresh σ loc o σ') : GInv σ' locM G l :=
  ⟨hf.keep h.map, fun x hx => hf.keep (h.arr x hx), h.keys, h.locs, h.has, h.from_⟩
theorem GInv.chg {loc T : Nat} {cs : List AV} {o : AObj} (h : GInv σ locM G l) (hr : σ[loc]? = some (.row T cs)) (hc : Chg σ loc o σ') : GInv σ' locM G l :=
  ⟨hc.keep (fun e => by have := h.map; rw [e, hr] at this; cases this) h.map, fun x hx => hc.keep (fun e => by have := h.arr x hx; rw [e, hr] at this; cases this) (h.arr x hx), h.keys, h.locs, h.has, h.from_⟩
theorem entE_no {c : Int} (hx : ∀ x ∈ G, ¬ (p.kind = 5 ∧ p.n = x.1)) : G.map (entE (l ++ [p])) = G.map (entE l) := by
  apply List.map_congr_left
  intro x hx'
  unfold entE
  rw [grp_no (hx x hx')]
theorem GInv.skip (h : GInv σ locM G l) (h5 : p.kind ≠ 5) : GInv σ locM G (l ++ [p]) := by
  refine ⟨?_, fun x hx => ?_, h.keys, h.locs, fun q hq hq5 => ?_, fun x hx => ?_⟩
  · rw [entE_no (c := 0) fun x _ q => h5 q.1]; exact h.map
  · rw [grp_no fun q => h5 q.1]; exact h.arr x hx
  · rcases List.mem_append.1 hq with hq | hq
    · exact h.has q hq hq5
    · simp at hq; subst hq; exact absurd hq5 h5
  · obtain ⟨q, h1, h2⟩ := h.from_ x hx
    exact ⟨q, List.mem_append_left _ h1, h2⟩

/-- A key that is there. -/
theorem GInv.old (h : GInv σ locM G l) {j loc ver : Nat} (h5 : p.kind = 5) (hj : G[j]? = some (p.n, loc, ver)) {σ1 σ2 : List AObj} (h1 : Chg σ loc (.arr 41 8 (ver + 1) (patR (grp p.n (l ++ [p])))) σ1) (h2 : Chg σ1 locM (.map (entsV kI ((G.map (entE l)).set j (p.n, .own loc (ver + 1) 8 0 (patR (grp p.n (l ++ [p]))).length)))) σ2) : GInv σ2 locM (G.set j (p.n, loc, ver + 1)) (l ++ [p]) := by
  have hjl := (List.getElem?_eq_some_iff.1 hj).1
  have hG : ∀ x ∈ G, x.1 = p.n → x = (p.n, loc, ver) := fun x hx e => by
    obtain ⟨i, hi⟩ := List.getElem?_of_mem hx
    have := nodup_idx (f := (·.1)) h.keys hi hj e
    subst this
    rw [hi] at hj; injection hj
  have hlM : loc ≠ locM := fun e => by have := h.arr _ (List.mem_of_getElem? hj); simp only at this; rw [e, h.map] at this; cases this
  have memset : ∀ x ∈ G.set j (p.n, loc, ver + 1), x = (p.n, loc, ver + 1) ∨ (x ∈ G ∧ x.1 ≠ p.n ∧ x.2.1 ≠ loc) := fun x hx => by
    obtain ⟨i, hi⟩ := List.getElem?_of_mem hx
    by_cases e : j = i
    · subst e; rw [List.getElem?_set_self hjl] at hi; injection hi with hi; exact .inl hi.symm
    · rw [List.getElem?_set_ne e] at hi
      have hm := List.mem_of_getElem? hi
      exact .inr ⟨hm, fun q => e (nodup_idx (f := (·.1)) h.keys hi hj q).symm, fun q => e (nodup_idx (f := (·.2.1)) h.locs hi hj q).symm⟩
  have hk1 : (G.set j (p.n, loc, ver + 1)).map (·.1) = G.map (·.1) := by
    rw [List.map_set]
    apply List.ext_getElem?
    intro i
    by_cases e : j = i
    · subst e; rw [List.getElem?_set_self (by simpa using hjl), List.getElem?_map, hj]; rfl
    · rw [List.getElem?_set_ne e]
  have hk2 : (G.set j (p.n, loc, ver + 1)).map (·.2.1) = G.map (·.2.1) := by
    rw [List.map_set]
    apply List.ext_getElem?
    intro i
    by_cases e : j = i
    · subst e; rw [List.getElem?_set_self (by simpa using hjl), List.getElem?_map, hj]; rfl
    · rw [List.getElem?_set_ne e]
  refine ⟨?_, fun x hx => ?_, by rw [hk1]; exact h.keys, by rw [hk2]; exact h.locs, fun q hq hq5 => ?_, fun x hx => ?_⟩
  · rw [h2.at']
    congr 3
    apply List.ext_getElem?
    intro i
    rw [List.getElem?_map]
    by_cases e : j = i
    · subst e
      rw [List.getElem?_set_self (by simpa using hjl), List.getElem?_set_self hjl]
      rfl
    · rw [List.getElem?_set_ne e, List.getElem?_set_ne e, List.getElem?_map]
      cases hi : G[i]? with
      | none => rfl
      | some x =>
        have : x ∈ G.set j (p.n, loc, ver + 1) := List.mem_of_getElem? (i := i) (by rw [List.getElem?_set_ne e]; exact hi)
        rcases memset x this with rfl | ⟨_, hne, _⟩
        · exact absurd (hG _ (List.mem_of_getElem? hi) rfl) (by intro q; injection q with _ q; injection q with _ q; omega)
        · simp only [Option.map_some]
          unfold entE
          rw [grp_no fun q => hne q.2.symm]
  · rcases memset x hx with rfl | ⟨hm, hne, hloc⟩
    · exact h2.keep hlM h1.at'
    · rw [grp_no fun q => hne q.2.symm]
      refine h2.keep (fun e => ?_) (h1.keep hloc (h.arr x hm))
      have := h.arr x hm
      rw [e, h.map] at this; cases this
  · rcases List.mem_append.1 hq with hq | hq
    · obtain ⟨x, hx, e⟩ := h.has q hq hq5
      obtain ⟨i, hi⟩ := List.getElem?_of_mem hx
      by_cases c : j = i
      · subst c
        rw [hi] at hj
        injection hj with hj
        refine ⟨(p.n, loc, ver + 1), List.mem_of_getElem? (i := j) (List.getElem?_set_self hjl), ?_⟩
        rw [← e, hj]
      · exact ⟨x, List.mem_of_getElem? (i := i) (by rw [List.getElem?_set_ne c]; exact hi), e⟩
    · simp at hq; subst hq
      exact ⟨(q.n, loc, ver + 1), List.mem_of_getElem? (i := j) (List.getElem?_set_self hjl), rfl⟩
  · rcases memset x hx with rfl | ⟨hm, _, _⟩
    · exact ⟨p, by simp, h5, rfl⟩
    · obtain ⟨q, h1, h2⟩ := h.from_ x hm
      exact ⟨q, List.mem_append_left _ h1, h2⟩

/-- A new key. -/
theorem GInv.new (h : GInv σ locM G l) {loc ver : Nat} (h5 : p.kind = 5) (hno : ∀ x ∈ G, x.1 ≠ p.n) {σ1 σ2 : List AObj} (h1 : Fresh σ loc (.arr 41 8 ver (patR (grp p.n (l ++ [p])))) σ1) (h2 : Chg σ1 locM (.map (entsV kI (G.map (entE l) ++ [(p.n, .own loc ver 8 0 (patR (grp p.n (l ++ [p]))).length)]))) σ2) : GInv σ2 locM (G ++ [(p.n, loc, ver)]) (l ++ [p]) := by
  have hlM : loc ≠ locM := (h1.ne h.map).symm
  have hloc : ∀ x ∈ G, x.2.1 ≠ loc := fun x hx => h1.ne (h.arr x hx)
  refine ⟨?_, fun x hx => ?_, ?_, ?_, fun q hq hq5 => ?_, fun x hx => ?_⟩
  · rw [h2.at', List.map_append, entE_no (c := 0) fun x hx q => hno x hx q.2.symm]
    rfl
  · rcases List.mem_append.1 hx with hm | hm
    · rw [grp_no fun q => hno x hm q.2.symm]
      refine h2.keep (fun e => ?_) (h1.keep (h.arr x hm))
      have := h.arr x hm
      rw [e, h.map] at this; cases this
    · simp at hm; subst hm; exact h2.keep hlM h1.at'
  · rw [List.map_append, List.nodup_append]
    refine ⟨h.keys, by simp, fun a ha b hb => ?_⟩
    simp at hb; subst hb
    obtain ⟨x, hx, rfl⟩ := List.mem_map.1 ha
    exact hno x hx
  · rw [List.map_append, List.nodup_append]
    refine ⟨h.locs, by simp, fun a ha b hb => ?_⟩
    simp at hb; subst hb
    obtain ⟨x, hx, rfl⟩ := List.mem_map.1 ha
    exact hloc x hx
  · rcases List.mem_append.1 hq with hq | hq
    · obtain ⟨x, hx, e⟩ := h.has q hq hq5
      exact ⟨x, List.mem_append_left _ hx, e⟩
    · simp at hq; subst hq; exact ⟨(q.n, loc, ver), by simp, rfl⟩
  · rcases List.mem_append.1 hx with hm | hm
    · obtain ⟨q, h1, h2⟩ := h.from_ x hm
      exact ⟨q, List.mem_append_left _ h1, h2⟩
    · simp at hm; subst hm; exact ⟨p, by simp, h5, rfl⟩

/-- What a look-up finds. -/
theorem GInv.look (h : GInv σ locM G l) (c : Int) : ((∀ x ∈ G, x.1 ≠ c) ∧ (getA c (G.map (entE l))).getD (.d .nil) = .d .nil ∧ ∀ v, putA c v (G.map (entE l)) = G.map (entE l) ++ [(c, v)]) ∨
    ∃ j loc ver, G[j]? = some (c, loc, ver) ∧ (getA c (G.map (entE l))).getD (.d .nil) = .own loc ver 8 0 (patR (grp c l)).length ∧ ∀ v, putA c v (G.map (entE l)) = (G.map (entE l)).set j (c, v) := by
  rcases lookA_spec c (G.map (entE l)) 0 with ⟨h1, h2, _, h3⟩ | ⟨j, q, h1, h2, h3, h4, _, h5⟩
  · refine .inl ⟨fun x hx e => ?_, by rw [h2]; rfl, h3⟩
    have : getA c (G.map (entE l)) ≠ none := by
      clear h1 h2 h3
      induction G with
      | nil => cases hx
      | cons a G ih =>
        rw [List.map_cons]
        unfold getA
        split
        · simp
        · rename_i hne
          rcases List.mem_cons.1 hx with rfl | hx
          · exact absurd e.symm hne
          · exact ih' G c l x hx e
    exact this h2
  · rw [List.getElem?_map] at h2
    obtain ⟨x, hx, e⟩ := Option.map_eq_some_iff.1 h2
    obtain ⟨k, loc, ver⟩ := x
    subst e
    have h3 : c = k := h3
    subst h3
    exact .inr ⟨j, loc, ver, hx, by rw [h4]; rfl, h5⟩
where
  ih' : ∀ (G : List (Int × Nat × Nat)) (c : Int) (l : List Pat) (x : Int × Nat × Nat), x ∈ G → x.1 = c → getA c (G.map (entE l)) ≠ none
    | [], _, _, _, hx, _ => by cases hx
    | a :: G, c, l, x, hx, e => by
      rw [List.map_cons]
      unfold getA
      split
      · simp
      · rename_i hne
        rcases List.mem_cons.1 hx with rfl | hx
        · exact absurd e.symm hne
        · exact ih' G c l x hx e
end

theorem pair_trans {g : Sg} {F p q : Pat} (hF : openB F = false) (h1 : pairB g F p = true) (h2 : pairB g F q = true) : pairB g p q = true := by
  unfold pairB at *
  rw [hF] at h1 h2
  cases hp : openB p with
  | true => simp
  | false =>
    cases hq : openB q with
    | true => simp
    | false =>
      rw [hp] at h1
      rw [hq] at h2
      simp only [Bool.false_or, Bool.and_eq_true, decide_eq_true_eq, Bool.or_eq_true, Bool.not_eq_true', decide_eq_false_iff_not] at *
      refine ⟨by rw [← h1.1, h2.1], ?_⟩
      rw [← h1.1]
      rcases h1.2 with h | h
      · exact .inl h
      · rcases h2.2 with k | k
        · exact .inl k
        · exact .inr (by rw [← h, k])

/-- What the first that asks something says of those so far. -/
def FirstIs (g : Sg) (cs : List AV) (l : List Pat) : Prop :=
  (cs = rowNil.map .d ∧ ∀ p ∈ l, openB p = true) ∨ ∃ F ∈ l, openB F = false ∧ cs = (patD F).map .d ∧ ∀ p ∈ l, pairB g F p = true
theorem FirstIs.all {g : Sg} {cs : List AV} {l : List Pat} (h : FirstIs g cs l) : ∀ p ∈ l, ∀ q ∈ l, pairB g p q = true := by
  rcases h with ⟨_, h⟩ | ⟨F, _, hF, _, h⟩
  · intro p hp q hq
    unfold pairB; rw [h p hp]; rfl
  · exact fun p hp q hq => pair_trans hF (h p hp) (h q hq)
theorem FirstIs.open_ {g : Sg} {cs : List AV} {l : List Pat} {p : Pat} (h : FirstIs g cs l) (hp : openB p = true) : FirstIs g cs (l ++ [p]) := by
  rcases h with ⟨e, h⟩ | ⟨F, hm, hF, e, h⟩
  · exact .inl ⟨e, fun q hq => (List.mem_append.1 hq).elim (h q) fun x => by simp at x; subst x; exact hp⟩
  · exact .inr ⟨F, List.mem_append_left _ hm, hF, e, fun q hq => (List.mem_append.1 hq).elim (h q) fun x => by simp at x; subst x; unfold pairB; rw [hp]; simp⟩
end Go.Proofs.Ytjflembhgjcgkaa
