/- M15: the document's tree, by what is known of places; it is the tree of rows. No program in sight. -/
import Derived.Test.YtjflembhgjcgkaaXM10CZM12
import Derived.Test.YtjflembhgjcgkaaM13
set_option linter.unusedSimpArgs false
set_option linter.unusedVariables false
namespace Go.Proofs.Ytjflembhgjcgkaa
open Go.RowKit

structure FactT where
  path : List Int
  is : Pat
  no : List Pat
def zeroPt : Pat := .mk 0 0 0 ⟨#[]⟩ 0 0 0 []
def knownF (L : List FactT) (path : List Int) : Option FactT := L.find? fun f => decide (f.path = path)
/-- What a fact lets be. -/
def factB (f : FactT) (p : Pat) : Bool := !(f.no.any fun q => isB q p) && (!f.no.isEmpty || isB f.is p)
mutual
def mayF (L : List FactT) : Pat → List Int → Bool
  | .mk k n i s a b c l, path => if k = 1 ∨ k = 2 then true else match knownF L path with
    | none => true
    | some f => factB f (.mk k n i s a b c l) && mayL L l path 0
def mayL (L : List FactT) : List Pat → List Int → Nat → Bool
  | [], _, _ => true
  | q :: l, path, i => mayF L q (path ++ [(i : Int)]) && mayL L l path (i + 1)
end
mutual
def asksF (L : List FactT) : Pat → List Int → Option AskT
  | .mk k n i s a b c l, path => if k = 1 ∨ k = 2 then none else match knownF L path with
    | none => some ⟨path, .mk k n i s a b c l⟩
    | some _ => asksL L l path 0
def asksL (L : List FactT) : List Pat → List Int → Nat → Option AskT
  | [], _, _ => none
  | q :: l, path, i => match asksF L q (path ++ [(i : Int)]) with
    | some r => some r
    | none => asksL L l path (i + 1)
end
def thereF : Pat → List Int → Option Pat
  | p, [] => some p
  | p, x :: path => if p.kind = 5 ∧ 0 ≤ x then (match p.l[x.toNat]? with | some q => thereF q path | none => none) else none
def caseR (L : List FactT) (path : List Int) (out : List Pat) (x : Pat) : List Pat := match thereF x path with
  | some q => if openB q = true ∨ mayF L x [] = false ∨ (out.any fun p => isB p q) = true then out else out ++ [.mk q.kind 0 q.i q.s 0 0 0 []]
  | none => out
def casesRef (g : Sg) (l : List Pat) (L : List FactT) (path : List Int) (p : Pat) : List Pat :=
  if p.kind = 5 then (g.consOf (g.dataOf p.n)).map fun c => .mk 5 c 0 ⟨#[]⟩ 0 0 0 []
  else l.foldl (caseR L path) []
def firstMay (L : List FactT) (l : List Pat) : Option Nat := l.findIdx? fun p => mayF L p []
def factOf (path : List Int) (all : List Pat) : Option Pat → FactT
  | some q => ⟨path, q, []⟩
  | none => ⟨path, zeroPt, all⟩
def refT (g : Sg) (l : List Pat) : Nat → Int → List FactT → TreeT × Int
  | 0, left, _ => (bare 0 0 [] [] [], left - 1)
  | f + 1, left, L =>
    if left - 1 < 0 then (bare 0 0 [] [] [], left - 1)
    else match firstMay L l with
      | none => (bare 1 0 [] [] [], left - 1)
      | some i => match l[i]? with
        | none => (bare 1 0 [] [] [], left - 1)
        | some q => match asksF L q [] with
          | none => (bare 2 (i : Int) [] [] [], left - 1)
          | some a =>
            let all := casesRef g l L a.path a.p
            let b := branchesF (fun left p => refT g l f left (L ++ [factOf a.path all p])) all (left - 1)
            if a.p.kind = 5 then (bare 3 0 a.path b.1 [], b.2)
            else
              let e := refT g l f b.2 (L ++ [factOf a.path all none])
              (bare 3 0 a.path b.1 [e.1], e.2)

/-! The asks that are open. -/
mutual
def front (L : List FactT) : Pat → List Int → List AskT
  | .mk k n i s a b c l, path => if k = 1 ∨ k = 2 then [] else match knownF L path with
    | none => [⟨path, .mk k n i s a b c l⟩]
    | some _ => frontL L l path 0
def frontL (L : List FactT) : List Pat → List Int → Nat → List AskT
  | [], _, _ => []
  | q :: l, path, i => front L q (path ++ [(i : Int)]) ++ frontL L l path (i + 1)
end
def rowsG (L : List FactT) : Nat → List Pat → List RowT
  | _, [] => []
  | i, p :: l => if mayF L p [] = true then ⟨front L p [], (i : Int)⟩ :: rowsG L (i + 1) l else rowsG L (i + 1) l

section
variable {L : List FactT}
theorem front_def : ∀ {p : Pat} {path : List Int}, front L p path = if openB p = true then [] else match knownF L path with | none => [⟨path, p⟩] | some _ => frontL L p.l path 0
  | .mk k n i s a b c l, path => by
    by_cases h : k = 1 ∨ k = 2
    · rw [if_pos (show openB (.mk k n i s a b c l) = true from decide_eq_true h)]
      simp only [front]
      rw [if_pos h]
    · rw [if_neg (show ¬ openB (.mk k n i s a b c l) = true from fun e => h (of_decide_eq_true e))]
      simp only [front]
      rw [if_neg h]
      rfl
theorem asksF_def : ∀ {p : Pat} {path : List Int}, asksF L p path = if openB p = true then none else match knownF L path with | none => some ⟨path, p⟩ | some _ => asksL L p.l path 0
  | .mk k n i s a b c l, path => by
    by_cases h : k = 1 ∨ k = 2
    · rw [if_pos (show openB (.mk k n i s a b c l) = true from decide_eq_true h)]
      simp only [asksF]
      rw [if_pos h]
    · rw [if_neg (show ¬ openB (.mk k n i s a b c l) = true from fun e => h (of_decide_eq_true e))]
      simp only [asksF]
      rw [if_neg h]
      rfl
theorem mayF_def : ∀ {p : Pat} {path : List Int}, mayF L p path = if openB p = true then true else match knownF L path with | none => true | some f => factB f p && mayL L p.l path 0
  | .mk k n i s a b c l, path => by
    by_cases h : k = 1 ∨ k = 2
    · rw [if_pos (show openB (.mk k n i s a b c l) = true from decide_eq_true h)]
      simp only [mayF]
      rw [if_pos h]
    · rw [if_neg (show ¬ openB (.mk k n i s a b c l) = true from fun e => h (of_decide_eq_true e))]
      simp only [mayF]
      rw [if_neg h]
      rfl
theorem asksL_front {l : List Pat} (h : ∀ p ∈ l, ∀ path, asksF L p path = (front L p path).head?) : ∀ (path : List Int) (i : Nat), asksL L l path i = (frontL L l path i).head? := by
  induction l with
  | nil => intro path i; rfl
  | cons q l ih =>
    intro path i
    simp only [asksL, frontL]
    rw [h q (List.mem_cons_self ..), ih (fun p hp => h p (List.mem_cons_of_mem _ hp))]
    cases front L q (path ++ [(i : Int)]) with
    | nil => rfl
    | cons a t => rfl
theorem asks_front : ∀ (p : Pat) (path : List Int), asksF L p path = (front L p path).head? := by
  refine ind_pat fun k n i s a b c l ih path => ?_
  rw [asksF_def, front_def]
  split
  · rfl
  · cases knownF L path with
    | none => rfl
    | some f => exact asksL_front ih path 0
theorem frontL_mem {l : List Pat} {path : List Int} {a : AskT} : ∀ {i : Nat}, a ∈ frontL L l path i ↔ ∃ (j : Nat) (q : Pat), l[j]? = some q ∧ a ∈ front L q (path ++ [((i + j : Nat) : Int)]) := by
  induction l with
  | nil => intro i; exact ⟨fun h => (by cases h), fun ⟨j, q, e, _⟩ => (by simp at e)⟩
  | cons q l ih =>
    intro i
    simp only [frontL, List.mem_append, ih]
    constructor
    · rintro (h | ⟨j, q', e, h⟩)
      · exact ⟨0, q, rfl, h⟩
      · exact ⟨j + 1, q', by simpa using e, by rw [show i + (j + 1) = i + 1 + j by omega]; exact h⟩
    · rintro ⟨j, q', e, h⟩
      cases j with
      | zero => simp at e; subst e; exact .inl h
      | succ j => exact .inr ⟨j, q', by simpa using e, by rw [show i + 1 + j = i + (j + 1) by omega]; exact h⟩
/-- What is asked at a place below: its way, what stands there; all ahead of it is known. -/
theorem front_path {g : Sg} : ∀ (p : Pat), Wf g p → ∀ (path : List Int) (a : AskT), a ∈ front L p path → ∃ rest, a.path = path ++ rest ∧ thereF p rest = some a.p ∧ openB a.p = false ∧ knownF L a.path = none ∧ (∀ x ∈ rest, 0 ≤ x) ∧ ∀ x y, rest = x ++ y → y ≠ [] → knownF L (path ++ x) ≠ none := by
  refine ind_pat fun k n i s a b c l ih hw path a' h => ?_
  rw [front_def] at h
  split at h
  · cases h
  · rename_i ho
    cases hk : knownF L path with
    | none =>
      rw [hk] at h
      have := List.mem_singleton.1 h
      subst this
      refine ⟨[], by simp, rfl, by simpa using ho, hk, by simp, fun x y e hy => ?_⟩
      exact absurd (List.append_eq_nil_iff.1 e.symm).2 hy
    | some f =>
      rw [hk] at h
      obtain ⟨j, q, e, h1⟩ := frontL_mem.1 h
      have h5 := kids_five hw.alone (List.getElem?_eq_some_iff.1 e).1
      simp only [Pat.l] at e
      rw [Nat.zero_add] at h1
      obtain ⟨rest, h2, h3, h4, h5', h7, h6⟩ := ih q (List.mem_of_getElem? e) (hw.kids q (List.mem_of_getElem? e)) _ _ h1
      refine ⟨(j : Int) :: rest, by rw [h2]; simp, ?_, h4, h5', ?_, fun x y e' hy => ?_⟩
      · simp only [thereF]
        rw [if_pos ⟨h5, by omega⟩]
        simp only [Pat.l, Int.toNat_natCast]
        rw [e]
        exact h3
      · intro x hx
        rcases List.mem_cons.1 hx with rfl | hx
        · omega
        · exact h7 x hx
      · cases x with
        | nil => rw [List.append_nil, hk]; exact fun e => by cases e
        | cons z x =>
          injection e' with e1 e2
          subst e1
          have := h6 x y e2 hy
          rw [List.append_assoc] at this
          exact this
theorem front_of {g : Sg} {q : Pat} (hq : openB q = false) : ∀ (rest : List Int) (p : Pat) (path : List Int), Wf g p → thereF p rest = some q → knownF L (path ++ rest) = none → (∀ x y, rest = x ++ y → y ≠ [] → knownF L (path ++ x) ≠ none) → ⟨path ++ rest, q⟩ ∈ front L p path
  | [], p, path, hw, h1, h2, h3 => by
    injection h1 with h1
    subst h1
    rw [List.append_nil] at h2 ⊢
    rw [front_def, if_neg (by rw [hq]; decide), h2]
    exact List.mem_singleton.2 rfl
  | x :: rest, p, path, hw, h1, h2, h3 => by
    simp only [thereF] at h1
    split at h1
    · rename_i hh
      obtain ⟨h5, hx⟩ := hh
      cases e : p.l[x.toNat]? with
      | none => rw [e] at h1; cases h1
      | some p' =>
        rw [e] at h1
        have hk := h3 [] (x :: rest) rfl (by simp)
        rw [List.append_nil] at hk
        have ho : ¬ openB p = true := fun e => by have := open_kind e; omega
        rw [front_def, if_neg ho]
        cases hf : knownF L path with
        | none => exact absurd hf hk
        | some f =>
          refine frontL_mem.2 ⟨x.toNat, p', e, ?_⟩
          have hxx : ((0 + x.toNat : Nat) : Int) = x := by omega
          rw [hxx]
          have := front_of hq rest p' (path ++ [x]) (hw.kids p' (List.mem_of_getElem? e)) h1 (by rw [List.append_assoc]; exact h2) fun y z e hz => by
            have := h3 (x :: y) z (by rw [e]; rfl) hz
            rw [List.append_assoc]
            exact this
          rw [List.append_assoc] at this
          exact this
    · cases h1
/-- No place is asked twice. -/
theorem front_once {g : Sg} : ∀ (p : Pat), Wf g p → ∀ (path : List Int), (front L p path).Pairwise fun a b => a.path ≠ b.path := by
  refine ind_pat fun k n i s a b c l ih hw path => ?_
  rw [front_def]
  split
  · exact List.Pairwise.nil
  · cases hk : knownF L path with
    | none => exact List.pairwise_singleton ..
    | some f =>
      simp only [Pat.l]
      have hkids : ∀ q ∈ l, Wf g q := hw.kids
      have key : ∀ (l' : List Pat) (j : Nat), (∀ q ∈ l', q ∈ l) → (frontL L l' path j).Pairwise fun a b => a.path ≠ b.path := by
        intro l'
        induction l' with
        | nil => intro j _; exact List.Pairwise.nil
        | cons q l' ih' =>
          intro j hs
          simp only [frontL]
          refine List.pairwise_append.2 ⟨ih q (hs q (List.mem_cons_self ..)) (hkids q (hs q (List.mem_cons_self ..))) _, ih' (j + 1) fun x hx => hs x (List.mem_cons_of_mem _ hx), fun x hx y hy => ?_⟩
          obtain ⟨r1, h1, _⟩ := front_path q (hkids q (hs q (List.mem_cons_self ..))) _ _ hx
          obtain ⟨m, q', e, hy⟩ := frontL_mem.1 hy
          obtain ⟨r2, h2, _⟩ := front_path q' (hkids q' (hs q' (List.mem_cons_of_mem _ (List.mem_of_getElem? e)))) _ _ hy
          rw [h1, h2, List.append_assoc, List.append_assoc]
          intro he
          have := List.append_cancel_left he
          injection this with this
          omega
      exact key l 0 fun q hq => hq

/-! One fact more. -/
/-- What is below an unknown place is unknown. -/
def Clo (L : List FactT) : Prop := ∀ (x : List Int) (i : Nat), knownF L x = none → knownF L (x ++ [(i : Int)]) = none
theorem known_add (f : FactT) (path : List Int) : knownF (L ++ [f]) path = match knownF L path with | some x => some x | none => if f.path = path then some f else none := by
  unfold knownF
  rw [List.find?_append]
  cases L.find? fun f => decide (f.path = path) with
  | some x => rfl
  | none =>
    simp only [List.find?_cons, List.find?_nil, Option.none_or]
    by_cases h : f.path = path
    · rw [if_pos h, decide_eq_true h]
    · rw [if_neg h, decide_eq_false h]
/-- An ask, when a fact is known of its place. -/
def openA (f : FactT) (a : AskT) : List AskT := if a.path = f.path then askedF f.path 0 a.p.l else [a]
def okA (f : FactT) (a : AskT) : Bool := if a.path = f.path then factB f a.p else true
theorem frontL_unknown {g : Sg} {path : List Int} (hu : ∀ i : Nat, knownF L (path ++ [(i : Int)]) = none) : ∀ (l : List Pat) (i : Nat), (∀ q ∈ l, Wf g q) → frontL L l path i = askedF path i l
  | [], i, _ => rfl
  | q :: l, i, hw => by
    simp only [frontL, askedF]
    rw [frontL_unknown hu l (i + 1) fun x hx => hw x (List.mem_cons_of_mem _ hx), front_def, hu i]
    have ha := alone_kind (hw q (List.mem_cons_self ..)).alone
    by_cases ho : openB q = true
    · have := open_kind ho
      rw [if_pos ho, if_neg (fun e => by have := of_decide_eq_true e; omega)]
      rfl
    · rw [if_neg ho]
      have ht : testsB q = true := decide_eq_true (by rcases ha with e | e | e | e; exact absurd e ho; all_goals omega)
      rw [if_pos ht]
      rfl
theorem mayL_unknown {path : List Int} (hu : ∀ i : Nat, knownF L (path ++ [(i : Int)]) = none) : ∀ (l : List Pat) (i : Nat), mayL L l path i = true
  | [], i => rfl
  | q :: l, i => by
    simp only [mayL]
    rw [mayL_unknown hu l (i + 1), mayF_def, hu i]
    split <;> rfl
section
variable {g : Sg} {f : FactT}
theorem front_add (hc : Clo L) (hn : knownF L f.path = none) : ∀ (p : Pat), Wf g p → ∀ (path : List Int), front (L ++ [f]) p path = (front L p path).flatMap (openA f) := by
  have hu : ∀ i : Nat, knownF (L ++ [f]) (f.path ++ [(i : Int)]) = none := fun i => by
    rw [known_add, hc f.path i hn]
    simp only
    rw [if_neg (fun e => by have := congrArg List.length e; simp at this)]
  refine ind_pat fun k n i s a b c l ih hw path => ?_
  rw [front_def, front_def]
  split
  · rfl
  · rw [known_add]
    cases hk : knownF L path with
    | some x =>
      simp only [Pat.l]
      have hkids : ∀ q ∈ l, Wf g q := hw.kids
      have key : ∀ (l' : List Pat) (j : Nat), (∀ q ∈ l', q ∈ l) → frontL (L ++ [f]) l' path j = (frontL L l' path j).flatMap (openA f) := by
        intro l'
        induction l' with
        | nil => intro j _; rfl
        | cons q l' ih' =>
          intro j hs
          simp only [frontL]
          rw [List.flatMap_append, ih q (hs q (List.mem_cons_self ..)) (hkids q (hs q (List.mem_cons_self ..))), ih' (j + 1) fun x hx => hs x (List.mem_cons_of_mem _ hx)]
      exact key l 0 fun q hq => hq
    | none =>
      simp only [List.flatMap_cons, List.flatMap_nil, List.append_nil, openA]
      by_cases e : f.path = path
      · rw [if_pos e, if_pos e.symm]
        subst e
        exact frontL_unknown hu l 0 hw.kids
      · rw [if_neg e, if_neg (fun x => e x.symm)]
theorem may_add (hc : Clo L) (hn : knownF L f.path = none) : ∀ (p : Pat) (path : List Int), mayF (L ++ [f]) p path = (mayF L p path && (front L p path).all (okA f)) := by
  have hu : ∀ i : Nat, knownF (L ++ [f]) (f.path ++ [(i : Int)]) = none := fun i => by
    rw [known_add, hc f.path i hn]
    simp only
    rw [if_neg (fun e => by have := congrArg List.length e; simp at this)]
  refine ind_pat fun k n i s a b c l ih path => ?_
  rw [mayF_def, mayF_def, front_def]
  split
  · rfl
  · rw [known_add]
    cases hk : knownF L path with
    | some x =>
      simp only [Pat.l]
      have key : ∀ (l' : List Pat) (j : Nat), (∀ q ∈ l', q ∈ l) → mayL (L ++ [f]) l' path j = (mayL L l' path j && (frontL L l' path j).all (okA f)) := by
        intro l'
        induction l' with
        | nil => intro j _; rfl
        | cons q l' ih' =>
          intro j hs
          simp only [mayL, frontL]
          rw [List.all_append, ih q (hs q (List.mem_cons_self ..)), ih' (j + 1) fun x hx => hs x (List.mem_cons_of_mem _ hx)]
          cases mayF L q (path ++ [(j : Int)]) <;> cases mayL L l' path (j + 1) <;> cases (front L q (path ++ [(j : Int)])).all (okA f) <;> rfl
      rw [key l 0 fun q hq => hq, Bool.and_assoc]
    | none =>
      simp only [List.all_cons, List.all_nil, Bool.and_true, Bool.true_and, okA]
      by_cases e : f.path = path
      · rw [if_pos e, if_pos e.symm]
        subst e
        simp only
        rw [mayL_unknown hu, Bool.and_true]
      · rw [if_neg e, if_neg (fun x => e x.symm)]
theorem clo_add (hc : Clo L) (hp : ∀ x y, f.path = x ++ y → y ≠ [] → knownF L x ≠ none) : Clo (L ++ [f]) := by
  intro x i h
  rw [known_add] at h ⊢
  cases hk : knownF L x with
  | some z => rw [hk] at h; cases h
  | none =>
    rw [hc x i hk]
    simp only
    by_cases e : f.path = x ++ [(i : Int)]
    · exact absurd hk (hp x [(i : Int)] e (by simp))
    · rw [if_neg e]

/-! Rows that are narrowed. -/
theorem spot_none {path : List Int} {asks : List AskT} (h : spotF path asks = none) : ∀ a ∈ asks, a.path ≠ path := fun a ha e => by
  have := List.findIdx?_eq_none_iff.1 h a ha
  simp [e] at this
theorem narrow_row {path : List Int} {some' : Option Pat} (hp : f.path = path) {r : RowT} (hone : r.asks.Pairwise fun a b => a.path ≠ b.path)
    (hok : ∀ a ∈ r.asks, a.path = path → factB f a.p = match some' with | some q => isB q a.p | none => false) :
    narrowR path some' r = if r.asks.all (okA f) = true then some ⟨r.asks.flatMap (openA f), r.n⟩ else none := by
  subst hp
  unfold narrowR
  cases hs : spotF f.path r.asks with
  | none =>
    have hno := spot_none hs
    have e1 : r.asks.all (okA f) = true := List.all_eq_true.2 fun a ha => by unfold okA; rw [if_neg (hno a ha)]
    have e2 : ∀ l : List AskT, (∀ a ∈ l, a.path ≠ f.path) → l.flatMap (openA f) = l := by
      intro l
      induction l with
      | nil => intro _; rfl
      | cons a l ih =>
        intro h
        rw [List.flatMap_cons, ih fun x hx => h x (List.mem_cons_of_mem _ hx)]
        unfold openA
        rw [if_neg (h a (List.mem_cons_self ..))]
        rfl
    rw [if_pos e1, e2 _ hno]
  | some k =>
    obtain ⟨hk, hka, hkb⟩ := List.findIdx?_eq_some_iff_getElem.1 hs
    have hka := of_decide_eq_true hka
    obtain ⟨a, ha⟩ := getS hk
    have hae : r.asks[k] = a := by have := List.getElem?_eq_some_iff.1 ha; exact this.2
    rw [hae] at hka
    simp only [ha]
    have hsplit : r.asks = r.asks.take k ++ a :: r.asks.drop (k + 1) := by
      rw [← drop_get ha, List.take_append_drop]
    have hone' := hone
    rw [hsplit] at hone'
    obtain ⟨_, h2, h3⟩ := List.pairwise_append.1 hone'
    have n1 : ∀ x ∈ r.asks.take k, x.path ≠ f.path := fun x hx => by rw [← hka]; exact h3 x hx a (List.mem_cons_self ..)
    have n2 : ∀ x ∈ r.asks.drop (k + 1), x.path ≠ f.path := fun x hx => by rw [← hka]; exact fun e => (List.pairwise_cons.1 h2).1 x hx e.symm
    have e2 : ∀ l : List AskT, (∀ a ∈ l, a.path ≠ f.path) → l.flatMap (openA f) = l ∧ l.all (okA f) = true := by
      intro l
      induction l with
      | nil => intro _; exact ⟨rfl, rfl⟩
      | cons a l ih =>
        intro h
        obtain ⟨i1, i2⟩ := ih fun x hx => h x (List.mem_cons_of_mem _ hx)
        rw [List.flatMap_cons, i1, List.all_cons, i2]
        unfold openA okA
        rw [if_neg (h a (List.mem_cons_self ..)), if_neg (h a (List.mem_cons_self ..))]
        exact ⟨rfl, rfl⟩
    have e3 : r.asks.flatMap (openA f) = r.asks.take k ++ askedF f.path 0 a.p.l ++ r.asks.drop (k + 1) := by
      conv => lhs; rw [hsplit]
      rw [List.flatMap_append, List.flatMap_cons, (e2 _ n1).1, (e2 _ n2).1, List.append_assoc]
      unfold openA
      rw [if_pos hka]
    have e4 : r.asks.all (okA f) = factB f a.p := by
      conv => lhs; rw [hsplit]
      rw [List.all_append, List.all_cons, (e2 _ n1).2, (e2 _ n2).2, Bool.true_and, Bool.and_true]
      unfold okA
      rw [if_pos hka]
    rw [e3, e4, hok a (List.mem_of_getElem? ha) hka]
    cases some' with
    | none => rfl
    | some q => rfl
theorem narrow_rows {path : List Int} {some' : Option Pat} (hp : f.path = path) (hc : Clo L) (hn : knownF L path = none) : ∀ (l : List Pat) (i : Nat), (∀ p ∈ l, Wf g p) →
    (∀ r ∈ rowsG L i l, ∀ a ∈ r.asks, a.path = path → factB f a.p = match some' with | some q => isB q a.p | none => false) → narrowF (rowsG L i l) path some' = rowsG (L ++ [f]) i l
  | [], i, _, _ => rfl
  | p :: l, i, hw, hok => by
    subst hp
    have hpw := hw p (List.mem_cons_self ..)
    have ih := fun h => narrow_rows (some' := some') rfl hc hn l (i + 1) (fun x hx => hw x (List.mem_cons_of_mem _ hx)) h
    simp only [rowsG] at hok ⊢
    rw [may_add hc hn p []]
    cases hm : mayF L p [] with
    | false =>
      rw [hm, if_neg (by decide)] at hok
      rw [if_neg (by decide), Bool.false_and, if_neg (by decide)]
      exact ih hok
    | true =>
      rw [hm, if_pos rfl] at hok
      rw [if_pos rfl, Bool.true_and]
      unfold narrowF at ih ⊢
      rw [List.filterMap_cons, ih fun r hr => hok r (List.mem_cons_of_mem _ hr), narrow_row rfl (front_once p hpw []) fun a ha e => hok _ (List.mem_cons_self ..) a ha e]
      rw [front_add hc hn p hpw []]
      simp only
      cases h : (front L p []).all (okA f) with
      | true => rfl
      | false => rfl
end

/-! What is told apart at a place. -/
theorem rows_mem {l : List Pat} {r : RowT} : ∀ {i : Nat}, r ∈ rowsG L i l → ∃ p ∈ l, mayF L p [] = true ∧ r.asks = front L p [] := by
  induction l with
  | nil => intro i h; cases h
  | cons p l ih =>
    intro i h
    simp only [rowsG] at h
    split at h
    · rename_i hm
      rcases List.mem_cons.1 h with rfl | h
      · exact ⟨p, List.mem_cons_self .., hm, rfl⟩
      · obtain ⟨q, h1, h2⟩ := ih h
        exact ⟨q, List.mem_cons_of_mem _ h1, h2⟩
    · obtain ⟨q, h1, h2⟩ := ih h
      exact ⟨q, List.mem_cons_of_mem _ h1, h2⟩
theorem casesA_skip {path : List Int} : ∀ (asks : List AskT) (out : List Pat), (∀ a ∈ asks, a.path ≠ path) → asks.foldl (casesA path) out = out
  | [], out, _ => rfl
  | a :: asks, out, h => by
    rw [List.foldl_cons]
    have e : casesA path out a = out := by unfold casesA; rw [if_neg (fun x => h a (List.mem_cons_self ..) x.1)]
    rw [e]
    exact casesA_skip asks out fun x hx => h x (List.mem_cons_of_mem _ hx)
theorem casesA_one {path : List Int} {a : AskT} (ha : a.path = path) : ∀ (asks : List AskT) (out : List Pat), a ∈ asks → (asks.Pairwise fun a b => a.path ≠ b.path) → asks.foldl (casesA path) out = casesA path out a
  | [], out, h, _ => by cases h
  | b :: asks, out, h, ho => by
    rw [List.foldl_cons]
    obtain ⟨h1, h2⟩ := List.pairwise_cons.1 ho
    rcases List.mem_cons.1 h with rfl | h
    · exact casesA_skip asks _ fun x hx e => h1 x hx (ha.trans e.symm)
    · have e : casesA path out b = out := by
        unfold casesA
        rw [if_neg (fun x => h1 a h (x.1.trans ha.symm))]
      rw [e]
      exact casesA_one ha asks out h h2
theorem cases_eq {g : Sg} {path : List Int} (hn : knownF L path = none) (hp : ∀ x y, path = x ++ y → y ≠ [] → knownF L x ≠ none) : ∀ (l : List Pat) (i : Nat) (out : List Pat), (∀ p ∈ l, Wf g p) →
    (rowsG L i l).foldl (fun out r => r.asks.foldl (casesA path) out) out = l.foldl (caseR L path) out
  | [], i, out, _ => rfl
  | p :: l, i, out, hw => by
    have hpw := hw p (List.mem_cons_self ..)
    have ih := fun out => cases_eq hn hp l (i + 1) out fun x hx => hw x (List.mem_cons_of_mem _ hx)
    rw [List.foldl_cons]
    simp only [rowsG]
    cases hm : mayF L p [] with
    | false =>
      rw [if_neg (by decide), ih]
      congr 1
      unfold caseR
      split
      · rw [if_pos (.inr (.inl hm))]
      · rfl
    | true =>
      rw [if_pos rfl, List.foldl_cons, ih]
      congr 1
      simp only
      unfold caseR
      cases ht : thereF p path with
      | none =>
        refine casesA_skip _ _ fun a ha e => ?_
        obtain ⟨rest, h1, h2, _⟩ := front_path p hpw [] a ha
        rw [List.nil_append] at h1
        rw [← h1, e, ht] at h2
        cases h2
      | some q =>
        simp only
        cases ho : openB q with
        | true =>
          rw [if_pos (.inl rfl)]
          refine casesA_skip _ _ fun a ha e => ?_
          obtain ⟨rest, h1, h2, h3, _⟩ := front_path p hpw [] a ha
          rw [List.nil_append] at h1
          rw [← h1, e, ht] at h2
          injection h2 with h2
          rw [← h2, ho] at h3
          cases h3
        | false =>
          have hmem : (⟨path, q⟩ : AskT) ∈ front L p [] := by
            have := front_of (L := L) ho path p [] hpw ht (by rw [List.nil_append]; exact hn) fun x y e hy => by rw [List.nil_append]; exact hp x y e hy
            rw [List.nil_append] at this
            exact this
          rw [casesA_one rfl _ _ hmem (front_once p hpw [])]
          unfold casesA
          simp only [true_and, hm, Bool.false_eq_true, Bool.true_eq_false, false_or]
          cases out.any fun p => isB p q with
          | true => simp
          | false => simp
theorem fold_grow {α : Type} {f : List Pat → α → List Pat} (hf : ∀ out a, ∃ m, f out a = out ++ m) : ∀ (l : List α) (out : List Pat), ∃ m, l.foldl f out = out ++ m
  | [], out => ⟨[], by simp⟩
  | a :: l, out => by
    obtain ⟨m, e⟩ := hf out a
    obtain ⟨m', e'⟩ := fold_grow hf l (f out a)
    exact ⟨m ++ m', by rw [List.foldl_cons, e', e, List.append_assoc]⟩
theorem casesA_grow (path : List Int) (out : List Pat) (a : AskT) : ∃ m, casesA path out a = out ++ m := by
  unfold casesA
  split
  · exact ⟨_, rfl⟩
  · exact ⟨[], by simp⟩
theorem casesA_has {path : List Int} {a : AskT} (ha : a.path = path) (h5 : a.p.kind ≠ 5) (out : List Pat) : (casesA path out a).any (fun p => isB p a.p) = true := by
  unfold casesA
  split
  · rw [List.any_append]
    simp only [List.any_cons, List.any_nil, Bool.or_false, Bool.or_eq_true]
    right
    exact decide_eq_true ⟨rfl, rfl, rfl, fun e => absurd e h5⟩
  · rename_i h
    cases e : out.any fun p => isB p a.p with
    | true => rfl
    | false => exact absurd ⟨ha, e⟩ h
theorem cases_has {path : List Int} {a : AskT} (ha : a.path = path) (h5 : a.p.kind ≠ 5) : ∀ (rows : List RowT) (out : List Pat) (r : RowT), r ∈ rows → a ∈ r.asks → (rows.foldl (fun out r => r.asks.foldl (casesA path) out) out).any (fun p => isB p a.p) = true := by
  have asks : ∀ (asks : List AskT) (out : List Pat), a ∈ asks → (asks.foldl (casesA path) out).any (fun p => isB p a.p) = true := by
    intro asks
    induction asks with
    | nil => intro out h; cases h
    | cons b asks ih =>
      intro out h
      rw [List.foldl_cons]
      rcases List.mem_cons.1 h with rfl | h
      · obtain ⟨m, e⟩ := fold_grow (casesA_grow path) asks (casesA path out a)
        rw [e, List.any_append, casesA_has ha h5]
        rfl
      · exact ih _ h
  intro rows
  induction rows with
  | nil => intro out r h; cases h
  | cons r' rows ih =>
    intro out r hr h
    rw [List.foldl_cons]
    rcases List.mem_cons.1 hr with rfl | hr
    · obtain ⟨m, e⟩ := fold_grow (f := fun out (r : RowT) => r.asks.foldl (casesA path) out) (fun out r => fold_grow (casesA_grow path) r.asks out) rows (r.asks.foldl (casesA path) out)
      rw [e, List.any_append, asks _ _ h]
      rfl
    · exact ih _ r hr h

/-! The two trees are one. -/
theorem rows_first : ∀ (l : List Pat) (i : Nat), match firstMay L l with
    | none => rowsG L i l = []
    | some j => ∃ p rest, l[j]? = some p ∧ mayF L p [] = true ∧ rowsG L i l = ⟨front L p [], ((i + j : Nat) : Int)⟩ :: rest
  | [], i => rfl
  | p :: l, i => by
    have ih := rows_first l (i + 1)
    unfold firstMay at ih ⊢
    rw [List.findIdx?_cons]
    simp only [rowsG]
    cases hm : mayF L p [] with
    | true =>
      simp only [if_true]
      exact ⟨p, _, rfl, hm, rfl⟩
    | false =>
      simp only [Bool.false_eq_true, if_false]
      cases hf : l.findIdx? fun p => mayF L p [] with
      | none => rw [hf] at ih; exact ih
      | some j =>
        rw [hf] at ih
        obtain ⟨q, rest, h1, h2, h3⟩ := ih
        refine ⟨q, rest, by simpa using h1, h2, ?_⟩
        rw [h3, show i + 1 + j = i + (j + 1) by omega]
theorem branches_same {F G : Int → Option Pat → TreeT × Int} : ∀ (l : List Pat) (left : Int), (∀ left p, p ∈ l → F left (some p) = G left (some p)) → branchesF F l left = branchesF G l left
  | [], left, _ => rfl
  | p :: l, left, h => by
    simp only [branchesF]
    rw [h left p (List.mem_cons_self ..), branches_same l _ fun left q hq => h left q (List.mem_cons_of_mem _ hq)]
/-- What is asked at one place goes together. -/
def TogR (g : Sg) (L : List FactT) (l : List Pat) : Prop := ∀ p ∈ l, ∀ q ∈ l, mayF L p [] = true → mayF L q [] = true → ∀ a ∈ front L p [], ∀ b ∈ front L q [], a.path = b.path → twoP g a.p b.p
theorem asked_at {path : List Int} : ∀ {l : List Pat} {i : Nat} {a : AskT}, a ∈ askedF path i l → ∃ j : Nat, l[j]? = some a.p ∧ a.path = path ++ [((i + j : Nat) : Int)]
  | [], i, a, h => by cases h
  | p :: l, i, a, h => by
    simp only [askedF] at h
    have tail : a ∈ askedF path (i + 1) l → ∃ j : Nat, (p :: l)[j]? = some a.p ∧ a.path = path ++ [((i + j : Nat) : Int)] := fun h => by
      obtain ⟨j, h1, h2⟩ := asked_at h
      exact ⟨j + 1, by simpa using h1, by rw [h2, show i + 1 + j = i + (j + 1) by omega]⟩
    split at h
    · rcases List.mem_cons.1 h with rfl | h
      · exact ⟨0, rfl, rfl⟩
      · exact tail h
    · exact tail h
theorem togR_add {g : Sg} {l : List Pat} {f : FactT} (hw : ∀ p ∈ l, Wf g p) (hc : Clo L) (hn : knownF L f.path = none) (ht : TogR g L l)
    (hf : ∀ p ∈ l, mayF L p [] = true → ∀ a ∈ front L p [], a.path = f.path → a.p.kind = 5 → f.no = []) : TogR g (L ++ [f]) l := by
  intro p hp q hq mp mq a' ha' b' hb' e
  rw [may_add hc hn, Bool.and_eq_true] at mp mq
  rw [front_add hc hn p (hw p hp)] at ha'
  rw [front_add hc hn q (hw q hq)] at hb'
  obtain ⟨a, ha, ha'⟩ := List.mem_flatMap.1 ha'
  obtain ⟨b, hb, hb'⟩ := List.mem_flatMap.1 hb'
  have oka := List.all_eq_true.1 mp.2 a ha
  have okb := List.all_eq_true.1 mq.2 b hb
  have far : ∀ p ∈ l, ∀ a ∈ front L p [], ∀ j : Int, a.path ≠ f.path ++ [j] := fun p hp a ha j e => by
    obtain ⟨rest, h1, _, _, _, _, h2⟩ := front_path p (hw p hp) [] a ha
    rw [List.nil_append] at h1
    have := h2 f.path [j] (by rw [← h1, e]) (by simp)
    rw [List.nil_append] at this
    exact this hn
  unfold openA at ha' hb'
  unfold okA at oka okb
  by_cases ea : a.path = f.path
  · rw [if_pos ea] at ha' oka
    obtain ⟨j, k1, k2⟩ := asked_at ha'
    by_cases eb : b.path = f.path
    · rw [if_pos eb] at hb' okb
      obtain ⟨j', k3, k4⟩ := asked_at hb'
      rw [k2, k4] at e
      have := List.append_cancel_left e
      injection this with this
      have hj : j = j' := by omega
      subst hj
      have h2 := ht p hp q hq mp.1 mq.1 a ha b hb (ea.trans eb.symm)
      obtain ⟨_, _, _, _, _⟩ := front_path p (hw p hp) [] a ha
      have hwa : Wf g a.p := by
        have key : ∀ (p : Pat), Wf g p → ∀ (path : List Int), ∀ a ∈ front L p path, Wf g a.p := by
          refine ind_pat fun k n i s x y z l ih hw path a ha => ?_
          rw [front_def] at ha
          split at ha
          · cases ha
          · cases hk : knownF L path with
            | none => rw [hk] at ha; rw [List.mem_singleton.1 ha]; exact hw
            | some f =>
              rw [hk] at ha
              obtain ⟨j, q, e, h1⟩ := frontL_mem.1 ha
              exact ih q (List.mem_of_getElem? e) (hw.kids q (List.mem_of_getElem? e)) _ _ h1
        exact key p (hw p hp) [] a ha
      have h5 := kids_five hwa.alone (List.getElem?_eq_some_iff.1 k1).1
      have hno := hf p hp mp.1 a ha ea h5
      unfold factB at oka okb
      rw [hno] at oka okb
      have i1 : isB f.is a.p = true := by simpa using oka
      have i2 : isB f.is b.p = true := by simpa using okb
      obtain ⟨e1, _, _, e2⟩ := of_decide_eq_true i1
      obtain ⟨e3, _, _, e4⟩ := of_decide_eq_true i2
      exact twoPL_iff.1 ((twoP_def.1 h2).2 h5 (by omega) (by rw [← e2 (by omega), ← e4 (by omega)])) j _ _ k1 k3
    · rw [if_neg eb] at hb'
      rw [List.mem_singleton.1 hb'] at e ⊢
      exact absurd (e.symm.trans k2) (far q hq b hb _)
  · rw [if_neg ea] at ha'
    rw [List.mem_singleton.1 ha'] at e ⊢
    by_cases eb : b.path = f.path
    · rw [if_pos eb] at hb'
      obtain ⟨j', k3, k4⟩ := asked_at hb'
      exact absurd (e.trans k4) (far p hp a ha _)
    · rw [if_neg eb] at hb'
      rw [List.mem_singleton.1 hb'] at e ⊢
      exact ht p hp q hq mp.1 mq.1 a ha b hb e
theorem refT_eq {g : Sg} {l : List Pat} (hw : ∀ p ∈ l, Wf g p) : ∀ (f : Nat) (left : Int) (L : List FactT), Clo L → TogR g L l → refT g l f left L = buildF g f left (rowsG L 0 l)
  | 0, left, L, _, _ => rfl
  | f + 1, left, L, hc, ht => by
    unfold refT buildF
    by_cases h0 : left - 1 < 0
    · rw [if_pos h0, if_pos h0]
    · rw [if_neg h0, if_neg h0]
      have h1 := rows_first (L := L) l 0
      cases hf : firstMay L l with
      | none =>
        rw [hf] at h1
        simp only at h1
        rw [h1]
      | some i =>
        rw [hf] at h1
        obtain ⟨p, rest, hp, hm, h1⟩ := h1
        rw [Nat.zero_add] at h1
        have hpw := hw p (List.mem_of_getElem? hp)
        simp only [hp, asks_front]
        cases ha : front L p [] with
        | nil =>
          rw [h1]
          simp only [ha, List.head?_nil]
        | cons a asks =>
          have hmem : a ∈ front L p [] := by rw [ha]; exact List.mem_cons_self ..
          obtain ⟨rest', k1, k2, k3, k4, _, k5⟩ := front_path p hpw [] a hmem
          rw [List.nil_append] at k1
          subst k1
          have hpre : ∀ x y, a.path = x ++ y → y ≠ [] → knownF L x ≠ none := fun x y e hy => by have := k5 x y e hy; rw [List.nil_append] at this; exact this
          have hcs : casesRef g l L a.path a.p = casesF g (rowsG L 0 l) a.path a.p := by
            unfold casesRef casesF
            split
            · rfl
            · exact (cases_eq k4 hpre l 0 [] hw).symm
          have hstep : ∀ (q : Option Pat), (q = none → a.p.kind ≠ 5) → narrowF (rowsG L 0 l) a.path q = rowsG (L ++ [factOf a.path (casesRef g l L a.path a.p) q]) 0 l := fun q hq => by
            refine narrow_rows (g := g) (by cases q <;> rfl) hc k4 l 0 hw fun r hr b hb e => ?_
            cases q with
            | some q =>
              simp only [factOf, factB]
              simp
            | none =>
              simp only [factOf, factB]
              rw [hcs]
              obtain ⟨x, hx, hxm, hxa⟩ := rows_mem hr
              have hb5 : b.p.kind ≠ 5 := fun e5 => by
                rw [hxa] at hb
                obtain ⟨_, _, _, hbo, _⟩ := front_path x (hw x hx) [] b hb
                have h2 := (twoP_def.1 (ht x hx p (List.mem_of_getElem? hp) hxm hm b hb a hmem e)).1
                rcases pair_cases h2 with y | y | ⟨y, _⟩
                · rw [hbo] at y; cases y
                · rw [k3] at y; cases y
                · exact hq rfl (by omega)
              have := cases_has e hb5 (rowsG L 0 l) [] r hr hb
              unfold casesF
              rw [if_neg (hq rfl), this]
              rfl
          have htg : ∀ q : Option Pat, (q = none → a.p.kind ≠ 5) → TogR g (L ++ [factOf a.path (casesRef g l L a.path a.p) q]) l := fun q hq => by
            refine togR_add hw hc (by cases q <;> exact k4) ht fun x hx hxm b hb e e5 => ?_
            cases q with
            | some q => rfl
            | none =>
              exfalso
              obtain ⟨_, _, _, hbo, _⟩ := front_path x (hw x hx) [] b hb
              have h2 := (twoP_def.1 (ht x hx p (List.mem_of_getElem? hp) hxm hm b hb a hmem e)).1
              rcases pair_cases h2 with y | y | ⟨y, _⟩
              · rw [hbo] at y; cases y
              · rw [k3] at y; cases y
              · exact hq rfl (by omega)
          have hclo : ∀ q, Clo (L ++ [factOf a.path (casesRef g l L a.path a.p) q]) := fun q => clo_add hc fun x y e hy => hpre x y (by cases q <;> exact e) hy
          rw [h1] at hstep hcs ⊢
          rw [ha] at hstep hcs ⊢
          simp only [List.head?_cons]
          rw [← hcs]
          have hbr : ∀ left, branchesF (fun left p => refT g l f left (L ++ [factOf a.path (casesRef g l L a.path a.p) p])) (casesRef g l L a.path a.p) left = branchesF (fun left p => buildF g f left (narrowF (⟨a :: asks, (i : Int)⟩ :: rest) a.path p)) (casesRef g l L a.path a.p) left := fun left => branches_same _ _ fun left q hq => by
            rw [hstep (some q) (fun e => by cases e)]
            exact refT_eq hw f left _ (hclo _) (htg _ (fun e => by cases e))
          rw [hbr]
          split
          · rfl
          · rename_i h5
            rw [hstep none (fun _ => h5), refT_eq hw f _ _ (hclo _) (htg _ (fun _ => h5))]
end
theorem rows_nil {g : Sg} : ∀ (l : List Pat) (i : Nat), (∀ p ∈ l, Wf g p) → rowsG [] i l = rowsOf i l
  | [], i, _ => rfl
  | p :: l, i, hw => by
    simp only [rowsG, rowsOf]
    have hm : mayF [] p [] = true := by rw [mayF_def]; split <;> rfl
    rw [if_pos hm, rows_nil l (i + 1) fun x hx => hw x (List.mem_cons_of_mem _ hx), front_def]
    have ha := alone_kind (hw p (List.mem_cons_self ..)).alone
    by_cases ho : openB p = true
    · have h1 := open_kind ho
      have ht : ¬ testsB p = true := fun e => by have := of_decide_eq_true e; omega
      rw [if_pos ho, if_neg ht]
    · have ht : testsB p = true := decide_eq_true (by rcases ha with e | e | e | e; exact absurd e ho; all_goals omega)
      rw [if_neg ho, if_pos ht]
      rfl
/-- The document's tree is the rows'. -/
theorem refT_rows {g : Sg} {l : List Pat} (ha : All2 g l) (f : Nat) (left : Int) : refT g l f left [] = buildF g f left (rowsOf 0 l) := by
  rw [refT_eq ha.wf f left [] (fun x i _ => rfl) fun p hp q hq _ _ a ha' b hb' e => ?_, rows_nil l 0 ha.wf]
  rw [front_def] at ha' hb'
  split at ha'
  · cases ha'
  · split at hb'
    · cases hb'
    · rw [List.mem_singleton.1 ha', List.mem_singleton.1 hb']
      exact ha.two p hp q hq

mutual
theorem one_refl : ∀ t : TreeT, oneB t t = true
  | .mk _ _ _ _ k n p c e => by simp [oneB, oneC_refl c, oneL_refl e]
theorem oneC_refl : ∀ l : List TreeT, oneC l l = true
  | [] => rfl
  | t :: l => by simp [oneC, one_refl t, oneC_refl l]
theorem oneL_refl : ∀ l : List TreeT, oneL l l = true
  | [] => rfl
  | t :: l => by simp [oneL, one_refl t, oneL_refl l]
end
end Go.Proofs.Ytjflembhgjcgkaa
