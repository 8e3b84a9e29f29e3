/- M16: what useful finds goes together with all, has no name, is apart from each row. No program in sight. -/
import Derived.Test.YtjflembhgjcgkaaTP11M14
import Derived.Test.YtjflembhgjcgkaaTP11XC3C4
import Derived.Test.YtjflembhgjcgkaaTP11XM8C21
set_option linter.unusedSimpArgs false
set_option linter.unusedVariables false
namespace Go.Proofs.Ytjflembhgjcgkaa
open Go.RowKit

theorem some_wf {g : Sg} : ∀ p : Pat, Wf g p → someB p = true := by
  refine ind_pat fun k n i s a b c l ih hw => ?_
  have hk := alone_kind hw.alone
  have hl : someL l = true := by
    have key : ∀ m : List Pat, (∀ q ∈ m, someB q = true) → someL m = true := by
      intro m
      induction m with
      | nil => intro _; rfl
      | cons q m ih => intro h; simp only [someL, h q (List.mem_cons_self ..), ih fun x hx => h x (List.mem_cons_of_mem _ hx), Bool.and_self]
    exact key l fun q hq => ih q hq (hw.kids q hq)
  simp only [someB, hl, Bool.or_true, Bool.true_and]
  refine decide_eq_true ?_
  simp only [Pat.kind] at hk
  rcases hk with h | h | h | h
  · have := open_kind h; simp only [Pat.kind] at this; omega
  · omega
  · omega
  · omega
theorem twoP_refl {g : Sg} : ∀ p : Pat, twoP g p p := by
  refine ind_pat fun k n i s a b c l ih => ?_
  refine twoP_def.2 ⟨pair_self g _, fun _ _ _ => twoPL_iff.2 fun j x y hx hy => ?_⟩
  rw [hx] at hy
  injection hy with hy
  subst hy
  exact ih x (List.mem_of_getElem? hx)
theorem apart_open {g : Sg} {p q : Pat} (ho : openB p = true) (hp : Wf g p) (hq : Wf g q) : apartB p q = false := by
  have h1 := some_wf p hp
  have h2 := some_wf q hq
  obtain ⟨k, n, i, s, a, b, c, l⟩ := p
  obtain ⟨k', n', i', s', a', b', c', l'⟩ := q
  have h3 : k = 1 ∨ k = 2 := open_kind ho
  simp only [apartB]
  rw [if_neg (by rw [h1, h2]; simp), if_pos (.inl h3)]
theorem apart_open' {g : Sg} {p q : Pat} (ho : openB q = true) (hp : Wf g p) (hq : Wf g q) : apartB p q = false := by
  have h1 := some_wf p hp
  have h2 := some_wf q hq
  obtain ⟨k, n, i, s, a, b, c, l⟩ := p
  obtain ⟨k', n', i', s', a', b', c', l'⟩ := q
  have h3 : k' = 1 ∨ k' = 2 := open_kind ho
  simp only [apartB]
  rw [if_neg (by rw [h1, h2]; simp), if_pos (.inr h3)]
theorem apart_heads {p q : Pat} {a b : Head} (ha : asksH p = some a) (hb : asksH q = some b) (hne : a ≠ b) : apartB p q = true := by
  obtain ⟨k, n, i, s, x, y, z, l⟩ := p
  obtain ⟨k', n', i', s', x', y', z', l'⟩ := q
  simp only [apartB]
  split
  · rfl
  · have h1 := asks_iff.1 ha
    have h2 := asks_iff.1 hb
    simp only [Pat.kind, Pat.n, Pat.i, Pat.s] at h1 h2
    rw [if_neg (by omega)]
    split
    · rfl
    · rename_i hk
      have hk : k = k' := by omega
      rcases h1 with ⟨e, rfl⟩ | ⟨e, rfl⟩ | ⟨e, rfl⟩
      · rw [if_pos e]
        refine decide_eq_true fun h => hne ?_
        rcases h2 with ⟨_, rfl⟩ | ⟨_, _⟩ | ⟨_, _⟩
        · rw [h]
        · omega
        · omega
      · rw [if_neg (by omega), if_pos e]
        refine decide_eq_true fun h => hne ?_
        rcases h2 with ⟨_, _⟩ | ⟨_, rfl⟩ | ⟨_, _⟩
        · omega
        · rw [h]
        · omega
      · rw [if_neg (by omega), if_neg (by omega), if_pos]
        left
        intro h
        apply hne
        rcases h2 with ⟨_, _⟩ | ⟨_, _⟩ | ⟨_, rfl⟩
        · omega
        · omega
        · rw [h]
/-- Two with one constructor are apart if their kids are. -/
theorem apart_kids {p q : Pat} (hk : p.kind = 5) (hk' : q.kind = 5) (hn : p.n = q.n) (h : apartL p.l q.l = true) : apartB p q = true := by
  obtain ⟨k, n, i, s, x, y, z, l⟩ := p
  obtain ⟨k', n', i', s', x', y', z', l'⟩ := q
  simp only [Pat.kind, Pat.n, Pat.l] at hk hk' hn h
  simp only [apartB]
  split
  · rfl
  · rw [if_neg (by omega), if_neg (by omega), if_neg (by omega), if_neg (by omega)]
    split
    · rfl
    · exact h
section
variable {g : Sg} {h : Head} {p0 : Pat} {rows : List (List Pat)} {v0 : Pat} {vs v' : List Pat}
end

end Go.Proofs.Ytjflembhgjcgkaa
/- C30: within, of the document. -/
set_option linter.unusedSimpArgs false
set_option linter.unusedVariables false
namespace Go.Proofs.Ytjflembhgjcgkaa
open Go.RowKit

mutual
def withinB : Pat → Pat → Bool
  | .mk k n i s a b c l, .mk k' n' i' s' a' b' c' l' =>
    if k' = 1 ∨ k' = 2 then true
    else if (k = 1 ∨ k = 2) ∨ k ≠ k' ∨ n ≠ n' ∨ i ≠ i' ∨ s ≠ s' ∨ l.length ≠ l'.length then false
    else withinL l l'
def withinL : List Pat → List Pat → Bool
  | p :: l, q :: m => withinB p q && withinL l m
  | _, _ => true
end
section
variable {k n i a b c k' n' i' a' b' c' : Int} {s s' : ByteArray} {l l' : List Pat}

end

end Go.Proofs.Ytjflembhgjcgkaa
/- M9: the document's Look, as functions. No program in sight. -/
set_option linter.unusedSimpArgs false
set_option linter.unusedVariables false
namespace Go.Proofs.Ytjflembhgjcgkaa
open Go.RowKit

mutual
def numsP : Pat → List Int
  | .mk k _ i _ _ _ _ l => (if k = 3 then [i] else []) ++ numsL l
def numsL : List Pat → List Int
  | [] => []
  | p :: l => numsP p ++ numsL l
end
mutual
def textsP : Pat → List ByteArray
  | .mk k _ _ s _ _ _ l => (if k = 4 then [s] else []) ++ textsL l
def textsL : List Pat → List ByteArray
  | [] => []
  | p :: l => textsP p ++ textsL l
end
/-- One round: behind each number that is n, n rises. -/
def roundN (nums : List Int) (n : Int) : Int := nums.foldl (fun n x => if x = n then n + 1 else n) n
def freeN (nums : List Int) : Int := (List.range nums.length).foldl (fun n _ => roundN nums n) 0
def freeS (texts : List ByteArray) : ByteArray := texts.foldl (· ++ ·) ⟨#[46]⟩
structure RoomT where
  g : Sg
  l : List Pat
  nums : List Int
  texts : List ByteArray
def roomOf (g : Sg) (l : List Pat) : RoomT := ⟨g, l, freeN (numsL l) :: numsL l, freeS (textsL l) :: textsL l⟩
def casesR (r : RoomT) (p : Pat) : List Pat :=
  if p.kind = 3 then r.nums.map fun i => .mk 3 0 i ⟨#[]⟩ 0 0 0 []
  else if p.kind = 4 then r.texts.map fun s => .mk 4 0 0 s 0 0 0 []
  else if p.kind = 5 then (r.g.consOf (r.g.dataOf p.n)).map fun c => .mk 5 c 0 ⟨#[]⟩ 0 0 0 (anysL (r.g.arity c))
  else []
mutual
def splitP (r : RoomT) : Pat → Pat → List Pat
  | .mk k n i s a b c l, .mk k' n' i' s' a' b' c' l' =>
    if k = 1 ∨ k = 2 then casesR r (.mk k' n' i' s' a' b' c' l')
    else (splitL r l l').map fun m => .mk k n i s a b c m
def splitL (r : RoomT) : List Pat → List Pat → List (List Pat)
  | x :: l, y :: m => if withinB x y = true then (splitL r l m).map (x :: ·) else (splitP r x y).map (· :: l)
  | _, _ => []
end
/-- What became of shapes. -/
structure FoundT where
  missing : Pat
  come : List Bool
/-- The first pattern that is not apart from a shape. -/
def firstA (shape : Pat) (l : List Pat) : Option Nat := l.findIdx? fun p => !apartB shape p
def lookF (r : RoomT) : Nat → Pat → FoundT → FoundT
  | 0, _, f => f
  | n + 1, shape, f => match firstA shape r.l with
    | some i => match r.l[i]? with
      | some p => if withinB shape p = true then ⟨f.missing, f.come.set i true⟩ else (splitP r shape p).foldl (fun f x => lookF r n x f) f
      | none => f
    | none => if f.missing.kind = 0 then ⟨shape, f.come⟩ else f
end Go.Proofs.Ytjflembhgjcgkaa
