/- M9: the document's Look, as functions. No program in sight. -/
import Derived.Test.YtjflembhgjcgkaaXM8C21
import Derived.Test.YtjflembhgjcgkaaC30
set_option linter.unusedSimpArgs false
set_option linter.unusedVariables false
namespace Go.Proofs.Ytjflembhgjcgkaa
open Go.RowKit

mutual
def numsP : Pat → List Int
  | .mk k _ i _ _ _ _ l => (if k = 3 then [i] else []) ++ numsL l
def numsL : List Pat → List Int
  | [] => []
  | p :: l => numsP p ++ numsL l
end
mutual
def textsP : Pat → List ByteArray
  | .mk k _ _ s _ _ _ l => (if k = 4 then [s] else []) ++ textsL l
def textsL : List Pat → List ByteArray
  | [] => []
  | p :: l => textsP p ++ textsL l
end
/-- One round: behind each number that is n, n rises. -/
def roundN (nums : List Int) (n : Int) : Int := nums.foldl (fun n x => if x = n then n + 1 else n) n
def freeN (nums : List Int) : Int := (List.range nums.length).foldl (fun n _ => roundN nums n) 0
def freeS (texts : List ByteArray) : ByteArray := texts.foldl (· ++ ·) ⟨#[46]⟩
structure RoomT where
  g : Sg
  l : List Pat
  nums : List Int
  texts : List ByteArray
def roomOf (g : Sg) (l : List Pat) : RoomT := ⟨g, l, freeN (numsL l) :: numsL l, freeS (textsL l) :: textsL l⟩
def casesR (r : RoomT) (p : Pat) : List Pat :=
  if p.kind = 3 then r.nums.map fun i => .mk 3 0 i ⟨#[]⟩ 0 0 0 []
  else if p.kind = 4 then r.texts.map fun s => .mk 4 0 0 s 0 0 0 []
  else if p.kind = 5 then (r.g.consOf (r.g.dataOf p.n)).map fun c => .mk 5 c 0 ⟨#[]⟩ 0 0 0 (anysL (r.g.arity c))
  else []
mutual
def splitP (r : RoomT) : Pat → Pat → List Pat
  | .mk k n i s a b c l, .mk k' n' i' s' a' b' c' l' =>
    if k = 1 ∨ k = 2 then casesR r (.mk k' n' i' s' a' b' c' l')
    else (splitL r l l').map fun m => .mk k n i s a b c m
def splitL (r : RoomT) : List Pat → List Pat → List (List Pat)
  | x :: l, y :: m => if withinB x y = true then (splitL r l m).map (x :: ·) else (splitP r x y).map (· :: l)
  | _, _ => []
end
/-- What became of shapes. -/
structure FoundT where
  missing : Pat
  come : List Bool
/-- The first pattern that is not apart from a shape. -/
def firstA (shape : Pat) (l : List Pat) : Option Nat := l.findIdx? fun p => !apartB shape p
def lookF (r : RoomT) : Nat → Pat → FoundT → FoundT
  | 0, _, f => f
  | n + 1, shape, f => match firstA shape r.l with
    | some i => match r.l[i]? with
      | some p => if withinB shape p = true then ⟨f.missing, f.come.set i true⟩ else (splitP r shape p).foldl (fun f x => lookF r n x f) f
      | none => f
    | none => if f.missing.kind = 0 then ⟨shape, f.come⟩ else f
end Go.Proofs.Ytjflembhgjcgkaa
