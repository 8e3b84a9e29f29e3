/- A piece of a function, taken out of it by the number of its block: so that it can be walked in a theorem of its own. -/
import Derived.Test.YtlpgekodoiioaaaSl
import Derived.Deep.CutBlock
namespace Go.Proofs.Ytlpgekodoiioaaa

def findBlock (n : Nat) : Code → Option Code
  | .block k c => if k = n then some (.block k c) else findBlock n c
  | .seq a b => match findBlock n a with
    | some c => some c
    | none => findBlock n b
  | .cond _ a b => match findBlock n a with
    | some c => some c
    | none => findBlock n b
  | .loop c => findBlock n c
  | .scope c => findBlock n c
  | _ => none

/-- 'go_cut', its first half proved apart. -/
theorem cut_by {P : Program} {s : Code} {K : Act → World → Prop} {Q' : Exit → Act → World → Prop} {a : Act} {w : World} {R : Act → World → Prop}
    (first : ∀ (J K' : Act → World → Prop), (∀ a' w', R a' w' → J a' w') → (∀ a' w', Met J a' w' → K' a' w') → s.wp P (Exit.then K' Q') a w)
    (rest : ∀ a' w', R a' w' → K a' w') : s.wp P (Exit.then K Q') a w := wp_cut R rest first

end Go.Proofs.Ytlpgekodoiioaaa
