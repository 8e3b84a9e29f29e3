/-
  NARROWER THAN 'FOR EVERY INPUT', by the rows' own cells (each row's printed sentence says how): TreeBuilds: loops · TreeBinds: loops · CoverChecks: loops · CoverCovers: loops · CoverWithout: loops · CoverFits: loops · TreeRuns: loops · TreeFirst: loops · TreeShape: loops.
  DERIVED. THE GIVEN ROWS OF THIS SEAT. 9 by the template 'for every input the law returns true; each argument reads behind the call as it read before'; 0 by the template 'total and deterministic' (their statements: YtjflembhgjcgkaaTotals.lean).
  GIVEN WITH THE SEED: the statements are not yours to turn. If you find one false, say at which input.
  Laid BY PROGRAM, IN A SANDBOX (cutbox-rows.mjs): the forced cells as the released guide's own fill.sh prints them over the translation 415c1a1fade4f274… (all of the seat's roots in one cut). By AI agents, Wed Nov 11 2026. No macro, syntax, notation, axiom, sorry.
-/
import Derived.Test.YtjflembhgjcgkaaChecked
import GoSem.Claim
import GoSem.ClaimJoined
import GoSem.ClaimMapViews
import Derived.JoinedTies
import Derived.KernelRfl
namespace Go.Proofs.Ytjflembhgjcgkaa
/- THE CELL 'sum', in the pinned program and in every row, IS THE sha256 OF THE DUMP (.gsa) THAT YtjflembhgjcgkaaProg.lean LOADS. Nothing in Lean hashes anything: it is a label: what it is worth is what the hold of that sum in a sandbox is worth. -/
noncomputable def Try.pinned : Pinned := { name := "ytjflembhgjcgkaa", sum := "415c1a1fade4f274aa301c4cae0d4cb099facc887d23715bc8e7ad1c37e32779", checked := Try.checked }
namespace Rows
def none {H : Type} : Left H := { results := [], args := [] }

/-- 'usufructlaw16.TreeBuilds': WHATEVER THE INPUT: true; the input reads as it did. -/
def treeBuildsSpec : ChangeSpec := { name := "treeBuilds", fn := fun _ => fun
  | [d1, d2] => { results := [.lit (.bool true)], args := [d1, d2] }
  | _ => none }
def treeBuildsRow : OpenClaim := { program := "ytjflembhgjcgkaa", sum := "415c1a1fade4f274aa301c4cae0d4cb099facc887d23715bc8e7ad1c37e32779", func := "usufruct/usufructlaw16.TreeBuilds", spec := "treeBuilds", unfollowed := true, recurses := true, loops := true, apart := false }
def TreeBuildsSaid : Prop := treeBuildsRow.holds Try.pinned (OpenSpec.ofChange treeBuildsSpec)

/-- ITS FALSE NEIGHBOUR: 'it returns false'. Refute it at one input. -/
def treeBuildsWrong : ChangeSpec := { name := "treeBuilds", fn := fun _ => fun
  | [d1, d2] => { results := [.lit (.bool false)], args := [d1, d2] }
  | _ => none }
def TreeBuildsWrongFalsely : Prop := treeBuildsRow.holds Try.pinned (OpenSpec.ofChange treeBuildsWrong)

/-- 'usufructlaw16.TreeBinds': WHATEVER THE INPUT: true; the input reads as it did. -/
def treeBindsSpec : ChangeSpec := { name := "treeBinds", fn := fun _ => fun
  | [d] => { results := [.lit (.bool true)], args := [d] }
  | _ => none }
def treeBindsRow : OpenClaim := { program := "ytjflembhgjcgkaa", sum := "415c1a1fade4f274aa301c4cae0d4cb099facc887d23715bc8e7ad1c37e32779", func := "usufruct/usufructlaw16.TreeBinds", spec := "treeBinds", unfollowed := true, recurses := true, loops := true, apart := false }
def TreeBindsSaid : Prop := treeBindsRow.holds Try.pinned (OpenSpec.ofChange treeBindsSpec)

/-- ITS FALSE NEIGHBOUR: 'it returns false'. Refute it at one input. -/
def treeBindsWrong : ChangeSpec := { name := "treeBinds", fn := fun _ => fun
  | [d] => { results := [.lit (.bool false)], args := [d] }
  | _ => none }
def TreeBindsWrongFalsely : Prop := treeBindsRow.holds Try.pinned (OpenSpec.ofChange treeBindsWrong)

/-- 'usufructlaw15.CoverChecks': WHATEVER THE INPUT: true; the input reads as it did. -/
def coverChecksSpec : ChangeSpec := { name := "coverChecks", fn := fun _ => fun
  | [d1, d2] => { results := [.lit (.bool true)], args := [d1, d2] }
  | _ => none }
def coverChecksRow : OpenClaim := { program := "ytjflembhgjcgkaa", sum := "415c1a1fade4f274aa301c4cae0d4cb099facc887d23715bc8e7ad1c37e32779", func := "usufruct/usufructlaw15.CoverChecks", spec := "coverChecks", unfollowed := true, recurses := true, loops := true, apart := false }
def CoverChecksSaid : Prop := coverChecksRow.holds Try.pinned (OpenSpec.ofChange coverChecksSpec)

/-- ITS FALSE NEIGHBOUR: 'it returns false'. Refute it at one input. -/
def coverChecksWrong : ChangeSpec := { name := "coverChecks", fn := fun _ => fun
  | [d1, d2] => { results := [.lit (.bool false)], args := [d1, d2] }
  | _ => none }
def CoverChecksWrongFalsely : Prop := coverChecksRow.holds Try.pinned (OpenSpec.ofChange coverChecksWrong)

/-- 'usufructlaw15.CoverCovers': WHATEVER THE INPUT: true; the input reads as it did. -/
def coverCoversSpec : ChangeSpec := { name := "coverCovers", fn := fun _ => fun
  | [d1, d2, d3] => { results := [.lit (.bool true)], args := [d1, d2, d3] }
  | _ => none }
def coverCoversRow : OpenClaim := { program := "ytjflembhgjcgkaa", sum := "415c1a1fade4f274aa301c4cae0d4cb099facc887d23715bc8e7ad1c37e32779", func := "usufruct/usufructlaw15.CoverCovers", spec := "coverCovers", unfollowed := true, recurses := true, loops := true, apart := false }
def CoverCoversSaid : Prop := coverCoversRow.holds Try.pinned (OpenSpec.ofChange coverCoversSpec)

/-- ITS FALSE NEIGHBOUR: 'it returns false'. Refute it at one input. -/
def coverCoversWrong : ChangeSpec := { name := "coverCovers", fn := fun _ => fun
  | [d1, d2, d3] => { results := [.lit (.bool false)], args := [d1, d2, d3] }
  | _ => none }
def CoverCoversWrongFalsely : Prop := coverCoversRow.holds Try.pinned (OpenSpec.ofChange coverCoversWrong)

/-- 'usufructlaw15.CoverWithout': WHATEVER THE INPUT: true; the input reads as it did. -/
def coverWithoutSpec : ChangeSpec := { name := "coverWithout", fn := fun _ => fun
  | [d1, d2, d3] => { results := [.lit (.bool true)], args := [d1, d2, d3] }
  | _ => none }
def coverWithoutRow : OpenClaim := { program := "ytjflembhgjcgkaa", sum := "415c1a1fade4f274aa301c4cae0d4cb099facc887d23715bc8e7ad1c37e32779", func := "usufruct/usufructlaw15.CoverWithout", spec := "coverWithout", unfollowed := true, recurses := true, loops := true, apart := false }
def CoverWithoutSaid : Prop := coverWithoutRow.holds Try.pinned (OpenSpec.ofChange coverWithoutSpec)

/-- ITS FALSE NEIGHBOUR: 'it returns false'. Refute it at one input. -/
def coverWithoutWrong : ChangeSpec := { name := "coverWithout", fn := fun _ => fun
  | [d1, d2, d3] => { results := [.lit (.bool false)], args := [d1, d2, d3] }
  | _ => none }
def CoverWithoutWrongFalsely : Prop := coverWithoutRow.holds Try.pinned (OpenSpec.ofChange coverWithoutWrong)

/-- 'usufructlaw15.CoverFits': WHATEVER THE INPUT: true; the input reads as it did. -/
def coverFitsSpec : ChangeSpec := { name := "coverFits", fn := fun _ => fun
  | [d1, d2, d3] => { results := [.lit (.bool true)], args := [d1, d2, d3] }
  | _ => none }
def coverFitsRow : OpenClaim := { program := "ytjflembhgjcgkaa", sum := "415c1a1fade4f274aa301c4cae0d4cb099facc887d23715bc8e7ad1c37e32779", func := "usufruct/usufructlaw15.CoverFits", spec := "coverFits", unfollowed := true, recurses := true, loops := true, apart := false }
def CoverFitsSaid : Prop := coverFitsRow.holds Try.pinned (OpenSpec.ofChange coverFitsSpec)

/-- ITS FALSE NEIGHBOUR: 'it returns false'. Refute it at one input. -/
def coverFitsWrong : ChangeSpec := { name := "coverFits", fn := fun _ => fun
  | [d1, d2, d3] => { results := [.lit (.bool false)], args := [d1, d2, d3] }
  | _ => none }
def CoverFitsWrongFalsely : Prop := coverFitsRow.holds Try.pinned (OpenSpec.ofChange coverFitsWrong)

/-- 'usufructlaw16.TreeRuns': WHATEVER THE INPUT: true; the input reads as it did. -/
def treeRunsSpec : ChangeSpec := { name := "treeRuns", fn := fun _ => fun
  | [d1, d2, d3, d4] => { results := [.lit (.bool true)], args := [d1, d2, d3, d4] }
  | _ => none }
def treeRunsRow : OpenClaim := { program := "ytjflembhgjcgkaa", sum := "415c1a1fade4f274aa301c4cae0d4cb099facc887d23715bc8e7ad1c37e32779", func := "usufruct/usufructlaw16.TreeRuns", spec := "treeRuns", unfollowed := true, recurses := true, loops := true, apart := false }
def TreeRunsSaid : Prop := treeRunsRow.holds Try.pinned (OpenSpec.ofChange treeRunsSpec)

/-- ITS FALSE NEIGHBOUR: 'it returns false'. Refute it at one input. -/
def treeRunsWrong : ChangeSpec := { name := "treeRuns", fn := fun _ => fun
  | [d1, d2, d3, d4] => { results := [.lit (.bool false)], args := [d1, d2, d3, d4] }
  | _ => none }
def TreeRunsWrongFalsely : Prop := treeRunsRow.holds Try.pinned (OpenSpec.ofChange treeRunsWrong)

/-- 'usufructlaw16.TreeFirst': WHATEVER THE INPUT: true; the input reads as it did. -/
def treeFirstSpec : ChangeSpec := { name := "treeFirst", fn := fun _ => fun
  | [d1, d2, d3] => { results := [.lit (.bool true)], args := [d1, d2, d3] }
  | _ => none }
def treeFirstRow : OpenClaim := { program := "ytjflembhgjcgkaa", sum := "415c1a1fade4f274aa301c4cae0d4cb099facc887d23715bc8e7ad1c37e32779", func := "usufruct/usufructlaw16.TreeFirst", spec := "treeFirst", unfollowed := true, recurses := true, loops := true, apart := false }
def TreeFirstSaid : Prop := treeFirstRow.holds Try.pinned (OpenSpec.ofChange treeFirstSpec)

/-- ITS FALSE NEIGHBOUR: 'it returns false'. Refute it at one input. -/
def treeFirstWrong : ChangeSpec := { name := "treeFirst", fn := fun _ => fun
  | [d1, d2, d3] => { results := [.lit (.bool false)], args := [d1, d2, d3] }
  | _ => none }
def TreeFirstWrongFalsely : Prop := treeFirstRow.holds Try.pinned (OpenSpec.ofChange treeFirstWrong)

/-- 'usufructlaw16.TreeShape': WHATEVER THE INPUT: true; the input reads as it did. -/
def treeShapeSpec : ChangeSpec := { name := "treeShape", fn := fun _ => fun
  | [d1, d2] => { results := [.lit (.bool true)], args := [d1, d2] }
  | _ => none }
def treeShapeRow : OpenClaim := { program := "ytjflembhgjcgkaa", sum := "415c1a1fade4f274aa301c4cae0d4cb099facc887d23715bc8e7ad1c37e32779", func := "usufruct/usufructlaw16.TreeShape", spec := "treeShape", unfollowed := true, recurses := true, loops := true, apart := false }
def TreeShapeSaid : Prop := treeShapeRow.holds Try.pinned (OpenSpec.ofChange treeShapeSpec)

/-- ITS FALSE NEIGHBOUR: 'it returns false'. Refute it at one input. -/
def treeShapeWrong : ChangeSpec := { name := "treeShape", fn := fun _ => fun
  | [d1, d2] => { results := [.lit (.bool false)], args := [d1, d2] }
  | _ => none }
def TreeShapeWrongFalsely : Prop := treeShapeRow.holds Try.pinned (OpenSpec.ofChange treeShapeWrong)

/- THE SECOND FORM. 'bulk': how many values and letters a reading holds, each counted each time it is reached (what is shared counts as often as it is met; a slice's spare places count too). A statement '..UptoSaid' is the law's where the arguments, and the package variables that the reading takes, are together of bulk at most 1048576: NARROWER than '..Said'. Prove '..Said' where nothing that the law and all that it calls make is longer than what came in: it says more and counts as full. Else prove '..UptoSaid'. A law counts once. -/
mutual
def uptoBulk {H : Type} : DataW H → Nat
  | .lit (.string bytes) => bytes.length + 1
  | .lit _ => 1
  | .nil => 1
  | .ptr d => uptoBulk d + 1
  | .slice elems spare => uptoBulkAll elems + uptoBulkAll spare + 1
  | .agg parts => uptoBulkAll parts + 1
  | .iface _ d => uptoBulk d + 1
  | .map entries => uptoBulkEntries entries + 1
  | .held _ => 1
def uptoBulkAll {H : Type} : List (DataW H) → Nat
  | [] => 0
  | d :: r => uptoBulk d + uptoBulkAll r
def uptoBulkEntries {H : Type} : List (Lit × DataW H) → Nat
  | [] => 0
  | x :: r => uptoBulkEntry x + uptoBulkEntries r
def uptoBulkEntry {H : Type} : Lit × DataW H → Nat
  | (.string bytes, d) => bytes.length + uptoBulk d + 1
  | (_, d) => uptoBulk d + 1
 end
def uptoSmall : (H : Type) → List (DataW H) → Bool := fun _ ds => decide (uptoBulkAll ds ≤ 1048576)
def OpenSpec.upto (s : _root_.Go.ChangeSpec) : _root_.Go.OpenSpec := { _root_.Go.OpenSpec.ofChange s with cond := some uptoSmall }

/-- 'usufructlaw16.TreeBuilds', WHERE WHAT IT READS IS OF BULK AT MOST 1048576: true; the input reads as it did. -/
def treeBuildsUptoRow : OpenClaim := { program := "ytjflembhgjcgkaa", sum := "415c1a1fade4f274aa301c4cae0d4cb099facc887d23715bc8e7ad1c37e32779", func := "usufruct/usufructlaw16.TreeBuilds", spec := "treeBuilds", unfollowed := true, recurses := true, loops := true, apart := false, narrowed := true }
def TreeBuildsUptoSaid : Prop := treeBuildsUptoRow.holds Try.pinned (OpenSpec.upto treeBuildsSpec)

/-- 'usufructlaw16.TreeBinds', WHERE WHAT IT READS IS OF BULK AT MOST 1048576: true; the input reads as it did. -/
def treeBindsUptoRow : OpenClaim := { program := "ytjflembhgjcgkaa", sum := "415c1a1fade4f274aa301c4cae0d4cb099facc887d23715bc8e7ad1c37e32779", func := "usufruct/usufructlaw16.TreeBinds", spec := "treeBinds", unfollowed := true, recurses := true, loops := true, apart := false, narrowed := true }
def TreeBindsUptoSaid : Prop := treeBindsUptoRow.holds Try.pinned (OpenSpec.upto treeBindsSpec)

/-- 'usufructlaw15.CoverChecks', WHERE WHAT IT READS IS OF BULK AT MOST 1048576: true; the input reads as it did. -/
def coverChecksUptoRow : OpenClaim := { program := "ytjflembhgjcgkaa", sum := "415c1a1fade4f274aa301c4cae0d4cb099facc887d23715bc8e7ad1c37e32779", func := "usufruct/usufructlaw15.CoverChecks", spec := "coverChecks", unfollowed := true, recurses := true, loops := true, apart := false, narrowed := true }
def CoverChecksUptoSaid : Prop := coverChecksUptoRow.holds Try.pinned (OpenSpec.upto coverChecksSpec)

/-- 'usufructlaw15.CoverCovers', WHERE WHAT IT READS IS OF BULK AT MOST 1048576: true; the input reads as it did. -/
def coverCoversUptoRow : OpenClaim := { program := "ytjflembhgjcgkaa", sum := "415c1a1fade4f274aa301c4cae0d4cb099facc887d23715bc8e7ad1c37e32779", func := "usufruct/usufructlaw15.CoverCovers", spec := "coverCovers", unfollowed := true, recurses := true, loops := true, apart := false, narrowed := true }
def CoverCoversUptoSaid : Prop := coverCoversUptoRow.holds Try.pinned (OpenSpec.upto coverCoversSpec)

/-- 'usufructlaw15.CoverWithout', WHERE WHAT IT READS IS OF BULK AT MOST 1048576: true; the input reads as it did. -/
def coverWithoutUptoRow : OpenClaim := { program := "ytjflembhgjcgkaa", sum := "415c1a1fade4f274aa301c4cae0d4cb099facc887d23715bc8e7ad1c37e32779", func := "usufruct/usufructlaw15.CoverWithout", spec := "coverWithout", unfollowed := true, recurses := true, loops := true, apart := false, narrowed := true }
def CoverWithoutUptoSaid : Prop := coverWithoutUptoRow.holds Try.pinned (OpenSpec.upto coverWithoutSpec)

/-- 'usufructlaw15.CoverFits', WHERE WHAT IT READS IS OF BULK AT MOST 1048576: true; the input reads as it did. -/
def coverFitsUptoRow : OpenClaim := { program := "ytjflembhgjcgkaa", sum := "415c1a1fade4f274aa301c4cae0d4cb099facc887d23715bc8e7ad1c37e32779", func := "usufruct/usufructlaw15.CoverFits", spec := "coverFits", unfollowed := true, recurses := true, loops := true, apart := false, narrowed := true }
def CoverFitsUptoSaid : Prop := coverFitsUptoRow.holds Try.pinned (OpenSpec.upto coverFitsSpec)

/-- 'usufructlaw16.TreeRuns', WHERE WHAT IT READS IS OF BULK AT MOST 1048576: true; the input reads as it did. -/
def treeRunsUptoRow : OpenClaim := { program := "ytjflembhgjcgkaa", sum := "415c1a1fade4f274aa301c4cae0d4cb099facc887d23715bc8e7ad1c37e32779", func := "usufruct/usufructlaw16.TreeRuns", spec := "treeRuns", unfollowed := true, recurses := true, loops := true, apart := false, narrowed := true }
def TreeRunsUptoSaid : Prop := treeRunsUptoRow.holds Try.pinned (OpenSpec.upto treeRunsSpec)

/-- 'usufructlaw16.TreeFirst', WHERE WHAT IT READS IS OF BULK AT MOST 1048576: true; the input reads as it did. -/
def treeFirstUptoRow : OpenClaim := { program := "ytjflembhgjcgkaa", sum := "415c1a1fade4f274aa301c4cae0d4cb099facc887d23715bc8e7ad1c37e32779", func := "usufruct/usufructlaw16.TreeFirst", spec := "treeFirst", unfollowed := true, recurses := true, loops := true, apart := false, narrowed := true }
def TreeFirstUptoSaid : Prop := treeFirstUptoRow.holds Try.pinned (OpenSpec.upto treeFirstSpec)

/-- 'usufructlaw16.TreeShape', WHERE WHAT IT READS IS OF BULK AT MOST 1048576: true; the input reads as it did. -/
def treeShapeUptoRow : OpenClaim := { program := "ytjflembhgjcgkaa", sum := "415c1a1fade4f274aa301c4cae0d4cb099facc887d23715bc8e7ad1c37e32779", func := "usufruct/usufructlaw16.TreeShape", spec := "treeShape", unfollowed := true, recurses := true, loops := true, apart := false, narrowed := true }
def TreeShapeUptoSaid : Prop := treeShapeUptoRow.holds Try.pinned (OpenSpec.upto treeShapeSpec)

end Rows
end Go.Proofs.Ytjflembhgjcgkaa
