/-
  NARROWER THAN 'FOR EVERY INPUT', by the rows' own cells (each row's printed sentence says how): CellApart: loops · CellTrees: loops · CellRooms: loops · CellOrder: loops · CellLast: loops · CellPlays: loops.
  DERIVED. THE GIVEN ROWS OF THIS SEAT. 10 by the template 'for every input the law returns true; each argument reads behind the call as it read before'; 0 by the template 'total and deterministic' (their statements: YtciciaikajdenaaTotals.lean).
  GIVEN WITH THE SEED: the statements are not yours to turn. If you find one false, say at which input.
  Laid BY PROGRAM, IN A SANDBOX (cutbox-rows.mjs): the forced cells as the released guide's own fill.sh prints them over the translation 1b6c597e76d42f0b… (all of the seat's roots in one cut). By AI agents, Wed Nov 11 2026. No macro, syntax, notation, axiom, sorry.
-/
import Derived.Test.YtciciaikajdenaaChecked
import GoSem.Claim
import GoSem.ClaimJoined
import GoSem.ClaimMapViews
import Derived.JoinedTies
import Derived.KernelRfl
namespace Go.Proofs.Ytciciaikajdenaa
/- THE CELL 'sum', in the pinned program and in every row, IS THE sha256 OF THE DUMP (.gsa) THAT YtciciaikajdenaaProg.lean LOADS. Nothing in Lean hashes anything: it is a label: what it is worth is what the hold of that sum in a sandbox is worth. -/
noncomputable def Try.pinned : Pinned := { name := "ytciciaikajdenaa", sum := "1b6c597e76d42f0b3730b8249cc62776a37fccb0113ea148d7f9a0f27862dcca", checked := Try.checked }
namespace Rows
def none {H : Type} : Left H := { results := [], args := [] }

/-- 'usufructlaw23.HeapPlays': WHATEVER THE INPUT: true; the input reads as it did. -/
def heapPlaysSpec : ChangeSpec := { name := "heapPlays", fn := fun _ => fun
  | [d1, d2] => { results := [.lit (.bool true)], args := [d1, d2] }
  | _ => none }
def heapPlaysRow : OpenClaim := { program := "ytciciaikajdenaa", sum := "1b6c597e76d42f0b3730b8249cc62776a37fccb0113ea148d7f9a0f27862dcca", func := "usufruct/usufructlaw23.HeapPlays", spec := "heapPlays", unfollowed := true, recurses := true, plainKeys := false, apart := false }
def HeapPlaysSaid : Prop := heapPlaysRow.holds Try.pinned (OpenSpec.ofChange heapPlaysSpec)

/-- ITS FALSE NEIGHBOUR: 'it returns false'. Refute it at one input. -/
def heapPlaysWrong : ChangeSpec := { name := "heapPlays", fn := fun _ => fun
  | [d1, d2] => { results := [.lit (.bool false)], args := [d1, d2] }
  | _ => none }
def HeapPlaysWrongFalsely : Prop := heapPlaysRow.holds Try.pinned (OpenSpec.ofChange heapPlaysWrong)

/-- 'usufructlaw23.HeapOwned': WHATEVER THE INPUT: true; the input reads as it did. -/
def heapOwnedSpec : ChangeSpec := { name := "heapOwned", fn := fun _ => fun
  | [d1, d2] => { results := [.lit (.bool true)], args := [d1, d2] }
  | _ => none }
def heapOwnedRow : OpenClaim := { program := "ytciciaikajdenaa", sum := "1b6c597e76d42f0b3730b8249cc62776a37fccb0113ea148d7f9a0f27862dcca", func := "usufruct/usufructlaw23.HeapOwned", spec := "heapOwned", unfollowed := true, recurses := true, plainKeys := false, apart := false }
def HeapOwnedSaid : Prop := heapOwnedRow.holds Try.pinned (OpenSpec.ofChange heapOwnedSpec)

/-- ITS FALSE NEIGHBOUR: 'it returns false'. Refute it at one input. -/
def heapOwnedWrong : ChangeSpec := { name := "heapOwned", fn := fun _ => fun
  | [d1, d2] => { results := [.lit (.bool false)], args := [d1, d2] }
  | _ => none }
def HeapOwnedWrongFalsely : Prop := heapOwnedRow.holds Try.pinned (OpenSpec.ofChange heapOwnedWrong)

/-- 'usufructlaw23.HeapOrder': WHATEVER THE INPUT: true; the input reads as it did. -/
def heapOrderSpec : ChangeSpec := { name := "heapOrder", fn := fun _ => fun
  | [d1, d2] => { results := [.lit (.bool true)], args := [d1, d2] }
  | _ => none }
def heapOrderRow : OpenClaim := { program := "ytciciaikajdenaa", sum := "1b6c597e76d42f0b3730b8249cc62776a37fccb0113ea148d7f9a0f27862dcca", func := "usufruct/usufructlaw23.HeapOrder", spec := "heapOrder", unfollowed := true, recurses := true, plainKeys := false, apart := false }
def HeapOrderSaid : Prop := heapOrderRow.holds Try.pinned (OpenSpec.ofChange heapOrderSpec)

/-- ITS FALSE NEIGHBOUR: 'it returns false'. Refute it at one input. -/
def heapOrderWrong : ChangeSpec := { name := "heapOrder", fn := fun _ => fun
  | [d1, d2] => { results := [.lit (.bool false)], args := [d1, d2] }
  | _ => none }
def HeapOrderWrongFalsely : Prop := heapOrderRow.holds Try.pinned (OpenSpec.ofChange heapOrderWrong)

/-- 'usufructlaw23.HeapCounts': WHATEVER THE INPUT: true; the input reads as it did. -/
def heapCountsSpec : ChangeSpec := { name := "heapCounts", fn := fun _ => fun
  | [d1, d2] => { results := [.lit (.bool true)], args := [d1, d2] }
  | _ => none }
def heapCountsRow : OpenClaim := { program := "ytciciaikajdenaa", sum := "1b6c597e76d42f0b3730b8249cc62776a37fccb0113ea148d7f9a0f27862dcca", func := "usufruct/usufructlaw23.HeapCounts", spec := "heapCounts", unfollowed := true, recurses := true, plainKeys := false, apart := false }
def HeapCountsSaid : Prop := heapCountsRow.holds Try.pinned (OpenSpec.ofChange heapCountsSpec)

/-- ITS FALSE NEIGHBOUR: 'it returns false'. Refute it at one input. -/
def heapCountsWrong : ChangeSpec := { name := "heapCounts", fn := fun _ => fun
  | [d1, d2] => { results := [.lit (.bool false)], args := [d1, d2] }
  | _ => none }
def HeapCountsWrongFalsely : Prop := heapCountsRow.holds Try.pinned (OpenSpec.ofChange heapCountsWrong)

/-- 'usufructlaw24.CellApart': WHATEVER THE INPUT: true; the input reads as it did. -/
def cellApartSpec : ChangeSpec := { name := "cellApart", fn := fun _ => fun
  | [d1, d2] => { results := [.lit (.bool true)], args := [d1, d2] }
  | _ => none }
def cellApartRow : OpenClaim := { program := "ytciciaikajdenaa", sum := "1b6c597e76d42f0b3730b8249cc62776a37fccb0113ea148d7f9a0f27862dcca", func := "usufruct/usufructlaw24.CellApart", spec := "cellApart", unfollowed := true, recurses := true, loops := true, plainKeys := false, apart := false }
def CellApartSaid : Prop := cellApartRow.holds Try.pinned (OpenSpec.ofChange cellApartSpec)

/-- ITS FALSE NEIGHBOUR: 'it returns false'. Refute it at one input. -/
def cellApartWrong : ChangeSpec := { name := "cellApart", fn := fun _ => fun
  | [d1, d2] => { results := [.lit (.bool false)], args := [d1, d2] }
  | _ => none }
def CellApartWrongFalsely : Prop := cellApartRow.holds Try.pinned (OpenSpec.ofChange cellApartWrong)

/-- 'usufructlaw24.CellTrees': WHATEVER THE INPUT: true; the input reads as it did. -/
def cellTreesSpec : ChangeSpec := { name := "cellTrees", fn := fun _ => fun
  | [d1, d2] => { results := [.lit (.bool true)], args := [d1, d2] }
  | _ => none }
def cellTreesRow : OpenClaim := { program := "ytciciaikajdenaa", sum := "1b6c597e76d42f0b3730b8249cc62776a37fccb0113ea148d7f9a0f27862dcca", func := "usufruct/usufructlaw24.CellTrees", spec := "cellTrees", unfollowed := true, recurses := true, loops := true, plainKeys := false, apart := false }
def CellTreesSaid : Prop := cellTreesRow.holds Try.pinned (OpenSpec.ofChange cellTreesSpec)

/-- ITS FALSE NEIGHBOUR: 'it returns false'. Refute it at one input. -/
def cellTreesWrong : ChangeSpec := { name := "cellTrees", fn := fun _ => fun
  | [d1, d2] => { results := [.lit (.bool false)], args := [d1, d2] }
  | _ => none }
def CellTreesWrongFalsely : Prop := cellTreesRow.holds Try.pinned (OpenSpec.ofChange cellTreesWrong)

/-- 'usufructlaw24.CellRooms': WHATEVER THE INPUT: true; the input reads as it did. -/
def cellRoomsSpec : ChangeSpec := { name := "cellRooms", fn := fun _ => fun
  | [d1, d2] => { results := [.lit (.bool true)], args := [d1, d2] }
  | _ => none }
def cellRoomsRow : OpenClaim := { program := "ytciciaikajdenaa", sum := "1b6c597e76d42f0b3730b8249cc62776a37fccb0113ea148d7f9a0f27862dcca", func := "usufruct/usufructlaw24.CellRooms", spec := "cellRooms", unfollowed := true, recurses := true, loops := true, plainKeys := false, apart := false }
def CellRoomsSaid : Prop := cellRoomsRow.holds Try.pinned (OpenSpec.ofChange cellRoomsSpec)

/-- ITS FALSE NEIGHBOUR: 'it returns false'. Refute it at one input. -/
def cellRoomsWrong : ChangeSpec := { name := "cellRooms", fn := fun _ => fun
  | [d1, d2] => { results := [.lit (.bool false)], args := [d1, d2] }
  | _ => none }
def CellRoomsWrongFalsely : Prop := cellRoomsRow.holds Try.pinned (OpenSpec.ofChange cellRoomsWrong)

/-- 'usufructlaw24.CellOrder': WHATEVER THE INPUT: true; the input reads as it did. -/
def cellOrderSpec : ChangeSpec := { name := "cellOrder", fn := fun _ => fun
  | [d] => { results := [.lit (.bool true)], args := [d] }
  | _ => none }
def cellOrderRow : OpenClaim := { program := "ytciciaikajdenaa", sum := "1b6c597e76d42f0b3730b8249cc62776a37fccb0113ea148d7f9a0f27862dcca", func := "usufruct/usufructlaw24.CellOrder", spec := "cellOrder", unfollowed := true, recurses := true, loops := true, plainKeys := false, apart := false }
def CellOrderSaid : Prop := cellOrderRow.holds Try.pinned (OpenSpec.ofChange cellOrderSpec)

/-- ITS FALSE NEIGHBOUR: 'it returns false'. Refute it at one input. -/
def cellOrderWrong : ChangeSpec := { name := "cellOrder", fn := fun _ => fun
  | [d] => { results := [.lit (.bool false)], args := [d] }
  | _ => none }
def CellOrderWrongFalsely : Prop := cellOrderRow.holds Try.pinned (OpenSpec.ofChange cellOrderWrong)

/-- 'usufructlaw24.CellLast': WHATEVER THE INPUT: true; the input reads as it did. -/
def cellLastSpec : ChangeSpec := { name := "cellLast", fn := fun _ => fun
  | [d1, d2] => { results := [.lit (.bool true)], args := [d1, d2] }
  | _ => none }
def cellLastRow : OpenClaim := { program := "ytciciaikajdenaa", sum := "1b6c597e76d42f0b3730b8249cc62776a37fccb0113ea148d7f9a0f27862dcca", func := "usufruct/usufructlaw24.CellLast", spec := "cellLast", unfollowed := true, recurses := true, loops := true, plainKeys := false, apart := false }
def CellLastSaid : Prop := cellLastRow.holds Try.pinned (OpenSpec.ofChange cellLastSpec)

/-- ITS FALSE NEIGHBOUR: 'it returns false'. Refute it at one input. -/
def cellLastWrong : ChangeSpec := { name := "cellLast", fn := fun _ => fun
  | [d1, d2] => { results := [.lit (.bool false)], args := [d1, d2] }
  | _ => none }
def CellLastWrongFalsely : Prop := cellLastRow.holds Try.pinned (OpenSpec.ofChange cellLastWrong)

/-- 'usufructlaw24.CellPlays': WHATEVER THE INPUT: true; the input reads as it did. -/
def cellPlaysSpec : ChangeSpec := { name := "cellPlays", fn := fun _ => fun
  | [d1, d2] => { results := [.lit (.bool true)], args := [d1, d2] }
  | _ => none }
def cellPlaysRow : OpenClaim := { program := "ytciciaikajdenaa", sum := "1b6c597e76d42f0b3730b8249cc62776a37fccb0113ea148d7f9a0f27862dcca", func := "usufruct/usufructlaw24.CellPlays", spec := "cellPlays", unfollowed := true, recurses := true, loops := true, plainKeys := false, apart := false }
def CellPlaysSaid : Prop := cellPlaysRow.holds Try.pinned (OpenSpec.ofChange cellPlaysSpec)

/-- ITS FALSE NEIGHBOUR: 'it returns false'. Refute it at one input. -/
def cellPlaysWrong : ChangeSpec := { name := "cellPlays", fn := fun _ => fun
  | [d1, d2] => { results := [.lit (.bool false)], args := [d1, d2] }
  | _ => none }
def CellPlaysWrongFalsely : Prop := cellPlaysRow.holds Try.pinned (OpenSpec.ofChange cellPlaysWrong)

/- THE SECOND FORM. 'bulk': how many values and letters a reading holds, each counted each time it is reached (what is shared counts as often as it is met; a slice's spare places count too). A statement '..UptoSaid' is the law's where the arguments, and the package variables that the reading takes, are together of bulk at most 1048576: NARROWER than '..Said'. Prove '..Said' where nothing that the law and all that it calls make is longer than what came in: it says more and counts as full. Else prove '..UptoSaid'. A law counts once. -/
mutual
def uptoBulk {H : Type} : DataW H → Nat
  | .lit (.string bytes) => bytes.length + 1
  | .lit _ => 1
  | .nil => 1
  | .ptr d => uptoBulk d + 1
  | .slice elems spare => uptoBulkAll elems + uptoBulkAll spare + 1
  | .agg parts => uptoBulkAll parts + 1
  | .iface _ d => uptoBulk d + 1
  | .map entries => uptoBulkEntries entries + 1
  | .held _ => 1
def uptoBulkAll {H : Type} : List (DataW H) → Nat
  | [] => 0
  | d :: r => uptoBulk d + uptoBulkAll r
def uptoBulkEntries {H : Type} : List (Lit × DataW H) → Nat
  | [] => 0
  | x :: r => uptoBulkEntry x + uptoBulkEntries r
def uptoBulkEntry {H : Type} : Lit × DataW H → Nat
  | (.string bytes, d) => bytes.length + uptoBulk d + 1
  | (_, d) => uptoBulk d + 1
 end
def uptoSmall : (H : Type) → List (DataW H) → Bool := fun _ ds => decide (uptoBulkAll ds ≤ 1048576)
def OpenSpec.upto (s : _root_.Go.ChangeSpec) : _root_.Go.OpenSpec := { _root_.Go.OpenSpec.ofChange s with cond := some uptoSmall }

/-- 'usufructlaw23.HeapPlays', WHERE WHAT IT READS IS OF BULK AT MOST 1048576: true; the input reads as it did. -/
def heapPlaysUptoRow : OpenClaim := { program := "ytciciaikajdenaa", sum := "1b6c597e76d42f0b3730b8249cc62776a37fccb0113ea148d7f9a0f27862dcca", func := "usufruct/usufructlaw23.HeapPlays", spec := "heapPlays", unfollowed := true, recurses := true, plainKeys := false, apart := false, narrowed := true }
def HeapPlaysUptoSaid : Prop := heapPlaysUptoRow.holds Try.pinned (OpenSpec.upto heapPlaysSpec)

/-- 'usufructlaw23.HeapOwned', WHERE WHAT IT READS IS OF BULK AT MOST 1048576: true; the input reads as it did. -/
def heapOwnedUptoRow : OpenClaim := { program := "ytciciaikajdenaa", sum := "1b6c597e76d42f0b3730b8249cc62776a37fccb0113ea148d7f9a0f27862dcca", func := "usufruct/usufructlaw23.HeapOwned", spec := "heapOwned", unfollowed := true, recurses := true, plainKeys := false, apart := false, narrowed := true }
def HeapOwnedUptoSaid : Prop := heapOwnedUptoRow.holds Try.pinned (OpenSpec.upto heapOwnedSpec)

/-- 'usufructlaw23.HeapOrder', WHERE WHAT IT READS IS OF BULK AT MOST 1048576: true; the input reads as it did. -/
def heapOrderUptoRow : OpenClaim := { program := "ytciciaikajdenaa", sum := "1b6c597e76d42f0b3730b8249cc62776a37fccb0113ea148d7f9a0f27862dcca", func := "usufruct/usufructlaw23.HeapOrder", spec := "heapOrder", unfollowed := true, recurses := true, plainKeys := false, apart := false, narrowed := true }
def HeapOrderUptoSaid : Prop := heapOrderUptoRow.holds Try.pinned (OpenSpec.upto heapOrderSpec)

/-- 'usufructlaw23.HeapCounts', WHERE WHAT IT READS IS OF BULK AT MOST 1048576: true; the input reads as it did. -/
def heapCountsUptoRow : OpenClaim := { program := "ytciciaikajdenaa", sum := "1b6c597e76d42f0b3730b8249cc62776a37fccb0113ea148d7f9a0f27862dcca", func := "usufruct/usufructlaw23.HeapCounts", spec := "heapCounts", unfollowed := true, recurses := true, plainKeys := false, apart := false, narrowed := true }
def HeapCountsUptoSaid : Prop := heapCountsUptoRow.holds Try.pinned (OpenSpec.upto heapCountsSpec)

/-- 'usufructlaw24.CellApart', WHERE WHAT IT READS IS OF BULK AT MOST 1048576: true; the input reads as it did. -/
def cellApartUptoRow : OpenClaim := { program := "ytciciaikajdenaa", sum := "1b6c597e76d42f0b3730b8249cc62776a37fccb0113ea148d7f9a0f27862dcca", func := "usufruct/usufructlaw24.CellApart", spec := "cellApart", unfollowed := true, recurses := true, loops := true, plainKeys := false, apart := false, narrowed := true }
def CellApartUptoSaid : Prop := cellApartUptoRow.holds Try.pinned (OpenSpec.upto cellApartSpec)

/-- 'usufructlaw24.CellTrees', WHERE WHAT IT READS IS OF BULK AT MOST 1048576: true; the input reads as it did. -/
def cellTreesUptoRow : OpenClaim := { program := "ytciciaikajdenaa", sum := "1b6c597e76d42f0b3730b8249cc62776a37fccb0113ea148d7f9a0f27862dcca", func := "usufruct/usufructlaw24.CellTrees", spec := "cellTrees", unfollowed := true, recurses := true, loops := true, plainKeys := false, apart := false, narrowed := true }
def CellTreesUptoSaid : Prop := cellTreesUptoRow.holds Try.pinned (OpenSpec.upto cellTreesSpec)

/-- 'usufructlaw24.CellRooms', WHERE WHAT IT READS IS OF BULK AT MOST 1048576: true; the input reads as it did. -/
def cellRoomsUptoRow : OpenClaim := { program := "ytciciaikajdenaa", sum := "1b6c597e76d42f0b3730b8249cc62776a37fccb0113ea148d7f9a0f27862dcca", func := "usufruct/usufructlaw24.CellRooms", spec := "cellRooms", unfollowed := true, recurses := true, loops := true, plainKeys := false, apart := false, narrowed := true }
def CellRoomsUptoSaid : Prop := cellRoomsUptoRow.holds Try.pinned (OpenSpec.upto cellRoomsSpec)

/-- 'usufructlaw24.CellOrder', WHERE WHAT IT READS IS OF BULK AT MOST 1048576: true; the input reads as it did. -/
def cellOrderUptoRow : OpenClaim := { program := "ytciciaikajdenaa", sum := "1b6c597e76d42f0b3730b8249cc62776a37fccb0113ea148d7f9a0f27862dcca", func := "usufruct/usufructlaw24.CellOrder", spec := "cellOrder", unfollowed := true, recurses := true, loops := true, plainKeys := false, apart := false, narrowed := true }
def CellOrderUptoSaid : Prop := cellOrderUptoRow.holds Try.pinned (OpenSpec.upto cellOrderSpec)

/-- 'usufructlaw24.CellLast', WHERE WHAT IT READS IS OF BULK AT MOST 1048576: true; the input reads as it did. -/
def cellLastUptoRow : OpenClaim := { program := "ytciciaikajdenaa", sum := "1b6c597e76d42f0b3730b8249cc62776a37fccb0113ea148d7f9a0f27862dcca", func := "usufruct/usufructlaw24.CellLast", spec := "cellLast", unfollowed := true, recurses := true, loops := true, plainKeys := false, apart := false, narrowed := true }
def CellLastUptoSaid : Prop := cellLastUptoRow.holds Try.pinned (OpenSpec.upto cellLastSpec)

/-- 'usufructlaw24.CellPlays', WHERE WHAT IT READS IS OF BULK AT MOST 1048576: true; the input reads as it did. -/
def cellPlaysUptoRow : OpenClaim := { program := "ytciciaikajdenaa", sum := "1b6c597e76d42f0b3730b8249cc62776a37fccb0113ea148d7f9a0f27862dcca", func := "usufruct/usufructlaw24.CellPlays", spec := "cellPlays", unfollowed := true, recurses := true, loops := true, plainKeys := false, apart := false, narrowed := true }
def CellPlaysUptoSaid : Prop := cellPlaysUptoRow.holds Try.pinned (OpenSpec.upto cellPlaysSpec)

end Rows
end Go.Proofs.Ytciciaikajdenaa
