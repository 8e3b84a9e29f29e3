/- The world of layer 22 as plain data, and its operations. No program in sight. -/
import Derived.WalkKit
namespace Go.Proofs.Ytlpgekodoiioaaa
open Classical

structure AFile where
  name : ByteArray
  text : ByteArray

structure AHandle where
  file : Nat
  pos : Nat
  shut : Bool

structure AOp where
  kind : Int
  h : Int
  name : ByteArray
  text : ByteArray
  ok : Bool

structure AW where
  files : List AFile
  fails : List Bool
  handles : List AHandle
  trace : List AOp

def emptyB : ByteArray := ⟨#[]⟩
def AOp.zero : AOp := ⟨0, 0, emptyB, emptyB, false⟩

/-- The next of fails is taken: whether it is not true. -/
def AW.goes (W : AW) : Bool × AW := match W.fails with
  | [] => (true, W)
  | b :: fs => (!b, { W with fails := fs })

def AW.note (W : AW) (o : AOp) : AW := { W with trace := W.trace ++ [o] }

/-- The first file of a name. -/
noncomputable def nameIdx (name : ByteArray) : List AFile → Option Nat
  | [] => none
  | f :: l => if f.name = name then some 0 else (nameIdx name l).map (· + 1)

noncomputable def AW.open_ (W : AW) (name : ByteArray) : (Int × Bool) × AW :=
  match W.goes.1, nameIdx name W.files with
  | true, some i => (((W.handles.length : Int), true), ({ W.goes.2 with handles := W.handles ++ [⟨i, 0, false⟩] } : AW).note ⟨1, W.handles.length, name, emptyB, true⟩)
  | _, _ => ((0, false), W.goes.2.note ⟨1, -1, name, emptyB, false⟩)

/-- Why a handle can't be used. -/
def AW.wrong (W : AW) (h : Int) : Int :=
  if h < 0 ∨ (W.handles.length : Int) ≤ h then 4
  else match W.handles[h.toNat]? with
    | some x => if x.shut then 220 else 0
    | none => 4

def AW.handle (W : AW) (i : Nat) : AHandle := W.handles.getD i ⟨0, 0, true⟩
def AW.file (W : AW) (i : Nat) : AFile := W.files.getD i ⟨emptyB, emptyB⟩

/-- A line: the bytes up to a 10, or all; whether a 10 is there. -/
def lineOf : List UInt8 → List UInt8 × Bool
  | [] => ([], false)
  | b :: l => if b = 10 then ([], true) else (b :: (lineOf l).1, (lineOf l).2)

def bytesOf (l : List UInt8) : ByteArray := ⟨l.toArray⟩

def AW.setHandle (W : AW) (i : Nat) (x : AHandle) : AW := { W with handles := W.handles.set i x }

def AW.read (W : AW) (h : Int) : (Int × ByteArray × Int) × AW :=
  if W.wrong h ≠ 0 then ((0, emptyB, W.wrong h), W)
  else if W.goes.1 = false then ((3, emptyB, 0), W.goes.2.note ⟨2, h, emptyB, emptyB, false⟩)
  else
    let x := W.handle h.toNat
    let rest := (W.file x.file).text.toList.drop x.pos
    if rest = [] then ((2, emptyB, 0), W.goes.2.note ⟨2, h, emptyB, emptyB, true⟩)
    else
      let line := lineOf rest
      ((1, bytesOf line.1, 0), (W.goes.2.setHandle h.toNat { x with pos := x.pos + line.1.length + (if line.2 then 1 else 0) }).note ⟨2, h, emptyB, bytesOf line.1, true⟩)

def AW.write (W : AW) (h : Int) (s : ByteArray) : (Bool × Int) × AW :=
  if W.wrong h ≠ 0 then ((false, W.wrong h), W)
  else
    let x := W.handle h.toNat
    let f := W.file x.file
    let ok := W.goes.1 && decide (s.size + f.text.size ≤ 4000)
    ((ok, 0), (if ok then { W.goes.2 with files := W.files.set x.file { f with text := f.text ++ s } } else W.goes.2).note ⟨3, h, emptyB, s, ok⟩)

def AW.close (W : AW) (h : Int) : (Bool × Int) × AW :=
  if W.wrong h ≠ 0 then ((false, W.wrong h), W)
  else ((W.goes.1, 0), (W.goes.2.setHandle h.toNat { W.handle h.toNat with shut := true }).note ⟨4, h, emptyB, emptyB, W.goes.1⟩)

def AW.drop (W : AW) (h : Int) : Int × AW :=
  if W.wrong h ≠ 0 then (W.wrong h, W)
  else (0, W.setHandle h.toNat { W.handle h.toNat with shut := true })

/-- What always holds; n: nothing is longer. -/
structure AW.Ok (W : AW) (n : Nat) : Prop where
  few : W.files.length ≤ 20
  texts : ∀ f ∈ W.files, f.text.size ≤ 4000
  files : ∀ x ∈ W.handles, x.file < W.files.length ∧ x.pos ≤ (W.file x.file).text.size
  handles : W.handles.length ≤ n
  trace : W.trace.length ≤ n

end Go.Proofs.Ytlpgekodoiioaaa
