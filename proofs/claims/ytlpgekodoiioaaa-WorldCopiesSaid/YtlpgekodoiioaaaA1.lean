/- The world of package world in memory. -/
import Derived.Test.YtlpgekodoiioaaaRows
import Derived.Test.YtlpgekodoiioaaaSlApp
import Derived.Test.YtlpgekodoiioaaaWModel
import Derived.Test.YtlpgekodoiioaaaOrd
import Derived.WalkSpells
import Derived.WalkLawsBesides
import Derived.BigQuiet
import Derived.Deep.QuietTactic
import Derived.Lib.Hide
set_option linter.unusedSimpArgs false
set_option linter.unusedVariables false
namespace Go.Proofs.Ytlpgekodoiioaaa
open Go.RowKit

def fCells (f : AFile) : List Value := [.string f.name, .string f.text]
def hCells (x : AHandle) : List Value := [.int .i64 x.file, .int .i64 x.pos, .bool x.shut]
def oCells (o : AOp) : List Value := [.int .u8 o.kind, .int .i64 o.h, .string o.name, .string o.text, .bool o.ok]
def ov (o : AOp) : Value := .agg #[.int .u8 o.kind, .int .i64 o.h, .string o.name, .string o.text, .bool o.ok]

/-- A slice that stands somewhere in an array of its own, and is read only. -/
def tailS (T : TypeId) (v : Value) (bs : List Value) : HProp := fun f =>
  ((∃ a c, v = .slice a 0 c) ∧ bs = []) ∨ ∃ b cap pre rest, v = .slice (some ⟨b, pre.length, none⟩) bs.length cap ∧ bs.length ≤ cap ∧ cap ≤ maxLen ∧ cap ≤ bs.length + rest.length ∧ f b = some (.cells (pre ++ bs ++ rest).toArray T (0, 0))

def boolsV (l : List Bool) : List Value := l.map .bool

def worldL (p : Nat) (W : AW) (vf vb vh vt : Value) : List HProp :=
  [cellsB p #[vf, vb, vh, vt] 78, ownS 62 2 vf W.files.length (W.files.flatMap fCells), tailS 4 vb (boolsV W.fails), ownS 86 3 vh W.handles.length (W.handles.flatMap hCells), ownS 68 5 vt W.trace.length (W.trace.flatMap oCells)]

def worldAt (p : Nat) (W : AW) : HProp := fun f => ∃ vf vb vh vt, starL (worldL p W vf vb vh vt) f

section
variable {W0 w : World} {L : List HProp} {p : Nat} {W : AW}

theorem St.world_open (h : St W0 w (worldAt p W :: L)) : ∃ vf vb vh vt, St W0 w (worldL p W vf vb vh vt ++ L) := by
  obtain ⟨vf, h⟩ := h.ex
  obtain ⟨vb, h⟩ := h.ex
  obtain ⟨vh, h⟩ := h.ex
  obtain ⟨vt, h⟩ := h.ex
  exact ⟨vf, vb, vh, vt, h.flat⟩

theorem St.world_close {vf vb vh vt : Value} (h : St W0 w (worldL p W vf vb vh vt ++ L)) : St W0 w (worldAt p W :: L) :=
  h.unflat.head fun _ s => ⟨vf, vb, vh, vt, s⟩

theorem St.tail_cases {T : TypeId} {v : Value} {bs : List Value} (h : St W0 w (tailS T v bs :: L)) : ((∃ a c, v = .slice a 0 c) ∧ bs = []) ∨
    ∃ b cap pre rest, v = .slice (some ⟨b, pre.length, none⟩) bs.length cap ∧ bs.length ≤ cap ∧ cap ≤ maxLen ∧ cap ≤ bs.length + rest.length ∧ St W0 w (cellsB b (pre ++ bs ++ rest).toArray T :: L) := by
  obtain ⟨f, g, p, q, r⟩ := h.sep
  rcases p with ⟨h1, h2⟩ | ⟨b, cap, pre, rest, h1, h2, h3, h4, h5⟩
  · exact .inl ⟨h1, h2⟩
  · exact .inr ⟨b, cap, pre, rest, h1, h2, h3, h4, h.os, h.tape, h.output, h.size, h.block, f, g, h5, q, r⟩

theorem St.tail_nil {T : TypeId} (a : Option Addr) (c : Nat) (h : St W0 w L) : St W0 w (tailS T (.slice a 0 c) [] :: L) :=
  h.conv fun f s => ⟨fun _ => none, f, .inl ⟨⟨_, _, rfl⟩, rfl⟩, s, fun _ => .inl rfl, (fun _ _ e => by cases e), Le.refl _⟩

theorem St.tail_mk {T : TypeId} {b cap : Nat} {pre bs rest : List Value} (h : St W0 w (cellsB b (pre ++ bs ++ rest).toArray T :: L)) (h1 : bs.length ≤ cap) (h2 : cap ≤ maxLen) (h3 : cap ≤ bs.length + rest.length) :
    St W0 w (tailS T (.slice (some ⟨b, pre.length, none⟩) bs.length cap) bs :: L) :=
  h.head fun _ p => .inr ⟨b, cap, pre, rest, rfl, h1, h2, h3, p⟩

def goesB (fails : List Bool) : Bool × List Bool := match fails with
  | [] => (true, [])
  | b :: fs => (!b, fs)

theorem goes_eq (W : AW) : W.goes = ((goesB W.fails).1, { W with fails := (goesB W.fails).2 }) := by
  unfold AW.goes goesB
  cases h : W.fails with
  | nil => obtain ⟨a, b, c, d⟩ := W; simp only at h; subst h; rfl
  | cons b fs => rfl

def GoesPost (W0 : World) (L : List HProp) (p : Nat) (vf vh vt : Value) (fails : List Bool) (e : Ending) (w' : World) : Prop :=
  e = .returned (.bool (goesB fails).1) ∧ ∃ vb', St W0 w' (cellsB p #[vf, vb', vh, vt] 78 :: tailS 4 vb' (boolsV (goesB fails).2) :: L)

set_option maxRecDepth 100000 in
theorem goes_o {vf vb vh vt : Value} {fails : List Bool} (hO : St W0 w (cellsB p #[vf, vb, vh, vt] 78 :: tailS 4 vb (boolsV fails) :: L)) : Calls Try.prog 39 #[.pointer (some ⟨p, 0, none⟩)] w fun e w' => GoesPost W0 L p vf vh vt fails e w' := by
  unfold GoesPost
  cases fails with
  | nil =>
    have hb : ∃ a c, vb = .slice a 0 c := by
      rcases (hO.pull 1).tail_cases with ⟨h1, _⟩ | ⟨b, cap, pre, rest, h1, _⟩
      · exact h1
      · exact ⟨_, _, h1⟩
    obtain ⟨a, c, rfl⟩ := hb
    have d0 := hO.cell
    have HS := Lib.hid hO
    clear hO
    go_enter Try.func39, Try.ntmps39
    go_wp2
    go_ret
    exact ⟨rfl, _, HS.out⟩
  | cons q fs =>
    obtain ⟨b, cap, pre, rest, rfl, h1, h2, h3, s⟩ := (hO.pull 1).tail_cases.resolve_left (fun x => by have := x.2; simp [boolsV] at this)
    have hl : (boolsV (q :: fs)).length = fs.length + 1 := by simp [boolsV]
    rw [hl] at h1 h3 s
    have cb : w.cell? ⟨b, pre.length, none⟩ = some (.bool q) := by rw [s.cell]; simp [boolsV]
    -- [b, p, L]
    have d0 := (s.pull 1).cell
    have f0 := (s.pull 1).free
    have HS := Lib.hid s
    have HC := Lib.hid (And.intro h2 h3)
    clear hO s h2 h3 hl
    have h63 : fs.length + 1 ≤ cap := h1
    go_enter Try.func39, Try.ntmps39
    go_wp2
    case inr hne =>
      go_ret
      have S2 := (HS.out.pull 1).set 1 (.slice (some ⟨b, pre.length + 1, none⟩) fs.length (cap - 1))
      simp only [List.setIfInBounds_toArray, List.set_cons_zero, List.set_cons_succ] at S2
      have e1 : pre ++ boolsV (q :: fs) ++ rest = (pre ++ [Value.bool q]) ++ boolsV fs ++ rest := by simp [boolsV]
      rw [e1] at S2
      have hbl : (boolsV fs).length = fs.length := by simp [boolsV]
      have T := (S2.pull 1).tail_mk (cap := cap - 1) (by rw [hbl]; omega) (by have := HC.out.1; omega) (by rw [hbl]; have := HC.out.2; omega)
      have hpl : (pre ++ [Value.bool q]).length = pre.length + 1 := by simp
      rw [hpl, hbl] at T
      exact ⟨rfl, _, T.pull 1⟩
    case inl he =>
      go_ret
      have hfs : fs = [] := List.eq_nil_of_length_eq_zero (by omega)
      subst hfs
      refine ⟨rfl, ?_⟩
      have S2 := fun v => (HS.out.pull 1).set 1 v
      simp only [List.setIfInBounds_toArray, List.set_cons_zero, List.set_cons_succ] at S2
      have S3 := fun a c => (((S2 (.slice a 0 c)).pull 1).tail.tail_nil (T := 4) a c)
      exact ⟨_, (S3 _ _).pull 1⟩
end
end Go.Proofs.Ytlpgekodoiioaaa
