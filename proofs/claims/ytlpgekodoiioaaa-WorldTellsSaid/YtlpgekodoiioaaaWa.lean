/- Wa: A1, A2, A3, A4, A5, A6, A7, A8 in one. -/
import Derived.Test.YtlpgekodoiioaaaRows
import Derived.Test.YtlpgekodoiioaaaLb
import Derived.Test.YtlpgekodoiioaaaWModel
import Derived.WalkSpells
import Derived.WalkLawsBesides
import Derived.BigQuiet
import Derived.Deep.QuietTactic
import Derived.Lib.Hide
import Derived.Defers
import Derived.Lib.Bytealg
import Derived.Laws.Strings3
set_option linter.unusedSimpArgs false
set_option linter.unusedVariables false
/- The world of package world in memory. -/
namespace Go.Proofs.Ytlpgekodoiioaaa
open Go.RowKit

def fCells (f : AFile) : List Value := [.string f.name, .string f.text]
def hCells (x : AHandle) : List Value := [.int .i64 x.file, .int .i64 x.pos, .bool x.shut]
def oCells (o : AOp) : List Value := [.int .u8 o.kind, .int .i64 o.h, .string o.name, .string o.text, .bool o.ok]
def ov (o : AOp) : Value := .agg #[.int .u8 o.kind, .int .i64 o.h, .string o.name, .string o.text, .bool o.ok]

/-- A slice that stands somewhere in an array of its own, and is read only. -/
def tailS (T : TypeId) (v : Value) (bs : List Value) : HProp := fun f =>
  ((∃ a c, v = .slice a 0 c) ∧ bs = []) ∨ ∃ b cap pre rest, v = .slice (some ⟨b, pre.length, none⟩) bs.length cap ∧ bs.length ≤ cap ∧ cap ≤ maxLen ∧ cap ≤ bs.length + rest.length ∧ f b = some (.cells (pre ++ bs ++ rest).toArray T (0, 0))

def boolsV (l : List Bool) : List Value := l.map .bool

def worldL (p : Nat) (W : AW) (vf vb vh vt : Value) : List HProp :=
  [cellsB p #[vf, vb, vh, vt] 78, ownS 62 2 vf W.files.length (W.files.flatMap fCells), tailS 4 vb (boolsV W.fails), ownS 86 3 vh W.handles.length (W.handles.flatMap hCells), ownS 68 5 vt W.trace.length (W.trace.flatMap oCells)]

def worldAt (p : Nat) (W : AW) : HProp := fun f => ∃ vf vb vh vt, starL (worldL p W vf vb vh vt) f

section
variable {W0 w : World} {L : List HProp} {p : Nat} {W : AW}

theorem St.world_open (h : St W0 w (worldAt p W :: L)) : ∃ vf vb vh vt, St W0 w (worldL p W vf vb vh vt ++ L) := by
  obtain ⟨vf, h⟩ := h.ex
  obtain ⟨vb, h⟩ := h.ex
  obtain ⟨vh, h⟩ := h.ex
  obtain ⟨vt, h⟩ := h.ex
  exact ⟨vf, vb, vh, vt, h.flat⟩

theorem St.world_close {vf vb vh vt : Value} (h : St W0 w (worldL p W vf vb vh vt ++ L)) : St W0 w (worldAt p W :: L) :=
  h.unflat.head fun _ s => ⟨vf, vb, vh, vt, s⟩

theorem St.tail_cases {T : TypeId} {v : Value} {bs : List Value} (h : St W0 w (tailS T v bs :: L)) : ((∃ a c, v = .slice a 0 c) ∧ bs = []) ∨
    ∃ b cap pre rest, v = .slice (some ⟨b, pre.length, none⟩) bs.length cap ∧ bs.length ≤ cap ∧ cap ≤ maxLen ∧ cap ≤ bs.length + rest.length ∧ St W0 w (cellsB b (pre ++ bs ++ rest).toArray T :: L) := by
  obtain ⟨f, g, p, q, r⟩ := h.sep
  rcases p with ⟨h1, h2⟩ | ⟨b, cap, pre, rest, h1, h2, h3, h4, h5⟩
  · exact .inl ⟨h1, h2⟩
  · exact .inr ⟨b, cap, pre, rest, h1, h2, h3, h4, h.os, h.tape, h.output, h.size, h.block, f, g, h5, q, r⟩

theorem St.tail_nil {T : TypeId} (a : Option Addr) (c : Nat) (h : St W0 w L) : St W0 w (tailS T (.slice a 0 c) [] :: L) :=
  h.conv fun f s => ⟨fun _ => none, f, .inl ⟨⟨_, _, rfl⟩, rfl⟩, s, fun _ => .inl rfl, (fun _ _ e => by cases e), Le.refl _⟩

theorem St.tail_mk {T : TypeId} {b cap : Nat} {pre bs rest : List Value} (h : St W0 w (cellsB b (pre ++ bs ++ rest).toArray T :: L)) (h1 : bs.length ≤ cap) (h2 : cap ≤ maxLen) (h3 : cap ≤ bs.length + rest.length) :
    St W0 w (tailS T (.slice (some ⟨b, pre.length, none⟩) bs.length cap) bs :: L) :=
  h.head fun _ p => .inr ⟨b, cap, pre, rest, rfl, h1, h2, h3, p⟩

def goesB (fails : List Bool) : Bool × List Bool := match fails with
  | [] => (true, [])
  | b :: fs => (!b, fs)

theorem goes_eq (W : AW) : W.goes = ((goesB W.fails).1, { W with fails := (goesB W.fails).2 }) := by
  unfold AW.goes goesB
  cases h : W.fails with
  | nil => obtain ⟨a, b, c, d⟩ := W; simp only at h; subst h; rfl
  | cons b fs => rfl

def GoesPost (W0 : World) (L : List HProp) (p : Nat) (vf vh vt : Value) (fails : List Bool) (e : Ending) (w' : World) : Prop :=
  e = .returned (.bool (goesB fails).1) ∧ ∃ vb', St W0 w' (cellsB p #[vf, vb', vh, vt] 78 :: tailS 4 vb' (boolsV (goesB fails).2) :: L)

set_option maxRecDepth 100000 in
theorem goes_o {vf vb vh vt : Value} {fails : List Bool} (hO : St W0 w (cellsB p #[vf, vb, vh, vt] 78 :: tailS 4 vb (boolsV fails) :: L)) : Calls Try.prog 39 #[.pointer (some ⟨p, 0, none⟩)] w fun e w' => GoesPost W0 L p vf vh vt fails e w' := by
  unfold GoesPost
  cases fails with
  | nil =>
    have hb : ∃ a c, vb = .slice a 0 c := by
      rcases (hO.pull 1).tail_cases with ⟨h1, _⟩ | ⟨b, cap, pre, rest, h1, _⟩
      · exact h1
      · exact ⟨_, _, h1⟩
    obtain ⟨a, c, rfl⟩ := hb
    have d0 := hO.cell
    have HS := Lib.hid hO
    clear hO
    go_enter Try.func39, Try.ntmps39
    go_wp2
    go_ret
    exact ⟨rfl, _, HS.out⟩
  | cons q fs =>
    obtain ⟨b, cap, pre, rest, rfl, h1, h2, h3, s⟩ := (hO.pull 1).tail_cases.resolve_left (fun x => by have := x.2; simp [boolsV] at this)
    have hl : (boolsV (q :: fs)).length = fs.length + 1 := by simp [boolsV]
    rw [hl] at h1 h3 s
    have cb : w.cell? ⟨b, pre.length, none⟩ = some (.bool q) := by rw [s.cell]; simp [boolsV]
    -- [b, p, L]
    have d0 := (s.pull 1).cell
    have f0 := (s.pull 1).free
    have HS := Lib.hid s
    have HC := Lib.hid (And.intro h2 h3)
    clear hO s h2 h3 hl
    have h63 : fs.length + 1 ≤ cap := h1
    go_enter Try.func39, Try.ntmps39
    go_wp2
    case inr hne =>
      go_ret
      have S2 := (HS.out.pull 1).set 1 (.slice (some ⟨b, pre.length + 1, none⟩) fs.length (cap - 1))
      simp only [List.setIfInBounds_toArray, List.set_cons_zero, List.set_cons_succ] at S2
      have e1 : pre ++ boolsV (q :: fs) ++ rest = (pre ++ [Value.bool q]) ++ boolsV fs ++ rest := by simp [boolsV]
      rw [e1] at S2
      have hbl : (boolsV fs).length = fs.length := by simp [boolsV]
      have T := (S2.pull 1).tail_mk (cap := cap - 1) (by rw [hbl]; omega) (by have := HC.out.1; omega) (by rw [hbl]; have := HC.out.2; omega)
      have hpl : (pre ++ [Value.bool q]).length = pre.length + 1 := by simp
      rw [hpl, hbl] at T
      exact ⟨rfl, _, T.pull 1⟩
    case inl he =>
      go_ret
      have hfs : fs = [] := List.eq_nil_of_length_eq_zero (by omega)
      subst hfs
      refine ⟨rfl, ?_⟩
      have S2 := fun v => (HS.out.pull 1).set 1 v
      simp only [List.setIfInBounds_toArray, List.set_cons_zero, List.set_cons_succ] at S2
      have S3 := fun a c => (((S2 (.slice a 0 c)).pull 1).tail.tail_nil (T := 4) a c)
      exact ⟨_, (S3 _ _).pull 1⟩
end
end Go.Proofs.Ytlpgekodoiioaaa

/- note, deferred. -/
namespace Go.Proofs.Ytlpgekodoiioaaa
open Go.RowKit

theorem info68 : (Try.prog.info? 68).map (fun i => (i.zero, i.size, i.bytes)) = some (some (.agg #[.int .u8 0, .int .i64 0, .string ⟨#[]⟩, .string ⟨#[]⟩, .bool false]), 5, 56) := by kernel_rfl

theorem one_oCells (o : AOp) : ∀ u ∈ oCells o, u.oneCell' = true := by
  intro u hu
  simp [oCells] at hu
  rcases hu with rfl | rfl | rfl | rfl | rfl <;> rfl

section
variable {W0 w : World} {L : List HProp} {p b : Nat} {W : AW} {o : AOp}

def NotePost (W0 : World) (L : List HProp) (p b : Nat) (W : AW) (o : AOp) (e : Ending) (w' : World) : Prop :=
  e = .returned (.tuple #[]) ∧ St W0 w' (worldAt p (W.note o) :: L)

set_option maxRecDepth 100000 in
theorem note_d (h : St W0 w (cellsB b (oCells o).toArray 68 :: worldAt p W :: L)) (hn : W.trace.length ≤ 100000) (u : FrameMode) :
    CallsD Try.prog 38 #[.pointer (some ⟨p, 0, none⟩), .pointer (some ⟨b, 0, none⟩)] u w fun e u' w' => u' = u ∧ NotePost W0 L p b W o e w' := by
  obtain ⟨vf, vb, vh, vt, hO⟩ := (h.pull 1).world_open
  unfold worldL at hO
  simp only [List.cons_append, List.nil_append] at hO
  obtain ⟨ta, tcap, rfl, _⟩ := (hO.pull 4).own_form
  have HS := Lib.hid hO
  clear h hO
  go_enter_d Try.func38, Try.ntmps38
  refine wp_region_st HS.out [0, 1, 2, 3, 4, 5, 6, 7, 8, 9, 10, 11, 12] (fun w' => (∀ o, w'.cell? ⟨p, o, none⟩ = #[vf, vb, vh, Value.slice ta W.trace.length tcap][o]?) ∧ (∀ i, w'.cell? ⟨b, i, none⟩ = (oCells o).toArray[i]?)) [4, 7] [8, 9, 12] [9, 12] (by kernel_rfl) (by kernel_rfl) (fun c d v a w h => by cases d <;> exact h) ?_
  clear HS
  intro w3 S
  unfold oCells at S ⊢
  have HF := Lib.hid (And.intro S.cell (S.pull 5).cell)
  iterate 8
    (first
      | refine walk_load rfl rfl rfl HF.out rfl (by rintro w' ⟨g0, g1⟩; go_simp; with_reducible rfl) ?_
      | refine walk_pure rfl rfl rfl rfl (by intro w'; go_simp; with_reducible rfl) ?_)
    simp only [List.getElem_toArray, List.getElem_cons_zero, List.getElem_cons_succ, Act.put, List.setIfInBounds_toArray, List.set_cons_zero, List.set_cons_succ]
  clear HF
  have S := S.allocC #[Value.int .u8 o.kind, .int .i64 o.h, .string o.name, .string o.text, .bool o.ok] 68
  refine walk_do rfl rfl rfl (fun K hK => ?_)
  go_simp
  refine hK _ _ (fun _ => And.intro (S.pull 1).cell (S.pull 6).cell) ?_
  clear hK K
  try simp only [List.getElem_toArray, List.getElem_cons_zero, List.getElem_cons_succ, Act.put, List.setIfInBounds_toArray, List.set_cons_zero, List.set_cons_succ]
  generalize w3.heap.size = B9 at S ⊢
  refine abs_walk S ?_
  clear S
  intro w4 S
  -- [B9, p, files, tail, handles, trace, b, L]
  obtain ⟨ii, hi1, hz0, hz1, hz2⟩ := info_parts info68
  refine walk_do rfl rfl rfl (fun K hK => ?_)
  refine wp_append_st (S.pull 5) (rd_cells (sz := 5) (n := 1) (cap := 1) S (Nat.le_refl _) rfl) (one_oCells o) hi1 hz0 hz1 hz2 rfl (by unfold maxLen; omega) (by omega) Try.underlying47 _ _ rfl rfl rfl ?_
  intro vt' w5 S2 _
  obtain ⟨a2, cap2, rfl, _⟩ := S2.own_form
  refine hK _ _ (fun q => by cases q) ?_
  clear hK K S
  try simp only [List.getElem_toArray, List.getElem_cons_zero, List.getElem_cons_succ, Act.put, List.setIfInBounds_toArray, List.set_cons_zero, List.set_cons_succ]
  iterate 2
    refine walk_pure rfl rfl rfl rfl (by intro w'; go_simp; with_reducible rfl) ?_
    simp only [List.getElem_toArray, List.getElem_cons_zero, List.getElem_cons_succ, Act.put, List.setIfInBounds_toArray, List.set_cons_zero, List.set_cons_succ]
  -- [trace', B9, p, files, tail, handles, b, L]
  have cp := (S2.pull 2).cell
  have fp := (S2.pull 2).free
  refine walk_do rfl rfl rfl (fun K hK => ?_)
  go_simp
  refine hK _ _ (fun h => by cases h) (walk_nil ?_)
  clear hK K cp fp
  have S := (S2.pull 2).set 3 (.slice a2 (W.trace.length + 1) cap2)
  simp only [List.setIfInBounds_toArray, List.set_cons_zero, List.set_cons_succ] at S
  have HS := Lib.hid S
  clear S S2
  go_wp2_with fail
  refine bodyPost_ret (results_none rfl _ _ _) rfl ⟨rfl, ?_⟩
  -- [p, trace', B9, files, tail, handles, b, L]
  have T := ((HS.out.pull 6).tail.pull 2).tail
  -- [p, trace', files, tail, handles, L]
  refine St.world_close (vf := vf) (vb := vb) (vh := vh) (vt := .slice a2 (W.trace.length + 1) cap2) ?_
  have e : (W.note o).trace.flatMap oCells = W.trace.flatMap oCells ++ [Value.int .u8 o.kind, .int .i64 o.h, .string o.name, .string o.text, .bool o.ok] := by simp [AW.note, oCells]
  have e2 : (W.note o).trace.length = W.trace.length + 1 := by simp [AW.note]
  unfold worldL
  rw [e, e2]
  exact (((T.pull 4).pull 4).pull 4).pull 3
end
end Go.Proofs.Ytlpgekodoiioaaa

/- find. -/
namespace Go.Proofs.Ytlpgekodoiioaaa
open Go.RowKit

theorem flat_get' {α : Type} {f : α → List Value} {k : Nat} (hf : ∀ x, (f x).length = k) : ∀ (l : List α) (i j : Nat) (x : α), l[i]? = some x → j < k → (l.flatMap f)[i * k + j]? = (f x)[j]?
  | [], i, j, x, h, _ => by simp at h
  | a :: l, 0, j, x, h, hj => by
    simp at h; subst h
    simp only [List.flatMap_cons, Nat.zero_mul, Nat.zero_add]
    rw [List.getElem?_append_left (by rw [hf]; exact hj)]
  | a :: l, i + 1, j, x, h, hj => by
    simp only [List.flatMap_cons]
    rw [List.getElem?_append_right (by rw [hf, Nat.add_mul]; omega), hf]
    rw [show (i + 1) * k + j - k = i * k + j from by rw [Nat.add_mul]; omega]
    exact flat_get' hf l i j x (by simpa using h) hj

theorem flat_len' {α : Type} {f : α → List Value} {k : Nat} (hf : ∀ x, (f x).length = k) : ∀ (l : List α), (l.flatMap f).length = l.length * k
  | [] => by simp
  | a :: l => by simp only [List.flatMap_cons, List.length_append, List.length_cons, hf, flat_len' hf l, Nat.add_mul]; omega

theorem hCells_len (x : AHandle) : (hCells x).length = 3 := rfl
theorem fCells_len (x : AFile) : (fCells x).length = 2 := rfl
theorem oCells_len (x : AOp) : (oCells x).length = 5 := rfl

section
variable {W0 w : World} {L : List HProp} {p : Nat} {W : AW}

/-- The cells of the i-th handle. -/
theorem handle_cells {b : Nat} {rest : List Value} {hs : List AHandle} {i : Nat} {x : AHandle} {T : TypeId} (h : St W0 w (cellsB b (hs.flatMap hCells ++ rest).toArray T :: L)) (hx : hs[i]? = some x) :
    w.cell? ⟨b, i * 3, none⟩ = some (.int .i64 x.file) ∧ w.cell? ⟨b, i * 3 + 1, none⟩ = some (.int .i64 x.pos) ∧ w.cell? ⟨b, i * 3 + 2, none⟩ = some (.bool x.shut) := by
  have hl : i < hs.length := (List.getElem?_eq_some_iff.1 hx).1
  have key : ∀ j, j < 3 → w.cell? ⟨b, i * 3 + j, none⟩ = (hCells x)[j]? := by
    intro j hj
    rw [h.cell, List.getElem?_toArray, List.getElem?_append_left (by rw [flat_len' hCells_len]; omega), flat_get' hCells_len hs i j x hx hj]
  exact ⟨key 0 (by omega), key 1 (by omega), key 2 (by omega)⟩

/-- The cells of the i-th file. -/
theorem file_cells {b : Nat} {rest : List Value} {fs : List AFile} {i : Nat} {x : AFile} {T : TypeId} (h : St W0 w (cellsB b (fs.flatMap fCells ++ rest).toArray T :: L)) (hx : fs[i]? = some x) :
    w.cell? ⟨b, i * 2, none⟩ = some (.string x.name) ∧ w.cell? ⟨b, i * 2 + 1, none⟩ = some (.string x.text) := by
  have hl : i < fs.length := (List.getElem?_eq_some_iff.1 hx).1
  have key : ∀ j, j < 2 → w.cell? ⟨b, i * 2 + j, none⟩ = (fCells x)[j]? := by
    intro j hj
    rw [h.cell, List.getElem?_toArray, List.getElem?_append_left (by rw [flat_len' fCells_len]; omega), flat_get' fCells_len fs i j x hx hj]
  exact ⟨key 0 (by omega), key 1 (by omega)⟩

theorem wrong_zero {h : Int} (hw : W.wrong h = 0) : ∃ i : Nat, h = i ∧ i < W.handles.length ∧ W.handles[i]? = some (W.handle i) ∧ (W.handle i).shut = false := by
  unfold AW.wrong at hw
  split at hw
  · cases hw
  · rename_i h1
    simp only [not_or, Int.not_lt, Int.not_le] at h1
    obtain ⟨i, rfl⟩ := Int.eq_ofNat_of_zero_le h1.1
    have hi : i < W.handles.length := by omega
    have hx : W.handles[i]? = some (W.handle i) := by simp [AW.handle, List.getD, List.getElem?_eq_getElem hi]
    refine ⟨i, rfl, hi, hx, ?_⟩
    simp only [Int.toNat_natCast, hx] at hw
    cases hs : (W.handle i).shut
    · rfl
    · rw [hs] at hw; simp at hw

set_option maxRecDepth 100000 in
/-- A handle that can't be used. -/
theorem find_bad (h : St W0 w (worldAt p W :: L)) {x k : Int} (hk : W.wrong x = k) (h0 : k ≠ 0) (hn : W.handles.length ≤ 100000) :
    Calls Try.prog 42 #[.pointer (some ⟨p, 0, none⟩), .int .i64 x] w fun e w' => e = .returned (.tuple #[.pointer none, .int .i64 k]) ∧ w' = w := by
  obtain ⟨vf, vb, vh, vt, hO⟩ := h.world_open
  unfold worldL at hO
  simp only [List.cons_append, List.nil_append] at hO
  obtain ⟨ha, hcap, rfl, _⟩ := (hO.pull 3).own_form
  have d0 := hO.cell
  by_cases h1 : x < 0
  · have e : k = 4 := by unfold AW.wrong at hk; rw [if_pos (Or.inl h1)] at hk; exact hk.symm
    subst e
    clear h hO hk h0
    go_enter Try.func42, Try.ntmps42
    go_wp2
    go_ret2
    exact ⟨rfl, rfl⟩
  · by_cases h2 : (W.handles.length : Int) ≤ x
    · have e : k = 4 := by unfold AW.wrong at hk; rw [if_pos (Or.inr h2)] at hk; exact hk.symm
      subst e
      clear h hO hk h0
      go_enter Try.func42, Try.ntmps42
      go_wp2
      go_ret2
      exact ⟨rfl, rfl⟩
    · obtain ⟨i, rfl⟩ := Int.eq_ofNat_of_zero_le (show 0 ≤ x by omega)
      have hi : i < W.handles.length := by omega
      have hx : W.handles[i]? = some (W.handle i) := by simp [AW.handle, List.getD, List.getElem?_eq_getElem hi]
      have e : k = 220 ∧ (W.handle i).shut = true := by
        unfold AW.wrong at hk
        rw [if_neg (by omega)] at hk
        simp only [Int.toNat_natCast, hx] at hk
        cases hs : (W.handle i).shut
        · rw [hs] at hk; simp at hk; exact absurd hk.symm h0
        · rw [hs] at hk; simp at hk; exact ⟨hk.symm, rfl⟩
      obtain ⟨rfl, hs⟩ := e
      obtain ⟨hl, hc⟩ := St.own_cases (hO.pull 3)
      obtain ⟨b, cap, rest, e0, k1, k2, k3, s⟩ := hc.resolve_left (fun q => by have := q.2.1; omega)
      injection e0 with e1 _ e3
      subst e1 e3
      obtain ⟨c0, c1, c2⟩ := handle_cells s hx
      rw [hs] at c2
      have hlt : (i : Int) < (W.handles.length : Int) := by omega
      clear h hO hk h0 s hl hc hx hs h1 h2
      go_enter Try.func42, Try.ntmps42
      go_wp2
      go_ret2
      exact ⟨rfl, rfl⟩

set_option maxRecDepth 100000 in
/-- A handle that can be used. -/
theorem find_good {b cap : Nat} {rest : List Value} {vf vb vt : Value} {hs : List AHandle} (h : St W0 w (cellsB b (hs.flatMap hCells ++ rest).toArray 86 :: cellsB p #[vf, vb, .slice (some ⟨b, 0, none⟩) hs.length cap, vt] 78 :: L)) {i : Nat} {x : AHandle} (hx : hs[i]? = some x) (hsh : x.shut = false) (hn : hs.length ≤ 100000) :
    Calls Try.prog 42 #[.pointer (some ⟨p, 0, none⟩), .int .i64 i] w fun e w' => e = .returned (.tuple #[.pointer (some ⟨b, i * 3, none⟩), .int .i64 0]) ∧ w' = w := by
  have d0 := (h.pull 1).cell
  obtain ⟨c0, c1, c2⟩ := handle_cells h hx
  rw [hsh] at c2
  have hi : i < hs.length := (List.getElem?_eq_some_iff.1 hx).1
  have hlt : (i : Int) < (hs.length : Int) := by omega
  have hge : ¬ (hs.length : Int) ≤ (i : Int) := by omega
  have h0 : ¬ (i : Int) < 0 := by omega
  clear h hx hsh
  go_enter Try.func42, Try.ntmps42
  go_wp2
  go_ret2
  exact ⟨rfl, rfl⟩
end
end Go.Proofs.Ytlpgekodoiioaaa

/- Drop. -/
namespace Go.Proofs.Ytlpgekodoiioaaa
open Go.RowKit

theorem flat_setj {α : Type} {f : α → List Value} {k : Nat} (hf : ∀ x, (f x).length = k) {y : α} {v : Value} (r : List Value) : ∀ {l : List α} {i j : Nat} {x : α}, l[i]? = some x → j < k → f y = (f x).set j v → (l.flatMap f ++ r).set (i * k + j) v = (l.set i y).flatMap f ++ r
  | [], i, j, x, h, _, _ => by simp at h
  | a :: l, 0, j, x, h, hj, e => by
    simp at h; subst h
    simp only [List.flatMap_cons, Nat.zero_mul, Nat.zero_add, List.set_cons_zero, List.append_assoc]
    rw [List.set_append_left _ _ (by rw [hf]; exact hj), e]
  | a :: l, i + 1, j, x, h, hj, e => by
    have ih := flat_setj hf r (l := l) (i := i) (x := x) (by simpa using h) hj e
    simp only [List.flatMap_cons, List.set_cons_succ, List.append_assoc]
    rw [List.set_append_right _ _ (by rw [hf, Nat.add_mul]; omega), hf]
    rw [show (i + 1) * k + j - k = i * k + j by rw [Nat.add_mul]; omega, ih]

section
variable {W0 w : World} {L : List HProp} {p : Nat} {W : AW}

/-- The handles' array, beside the rest. -/
def handlesL (p b cap : Nat) (vf vb vt : Value) (W : AW) (hs : List AHandle) (rest : List Value) : List HProp :=
  [cellsB b (hs.flatMap hCells ++ rest).toArray 86, cellsB p #[vf, vb, .slice (some ⟨b, 0, none⟩) hs.length cap, vt] 78, ownS 62 2 vf W.files.length (W.files.flatMap fCells), tailS 4 vb (boolsV W.fails), ownS 68 5 vt W.trace.length (W.trace.flatMap oCells)]

theorem St.world_handles (h : St W0 w (worldAt p W :: L)) (hpos : 0 < W.handles.length) : ∃ b cap vf vb vt rest, W.handles.length ≤ cap ∧ cap ≤ maxLen ∧ cap * 3 ≤ W.handles.length * 3 + rest.length ∧ St W0 w (handlesL p b cap vf vb vt W W.handles rest ++ L) := by
  obtain ⟨vf, vb, vh, vt, hO⟩ := h.world_open
  unfold worldL at hO
  simp only [List.cons_append, List.nil_append] at hO
  obtain ⟨hl, hc⟩ := St.own_cases (hO.pull 3)
  obtain ⟨b, cap, rest, rfl, k1, k2, k3, s⟩ := hc.resolve_left (fun q => by have := q.2.1; omega)
  rw [hl] at k3
  exact ⟨b, cap, vf, vb, vt, rest, k1, k2, k3, s⟩

theorem St.world_hback {b cap : Nat} {vf vb vt : Value} {rest : List Value} {hs : List AHandle} (c1 : hs.length ≤ cap) (c2 : cap ≤ maxLen) (c3 : cap * 3 ≤ hs.length * 3 + rest.length)
    (h : St W0 w (handlesL p b cap vf vb vt W hs rest ++ L)) : St W0 w (worldAt p { W with handles := hs } :: L) := by
  unfold handlesL at h
  simp only [List.cons_append, List.nil_append] at h
  have h1 := h.own_mk (n := hs.length) (cap := cap) (sz := 3) (flat_len' hCells_len hs) c1 c2 (by rw [flat_len' hCells_len]; exact c3)
  refine St.world_close (vf := vf) (vb := vb) (vh := .slice (some ⟨b, 0, none⟩) hs.length cap) (vt := vt) ?_
  unfold worldL
  exact h1.push 3

set_option maxRecDepth 100000 in
theorem drop_c (h : St W0 w (worldAt p W :: L)) (x : Int) (hn : W.handles.length ≤ 100000) :
    Calls Try.prog 22 #[.pointer (some ⟨p, 0, none⟩), .int .i64 x] w fun e w' => e = .returned (.int .i64 (W.drop x).1) ∧ St W0 w' (worldAt p (W.drop x).2 :: L) := by
  by_cases hw : W.wrong x = 0
  · obtain ⟨i, rfl, hi, hx, hs⟩ := wrong_zero hw
    have hd : W.drop i = (0, W.setHandle i { W.handle i with shut := true }) := by unfold AW.drop; rw [if_neg (by simpa using hw)]; simp
    rw [hd]
    obtain ⟨b, cap, vf, vb, vt, rest, k1, k2, k3, S⟩ := h.world_handles (by omega)
    unfold handlesL at S
    simp only [List.cons_append, List.nil_append] at S
    have FG := Lib.hid (find_good S hx hs hn)
    have c2 := (handle_cells S hx).2.2
    have fb := S.free
    have HS := Lib.hid S
    have HX := Lib.hid hx
    have HC := Lib.hid (And.intro k1 (And.intro k2 k3))
    clear h hw hd S hx hs k1 k2 k3
    go_enter Try.func22, Try.ntmps22
    go_wp2_with (go_at_call 42; refine FG.out.mono ?_; rintro e w' ⟨rfl, rfl⟩)
    go_ret
    refine ⟨rfl, ?_⟩
    have S := HS.out.set (i * 3 + 2) (.bool true)
    simp only [List.setIfInBounds_toArray] at S
    rw [flat_setj hCells_len (y := { W.handle i with shut := true }) rest HX.out (by omega) rfl] at S
    exact St.world_hback (hs := W.handles.set i { W.handle i with shut := true }) (by simpa using HC.out.1) HC.out.2.1 (by simpa using HC.out.2.2) (by unfold handlesL; rw [List.length_set]; exact S)
  · obtain ⟨k, hk⟩ : ∃ k, W.wrong x = k := ⟨_, rfl⟩
    have k0 : k ≠ 0 := fun q => hw (hk.trans q)
    have hd : W.drop x = (k, W) := by unfold AW.drop; rw [if_pos hw, hk]
    rw [hd]
    have FB := Lib.hid (find_bad h hk k0 hn)
    have kb : (k == 0) = false := by simpa using k0
    have HS := Lib.hid h
    clear h hw hd hk k0
    go_enter Try.func22, Try.ntmps22
    go_wp2_with (go_at_call 42; refine FB.out.mono ?_; rintro e w' ⟨rfl, rfl⟩)
    go_ret
    exact ⟨rfl, HS.out⟩
end
end Go.Proofs.Ytlpgekodoiioaaa

/- Close. -/
namespace Go.Proofs.Ytlpgekodoiioaaa
open Go.RowKit

section
variable {W0 w : World} {L : List HProp} {p : Nat} {W : AW}

def CloseP (W0 : World) (L : List HProp) (p : Nat) (r : (Bool × Int) × AW) (e : Ending) (w' : World) : Prop :=
  e = .returned (.tuple #[.bool r.1.1, .int .i64 r.1.2]) ∧ St W0 w' (worldAt p r.2 :: L)

set_option maxRecDepth 100000 in
theorem close_c (h : St W0 w (worldAt p W :: L)) (x : Int) (hn : W.handles.length ≤ 100000) (ht : W.trace.length ≤ 100000) :
    Calls Try.prog 17 #[.pointer (some ⟨p, 0, none⟩), .int .i64 x] w fun e w' => CloseP W0 L p (W.close x) e w' := by
  unfold CloseP
  by_cases hw : W.wrong x = 0
  · obtain ⟨i, rfl, hi, hx, hs⟩ := wrong_zero hw
    have hd : W.close i = ((W.goes.1, 0), (W.goes.2.setHandle i { W.handle i with shut := true }).note ⟨4, i, emptyB, emptyB, W.goes.1⟩) := by unfold AW.close; rw [if_neg (by simpa using hw)]; simp
    rw [hd, goes_eq]
    obtain ⟨b, cap, vf, vb, vt, rest, k1, k2, k3, S⟩ := h.world_handles (by omega)
    unfold handlesL at S
    simp only [List.cons_append, List.nil_append] at S
    have FG := Lib.hid (find_good S hx hs hn)
    have HX := Lib.hid hx
    have HC := Lib.hid (And.intro k1 (And.intro k2 k3))
    -- [b, p, files, tail, trace, L]
    have S := S.allocC #[Value.int .u8 4, .int .i64 i, .string ⟨#[]⟩, .string ⟨#[]⟩, .bool false] 68
    have HS := Lib.hid S
    clear h hw hd hx hs k1 k2 k3 S
    go_enter_defers Try.func17, Try.ntmps17
    go_upto_region 6 with (go_at_call 42; refine FG.out.mono ?_; rintro e w' ⟨rfl, rfl⟩)
    generalize w'.heap.size = B at HS ⊢
    refine abs_wp HS.out ?_
    clear HS
    intro w2 S
    -- [B, b, p, files, tail, trace, L]
    have HG := Lib.hid (goes_o (((S.pull 4).pull 3)))
    -- [p, tail, B, b, files, trace, L]
    have HS := Lib.hid S
    clear S FG
    go_wp2_with (go_at_call 39; refine HG.out.mono ?_; rintro e w3 ⟨rfl, vb2, S⟩; have dB := (S.pull 2).cell; have fB := (S.pull 2).free; have cb := (handle_cells (S.pull 3) HX.out).2.2; have fb := (S.pull 3).free; have ne := ((S.pull 3).pull 3).ne; have HS3 := Lib.hid S; clear S)
    have S := ((((HS3.out.pull 2).set 4 (.bool (goesB W.fails).1)).pull 3).set (i * 3 + 2) (.bool true))
    simp only [List.setIfInBounds_toArray, List.set_cons_zero, List.set_cons_succ] at S
    rw [flat_setj hCells_len (y := { W.handle i with shut := true }) rest HX.out (by omega) rfl] at S
    -- [b', B, p, tail', files, trace, L]
    have T := (((((S.pull 1).pull 5).pull 4).pull 5).pull 5).pull 5
    -- [b', p, files, tail', trace, B, L]
    have T2 := St.world_hback (p := p) (W := { W with fails := (goesB W.fails).2 }) (hs := W.handles.set i { W.handle i with shut := true }) (vf := vf) (vb := vb2) (vt := vt) (rest := rest) (by simpa using HC.out.1) HC.out.2.1 (by simpa using HC.out.2.2) (by unfold handlesL; rw [List.length_set]; exact T)
    refine leaves_cons (f := 38) (args := #[.pointer (some ⟨p, 0, none⟩), .pointer (some ⟨B, 0, none⟩)]) (by simp) (by simp [go_sem]) ?_
    refine (note_d (o := ⟨4, i, emptyB, emptyB, (goesB W.fails).1⟩) (T2.pull 1) ht .returning).mono ?_
    rintro e u' w4 ⟨rfl, rfl, S⟩
    refine ⟨.tuple #[.bool (goesB W.fails).1, .int .i64 0], by simp [results, Try.results17, go_sem], rfl, S⟩
  · obtain ⟨k, hk⟩ : ∃ k, W.wrong x = k := ⟨_, rfl⟩
    have k0 : k ≠ 0 := fun q => hw (hk.trans q)
    have hd : W.close x = ((false, k), W) := by unfold AW.close; rw [if_pos hw, hk]
    rw [hd]
    have FB := Lib.hid (find_bad h hk k0 hn)
    have kb : (k != 0) = true := by simpa using k0
    have HS := Lib.hid h
    clear h hw hd hk k0
    go_enter_defers Try.func17, Try.ntmps17
    go_wp2_with (go_at_call 42; refine FB.out.mono ?_; rintro e w' ⟨rfl, rfl⟩)
    exact ⟨.tuple #[.bool false, .int .i64 k], by simp [results, Try.results17, go_sem], rfl, HS.out⟩
end
end Go.Proofs.Ytlpgekodoiioaaa

/- Write. -/
namespace Go.Proofs.Ytlpgekodoiioaaa
open Go.RowKit

theorem file_get {W : AW} {i : Nat} (h : i < W.files.length) : W.files[i]? = some (W.file i) := by simp [AW.file, List.getD, List.getElem?_eq_getElem h]
theorem file_mem {W : AW} {i : Nat} (h : i < W.files.length) : W.file i ∈ W.files := List.mem_of_getElem? (file_get h)
theorem handle_mem {W : AW} {i : Nat} (h : W.handles[i]? = some (W.handle i)) : W.handle i ∈ W.handles := List.mem_of_getElem? h

section
variable {W0 w : World} {L : List HProp} {p n : Nat} {W : AW}

theorem St.world_back2 {bf fcap b cap : Nat} {frest rest : List Value} {vb vt : Value} {files : List AFile} {fails : List Bool} (m : files.length ≤ fcap ∧ fcap ≤ maxLen ∧ fcap * 2 ≤ files.length * 2 + frest.length) (c : W.handles.length ≤ cap ∧ cap ≤ maxLen ∧ cap * 3 ≤ W.handles.length * 3 + rest.length)
    (h : St W0 w (cellsB bf (files.flatMap fCells ++ frest).toArray 62 :: cellsB b (W.handles.flatMap hCells ++ rest).toArray 86 :: cellsB p #[.slice (some ⟨bf, 0, none⟩) files.length fcap, vb, .slice (some ⟨b, 0, none⟩) W.handles.length cap, vt] 78 :: tailS 4 vb (boolsV fails) :: ownS 68 5 vt W.trace.length (W.trace.flatMap oCells) :: L)) :
    St W0 w (worldAt p { W with fails := fails, files := files } :: L) := by
  have h1 := h.own_mk (n := files.length) (cap := fcap) (sz := 2) (flat_len' fCells_len files) m.1 m.2.1 (by rw [flat_len' fCells_len]; exact m.2.2)
  exact St.world_hback (p := p) (W := { W with fails := fails, files := files }) (hs := W.handles) (b := b) (cap := cap) (rest := rest) (vf := .slice (some ⟨bf, 0, none⟩) files.length fcap) (vb := vb) (vt := vt) c.1 c.2.1 c.2.2 (h1.push 2)

set_option maxRecDepth 100000 in
set_option maxHeartbeats 1000000 in
theorem write_c (h : St W0 w (worldAt p W :: L)) (ok : W.Ok n) (hn : n ≤ 100000) (x : Int) (s : ByteArray) (hs0 : s.size ≤ maxLen) :
    Calls Try.prog 16 #[.pointer (some ⟨p, 0, none⟩), .int .i64 x, .string s] w fun e w' => CloseP W0 L p (W.write x s) e w' := by
  unfold CloseP
  have hhn : W.handles.length ≤ 100000 := Nat.le_trans ok.handles hn
  have htn : W.trace.length ≤ 100000 := Nat.le_trans ok.trace hn
  unfold maxLen at hs0
  by_cases hw : W.wrong x = 0
  · obtain ⟨i, rfl, hi, hx, hs⟩ := wrong_zero hw
    obtain ⟨hfi, hpos⟩ := ok.files _ (handle_mem hx)
    have htx := ok.texts _ (file_mem hfi)
    obtain ⟨g, fs, hgf⟩ : ∃ g fs, goesB W.fails = (g, fs) := ⟨_, _, rfl⟩
    obtain ⟨r, hr⟩ : ∃ r : Bool, r = (g && decide (s.size + (W.file (W.handle i).file).text.size ≤ 4000)) := ⟨_, rfl⟩
    have hd : W.write i s = ((r, 0), (if r = true then { W with fails := fs, files := W.files.set (W.handle i).file { W.file (W.handle i).file with text := (W.file (W.handle i).file).text ++ s } } else { W with fails := fs }).note ⟨3, i, emptyB, s, r⟩) := by
      rw [hr]; unfold AW.write; rw [if_neg (by simpa using hw), goes_eq, hgf]; simp
    rw [hd]
    have HR := Lib.hid hr
    clear hr
    obtain ⟨b, cap, vf, vb, vt, rest, k1, k2, k3, S⟩ := h.world_handles (by omega)
    unfold handlesL at S
    simp only [List.cons_append, List.nil_append] at S
    have FG := Lib.hid (find_good S hx hs hhn)
    have HX := Lib.hid hx
    have HC := Lib.hid (And.intro k1 (And.intro k2 k3))
    obtain ⟨hl, hc⟩ := St.own_cases (S.pull 2)
    obtain ⟨bf, fcap, frest, rfl, m1, m2, m3, S⟩ := hc.resolve_left (fun q => by have := q.2.1; omega)
    rw [hl] at m3
    have HM := Lib.hid (And.intro m1 (And.intro m2 m3))
    have HFI := Lib.hid (file_get hfi)
    generalize hF : W.file (W.handle i).file = F at *
    have HFF := Lib.hid hF
    clear hF
    -- [bf, b, p, tail, trace, L]
    have S := S.allocC #[Value.int .u8 3, .int .i64 i, .string ⟨#[]⟩, .string s, .bool false] 68
    have HS := Lib.hid S
    have hflt : ((W.handle i).file : Int) < (W.files.length : Int) := by omega
    clear h hw hd hx hs k1 k2 k3 S hl hc m1 m2 m3 ok
    go_enter_defers Try.func16, Try.ntmps16
    go_upto_region 6 with (go_at_call 42; refine FG.out.mono ?_; rintro e w' ⟨rfl, rfl⟩)
    generalize w'.heap.size = B at HS ⊢
    -- [B, bf, b, p, tail, trace, L]
    have d0 := (HS.out.pull 3).cell
    have c0 := (handle_cells (HS.out.pull 2) HX.out).1
    go_quiet (fail)
    have S := HS.out.drewN nq
    generalize World.drewN _ nq = w2 at S ⊢
    clear HS d0 c0 FG
    have HG := Lib.hid (goes_o ((S.pull 4).pull 4))
    unfold GoesPost at HG
    rw [hgf] at HG
    have HS := Lib.hid S
    clear S HS
    -- behind goes: [p, tail, B, bf, b, trace, L]
    have hwr : IntKind.i64.wrap (4000 - (F.text.size : Int)) = 4000 - F.text.size := IntWalk.i64_in _ (by omega)
    clear hgf
    cases g with
    | true =>
      by_cases hfit : s.size + F.text.size ≤ 4000
      · have hr : r = true := by rw [HR.out]; simpa using hfit
        subst hr
        clear HR
        have hle : (s.size : Int) ≤ 4000 - (F.text.size : Int) := by omega
        go_upto_region 9 with (go_at_call 39; refine HG.out.mono ?_; rintro e w3 ⟨rfl, vb2, S⟩; have dB := (S.pull 2).cell; have fB := (S.pull 2).free; have ct := (file_cells (S.pull 3) HFI.out).2; have HS3 := Lib.hid S; clear S)
        have S := (HS3.out.pull 2).set 4 (.bool true)
        simp only [List.setIfInBounds_toArray, List.set_cons_zero, List.set_cons_succ] at S
        refine abs_wp S ?_
        clear S HS3 dB fB ct
        intro w4 S
        -- [B, p, tail, bf, b, trace, L]
        have dB := S.cell
        have ct := (file_cells (S.pull 3) HFI.out).2
        have ff := (S.pull 3).free
        have ne := ((S.pull 3).pull 1).ne
        have HS4 := Lib.hid S
        clear S
        go_wp2_with fail
        have S := (HS4.out.pull 3).set ((W.handle i).file * 2 + 1) (.string (F.text ++ s))
        simp only [List.setIfInBounds_toArray] at S
        rw [flat_setj fCells_len (y := { F with text := F.text ++ s }) frest HFI.out (by omega) rfl] at S
        -- [bf, B, p, tail, b, trace, L]
        have T2 := St.world_back2 (W := W) (files := W.files.set (W.handle i).file { F with text := F.text ++ s }) (fails := fs) (by simpa using HM.out) HC.out (by rw [List.length_set]; exact (((((S.pull 1).pull 5).pull 4).pull 4).pull 5).pull 5)
        refine leaves_cons (f := 38) (args := #[.pointer (some ⟨p, 0, none⟩), .pointer (some ⟨B, 0, none⟩)]) (by simp) (by simp [go_sem]) ?_
        refine (note_d (o := ⟨3, i, emptyB, s, true⟩) (T2.pull 1) htn .returning).mono ?_
        rintro e u' w4 ⟨rfl, rfl, S⟩
        refine ⟨.tuple #[.bool true, .int .i64 0], by simp [results, Try.results16, go_sem], rfl, S⟩
      · have hr : r = false := by rw [HR.out]; simpa using hfit
        subst hr
        clear HR
        have hle : ¬ (s.size : Int) ≤ 4000 - (F.text.size : Int) := by omega
        go_wp2_with (go_at_call 39; refine HG.out.mono ?_; rintro e w3 ⟨rfl, vb2, S⟩; have dB := (S.pull 2).cell; have fB := (S.pull 2).free; have ct := (file_cells (S.pull 3) HFI.out).2; have HS3 := Lib.hid S; clear S)
        have hdd : decide ((s.size : Int) ≤ 4000 - (F.text.size : Int)) = false := by simpa using hle
        rw [hdd]
        have S := (HS3.out.pull 2).set 4 (.bool false)
        simp only [List.setIfInBounds_toArray, List.set_cons_zero, List.set_cons_succ] at S
        -- [B, p, tail, bf, b, trace, L]
        have T2 := St.world_back2 (W := W) (files := W.files) (fails := fs) HM.out HC.out (by exact (((((S.pull 5).pull 3).pull 3).pull 5).pull 5))
        refine leaves_cons (f := 38) (args := #[.pointer (some ⟨p, 0, none⟩), .pointer (some ⟨B, 0, none⟩)]) (by simp) (by simp [go_sem]) ?_
        refine (note_d (o := ⟨3, i, emptyB, s, false⟩) (T2.pull 1) htn .returning).mono ?_
        rintro e u' w4 ⟨rfl, rfl, S⟩
        refine ⟨.tuple #[.bool false, .int .i64 0], by simp [results, Try.results16, go_sem], rfl, S⟩
    | false =>
      have hr : r = false := by rw [HR.out]; rfl
      subst hr
      clear HR
      go_wp2_with (go_at_call 39; refine HG.out.mono ?_; rintro e w3 ⟨rfl, vb2, S⟩; have dB := (S.pull 2).cell; have fB := (S.pull 2).free; have ct := (file_cells (S.pull 3) HFI.out).2; have HS3 := Lib.hid S; clear S)
      have S := (HS3.out.pull 2).set 4 (.bool false)
      simp only [List.setIfInBounds_toArray, List.set_cons_zero, List.set_cons_succ] at S
      -- [B, p, tail, bf, b, trace, L]
      have T2 := St.world_back2 (W := W) (files := W.files) (fails := fs) HM.out HC.out (by exact (((((S.pull 5).pull 3).pull 3).pull 5).pull 5))
      refine leaves_cons (f := 38) (args := #[.pointer (some ⟨p, 0, none⟩), .pointer (some ⟨B, 0, none⟩)]) (by simp) (by simp [go_sem]) ?_
      refine (note_d (o := ⟨3, i, emptyB, s, false⟩) (T2.pull 1) htn .returning).mono ?_
      rintro e u' w4 ⟨rfl, rfl, S⟩
      refine ⟨.tuple #[.bool false, .int .i64 0], by simp [results, Try.results16, go_sem], rfl, S⟩
  · obtain ⟨k, hk⟩ : ∃ k, W.wrong x = k := ⟨_, rfl⟩
    have k0 : k ≠ 0 := fun q => hw (hk.trans q)
    have hd : W.write x s = ((false, k), W) := by unfold AW.write; rw [if_pos hw, hk]
    rw [hd]
    have FB := Lib.hid (find_bad h hk k0 hhn)
    have kb : (k != 0) = true := by simpa using k0
    have HS := Lib.hid h
    clear h hw hd hk k0 ok
    go_enter_defers Try.func16, Try.ntmps16
    go_wp2_with (go_at_call 42; refine FB.out.mono ?_; rintro e w' ⟨rfl, rfl⟩)
    exact ⟨.tuple #[.bool false, .int .i64 k], by simp [results, Try.results16, go_sem], rfl, HS.out⟩
end
end Go.Proofs.Ytlpgekodoiioaaa

/- strings.Cut at a line's end. -/
namespace Go.Proofs.Ytlpgekodoiioaaa
open Go.RowKit

theorem lineOf_index : ∀ (l : List UInt8), (Lib.indexByte l 10 = -1 ∧ lineOf l = (l, false)) ∨ ∃ i : Nat, Lib.indexByte l 10 = i ∧ i < l.length ∧ lineOf l = (l.take i, true)
  | [] => .inl ⟨rfl, rfl⟩
  | b :: l => by
    unfold Lib.indexByte lineOf
    by_cases hb : b = 10
    · subst hb
      exact .inr ⟨0, by simp, by simp, by simp⟩
    · have hb' : (b == 10) = false := by simpa using hb
      rw [hb', if_neg hb]
      rcases lineOf_index l with ⟨h1, h2⟩ | ⟨i, h1, h2, h3⟩
      · rw [h1, h2]; exact .inl ⟨rfl, rfl⟩
      · rw [h1, h3]
        refine .inr ⟨i + 1, ?_, by simp only [List.length_cons]; omega, by simp⟩
        have : ((i : Int) == -1) = false := by rw [beq_eq_false_iff_ne]; omega
        rw [this]
        simp

def nl : ByteArray := ⟨#[10]⟩

section
variable {w : World}

set_option maxRecDepth 100000 in
theorem ib_c (s : ByteArray) (c : Int) : Calls Try.prog 56 #[.string s, .int .u8 c] w fun e w' => e = .returned (.int .i64 (Lib.indexByte s.data.toList c.toNat.toUInt8)) ∧ w' = w := by
  go_enter Try.func56, Try.ntmps56
  go_wp2
  rw [run_callFunc_extern Try.func60 (by kernel_rfl) (by kernel_rfl) (by kernel_rfl) (e := Extern.BytealgIndexByte.indexByte) (by kernel_rfl), Lib.run_indexByteString]
  simp only [Result.andThen]
  rw [Oper.upon_value]
  go_wp2
  go_ret
  exact ⟨rfl, rfl⟩

set_option maxRecDepth 100000 in
theorem ix_c (s : ByteArray) (hs : s.size ≤ 4000) : Calls Try.prog 55 #[.string s, .string nl] w fun e w' => e = .returned (.int .i64 (Lib.indexByte s.data.toList 10)) ∧ w' = w := by
  have IB := Lib.hid (ib_c (w := w) s 10)
  by_cases he : s = nl
  · subst he
    clear IB
    unfold nl
    go_enter Try.func55, Try.ntmps55
    go_wp2
    go_ret
    exact ⟨rfl, rfl⟩
  · have hb : ([10] == s.toList) = false := by
      simp only [beq_eq_false_iff_ne]
      intro q
      rw [Lib.toList_data] at q
      exact he (by rw [← Lib.mk_data s, ← q]; rfl)
    unfold nl
    go_enter Try.func55, Try.ntmps55
    go_wp2_with (go_at_call 56; refine IB.out.mono ?_; rintro e w' ⟨rfl, rfl⟩)
    go_ret
    exact ⟨rfl, rfl⟩

def CutP (s : ByteArray) (w : World) (e : Ending) (w' : World) : Prop :=
  (∃ a, e = .returned (.tuple #[.string (bytesOf (lineOf s.data.toList).1), .string a, .bool (lineOf s.data.toList).2])) ∧ ∃ n, w' = w.drewN n

set_option maxRecDepth 100000 in
theorem cut54_c (s : ByteArray) (hs : s.size ≤ 4000) : Calls Try.prog 54 #[.string s, .string nl] w fun e w' => CutP s w e w' := by
  unfold CutP
  have IX := Lib.hid (ix_c (w := w) s hs)
  rcases lineOf_index s.data.toList with ⟨h1, h2⟩ | ⟨i, h1, h2, h3⟩
  · rw [h1] at IX
    rw [h2]
    clear h1 h2
    unfold nl at IX ⊢
    have e : bytesOf s.data.toList = s := by unfold bytesOf; rw [Array.toArray_toList]
    rw [e]
    clear e
    go_enter Try.func54, Try.ntmps54
    go_wp2_with (go_at_call 55; refine IX.out.mono ?_; rintro e w' ⟨rfl, rfl⟩)
    go_ret3
    exact ⟨⟨_, rfl⟩, 0, rfl⟩
  · rw [h1] at IX
    rw [h3]
    have hsz : s.data.toList.length = s.size := by rw [← Lib.size_eq]
    rw [hsz] at h2
    have e : bytesOf (s.data.toList.take i) = s.extract 0 i := by rw [Lib.extract_eq]; simp [bytesOf]
    simp only []
    rw [e]
    have c1 : (0 : Int) ≤ (i : Int) := by omega
    have c2 : (i : Int) ≤ (s.size : Int) := by omega
    have c3 : (0 : Int) ≤ (i : Int) + 1 := by omega
    have c4 : (i : Int) + 1 ≤ (s.size : Int) := by omega
    clear e h1 h3 hsz
    unfold nl at IX ⊢
    go_enter Try.func54, Try.ntmps54
    go_wp2_with (go_at_call 55; refine IX.out.mono ?_; rintro e w' ⟨rfl, rfl⟩)
    go_quiet (go_wp2)
    go_wp2
    go_ret3
    exact ⟨⟨_, rfl⟩, nq, rfl⟩

set_option maxRecDepth 100000 in
theorem cut_c (s : ByteArray) (hs : s.size ≤ 4000) : Calls Try.prog 48 #[.string s, .string nl] w fun e w' => CutP s w e w' := by
  have IX := Lib.hid (cut54_c (w := w) s hs)
  unfold CutP at IX ⊢
  unfold nl at IX ⊢
  go_enter Try.func48, Try.ntmps48
  go_wp2_with (go_at_call 54; refine IX.out.mono ?_; rintro e w' ⟨⟨a, rfl⟩, n, rfl⟩)
  go_ret3
  exact ⟨⟨_, rfl⟩, n, rfl⟩
end
end Go.Proofs.Ytlpgekodoiioaaa

/- Read. -/
namespace Go.Proofs.Ytlpgekodoiioaaa
open Go.RowKit

theorem read_stop {W : AW} {i : Nat} {fs : List Bool} (hw : W.wrong i = 0) (hg : goesB W.fails = (false, fs)) :
    W.read i = ((3, emptyB, 0), ({ W with fails := fs } : AW).note ⟨2, i, emptyB, emptyB, false⟩) := by
  unfold AW.read
  rw [if_neg (by simpa using hw), goes_eq, hg, if_pos rfl]

theorem read_end {W : AW} {i : Nat} {fs : List Bool} {l : List UInt8} (hw : W.wrong i = 0) (hg : goesB W.fails = (true, fs)) (hl : List.drop (W.handle i).pos (W.file (W.handle i).file).text.toList = l) (h0 : l = []) :
    W.read i = ((2, emptyB, 0), ({ W with fails := fs } : AW).note ⟨2, i, emptyB, emptyB, true⟩) := by
  unfold AW.read
  rw [if_neg (by simpa using hw), goes_eq, hg, if_neg (by simp)]
  exact if_pos (hl.trans h0)

theorem read_line {W : AW} {i : Nat} {fs : List Bool} {l ln : List UInt8} {en : Bool} (hw : W.wrong i = 0) (hg : goesB W.fails = (true, fs)) (hl : List.drop (W.handle i).pos (W.file (W.handle i).file).text.toList = l) (h0 : l ≠ []) (he : lineOf l = (ln, en)) :
    W.read i = ((1, bytesOf ln, 0), ({ W with fails := fs, handles := W.handles.set i { W.handle i with pos := (W.handle i).pos + ln.length + (if en then 1 else 0) } } : AW).note ⟨2, i, emptyB, bytesOf ln, true⟩) := by
  subst hl
  unfold AW.read
  rw [if_neg (by simpa using hw), goes_eq, hg, if_neg (by simp)]
  refine (if_neg h0).trans ?_
  simp only [Int.toNat_natCast, he]
  rfl

section
variable {W0 w : World} {L : List HProp} {p n : Nat} {W : AW}

theorem St.world_back3 {bf fcap b cap : Nat} {frest rest : List Value} {vb vt : Value} {files : List AFile} {fails : List Bool} {hs : List AHandle} (hl : hs.length = W.handles.length) (m : files.length ≤ fcap ∧ fcap ≤ maxLen ∧ fcap * 2 ≤ files.length * 2 + frest.length) (c : W.handles.length ≤ cap ∧ cap ≤ maxLen ∧ cap * 3 ≤ W.handles.length * 3 + rest.length)
    (h : St W0 w (cellsB bf (files.flatMap fCells ++ frest).toArray 62 :: cellsB b (hs.flatMap hCells ++ rest).toArray 86 :: cellsB p #[.slice (some ⟨bf, 0, none⟩) files.length fcap, vb, .slice (some ⟨b, 0, none⟩) W.handles.length cap, vt] 78 :: tailS 4 vb (boolsV fails) :: ownS 68 5 vt W.trace.length (W.trace.flatMap oCells) :: L)) :
    St W0 w (worldAt p { W with fails := fails, files := files, handles := hs } :: L) := by
  rw [← hl] at h c
  exact St.world_back2 (W := { W with handles := hs }) m c h

def ReadP (W0 : World) (L : List HProp) (p : Nat) (r : (Int × ByteArray × Int) × AW) (e : Ending) (w' : World) : Prop :=
  e = .returned (.tuple #[.int .u8 r.1.1, .string r.1.2.1, .int .i64 r.1.2.2]) ∧ St W0 w' (worldAt p r.2 :: L)

set_option maxRecDepth 100000 in
set_option maxHeartbeats 1000000 in
theorem read_c (h : St W0 w (worldAt p W :: L)) (ok : W.Ok n) (hn : n ≤ 100000) (x : Int) :
    Calls Try.prog 23 #[.pointer (some ⟨p, 0, none⟩), .int .i64 x] w fun e w' => ReadP W0 L p (W.read x) e w' := by
  unfold ReadP
  have hhn : W.handles.length ≤ 100000 := Nat.le_trans ok.handles hn
  have htn : W.trace.length ≤ 100000 := Nat.le_trans ok.trace hn
  by_cases hw : W.wrong x = 0
  · obtain ⟨i, rfl, hi, hx, hs⟩ := wrong_zero hw
    obtain ⟨hfi, hpos⟩ := ok.files _ (handle_mem hx)
    have htx := ok.texts _ (file_mem hfi)
    obtain ⟨g, fs, hgf⟩ : ∃ g fs, goesB W.fails = (g, fs) := ⟨_, _, rfl⟩
    have hd : ¬ (W.wrong i ≠ 0) := by simpa using hw
    obtain ⟨r, hr⟩ : ∃ r, r = W.read i := ⟨_, rfl⟩
    rw [← hr]
    have HR := Lib.hid (And.intro hr (And.intro hw hgf))
    obtain ⟨b, cap, vf, vb, vt, rest, k1, k2, k3, S⟩ := h.world_handles (by omega)
    unfold handlesL at S
    simp only [List.cons_append, List.nil_append] at S
    have FG := Lib.hid (find_good S hx hs hhn)
    have HX := Lib.hid hx
    have HC := Lib.hid (And.intro k1 (And.intro k2 k3))
    obtain ⟨hl, hc⟩ := St.own_cases (S.pull 2)
    obtain ⟨bf, fcap, frest, rfl, m1, m2, m3, S⟩ := hc.resolve_left (fun q => by have := q.2.1; omega)
    rw [hl] at m3
    have HM := Lib.hid (And.intro m1 (And.intro m2 m3))
    obtain ⟨F, hF⟩ : ∃ F, W.file (W.handle i).file = F := ⟨_, rfl⟩
    have hfg := file_get hfi
    rw [hF] at htx hpos hfg
    have HFI := Lib.hid hfg
    clear hfg
    have HFF := Lib.hid hF
    clear hF
    -- [bf, b, p, tail, trace, L]
    have S := S.allocC #[Value.int .u8 2, .int .i64 i, .string ⟨#[]⟩, .string ⟨#[]⟩, .bool false] 68
    have HS := Lib.hid S
    have hflt : ((W.handle i).file : Int) < (W.files.length : Int) := by omega
    clear h hw hd hx hs k1 k2 k3 S hl hc m1 m2 m3 ok hr
    go_enter_defers Try.func23, Try.ntmps23
    go_upto_region 6 with (go_at_call 42; refine FG.out.mono ?_; rintro e w' ⟨rfl, rfl⟩)
    generalize w'.heap.size = B at HS ⊢
    refine abs_wp HS.out ?_
    clear HS FG
    intro w2 S
    -- [B, bf, b, p, tail, trace, L]
    have HG := Lib.hid (goes_o ((S.pull 4).pull 4))
    unfold GoesPost at HG
    rw [hgf] at HG
    clear S hgf
    -- behind goes: [p, tail, B, bf, b, trace, L]
    cases g with
    | false =>
      go_wp2_with (go_at_call 39; refine HG.out.mono ?_; rintro e w3 ⟨rfl, vb2, S⟩; have dB := (S.pull 2).cell; have fB := (S.pull 2).free; have HS3 := Lib.hid S; clear S)
      have hr := HR.out.1.trans (read_stop HR.out.2.1 HR.out.2.2)
      subst hr
      have S := (HS3.out.pull 2).set 4 (.bool false)
      simp only [List.setIfInBounds_toArray, List.set_cons_zero, List.set_cons_succ] at S
      have T2 := St.world_back2 (W := W) (files := W.files) (fails := fs) HM.out HC.out (by exact (((((S.pull 5).pull 3).pull 3).pull 5).pull 5))
      refine leaves_cons (f := 38) (args := #[.pointer (some ⟨p, 0, none⟩), .pointer (some ⟨B, 0, none⟩)]) (by simp) (by simp [go_sem]) ?_
      refine (note_d (o := ⟨2, i, emptyB, emptyB, false⟩) (T2.pull 1) htn .returning).mono ?_
      rintro e u' w4 ⟨rfl, rfl, S⟩
      refine ⟨.tuple #[.int .u8 3, .string emptyB, .int .i64 0], by simp [results, Try.results23, go_sem, emptyB], rfl, S⟩
    | true =>
      go_upto_region 9 with (go_at_call 39; refine HG.out.mono ?_; rintro e w3 ⟨rfl, vb2, S⟩; have dB := (S.pull 2).cell; have fB := (S.pull 2).free; have HS3 := Lib.hid S; clear S)
      have S := (HS3.out.pull 2).set 4 (.bool true)
      simp only [List.setIfInBounds_toArray, List.set_cons_zero, List.set_cons_succ] at S
      refine abs_wp S ?_
      clear S HS3 dB fB
      intro w4 S
      -- [B, p, tail, bf, b, trace, L]
      have d0 := (S.pull 1).cell
      have ct := (file_cells (S.pull 3) HFI.out).2
      have ch := handle_cells (S.pull 4) HX.out
      have ch0 := ch.1
      have ch1 := ch.2.1
      clear ch
      have HS4 := Lib.hid S
      clear S
      have hp0 : (0 : Int) ≤ ((W.handle i).pos : Int) := by omega
      have hp1 : ((W.handle i).pos : Int) ≤ (F.text.size : Int) := by omega
      go_quiet (fail)
      have S := HS4.out.drewN nq
      have hdrop : List.drop (W.handle i).pos F.text.toList = (F.text.extract (W.handle i).pos F.text.size).data.toList := by
        rw [Lib.toList_data, Lib.extract_eq]
        simp only []
        refine (List.take_of_length_le ?_).symm
        rw [List.length_drop, ← Lib.size_eq]
        exact Nat.le_refl _
      have hRs : (F.text.extract (W.handle i).pos F.text.size).size ≤ 4000 := by
        rw [ByteArray.size_extract]; omega
      generalize F.text.extract (W.handle i).pos F.text.size = R at hdrop hRs ⊢
      generalize World.drewN _ nq = w5 at S ⊢
      clear HS4 d0 ct ch0 ch1 HG
      have HD := Lib.hid hdrop
      clear hdrop
      by_cases hR0 : R.data.toList = []
      · have hb : (R.toList == []) = true := by rw [Lib.toList_data, hR0]; rfl
        have hr := HR.out.1.trans (read_end HR.out.2.1 HR.out.2.2 (by rw [HFF.out]; exact HD.out) hR0)
        subst hr
        clear HR HD
        have HS := Lib.hid S
        clear S
        go_wp2_with fail
        have T2 := St.world_back2 (W := W) (files := W.files) (fails := fs) HM.out HC.out (by exact (((((HS.out.pull 5).pull 3).pull 3).pull 5).pull 5))
        refine leaves_cons (f := 38) (args := #[.pointer (some ⟨p, 0, none⟩), .pointer (some ⟨B, 0, none⟩)]) (by simp) (by simp [go_sem]) ?_
        refine (note_d (o := ⟨2, i, emptyB, emptyB, true⟩) (T2.pull 1) htn .returning).mono ?_
        rintro e u' w4 ⟨rfl, rfl, S⟩
        refine ⟨.tuple #[.int .u8 2, .string emptyB, .int .i64 0], by simp [results, Try.results23, go_sem, emptyB], rfl, S⟩
      · have hb : (R.toList == []) = false := by rw [Lib.toList_data]; simpa using hR0
        obtain ⟨ln, en, hl⟩ : ∃ ln en, lineOf R.data.toList = (ln, en) := ⟨_, _, rfl⟩
        have hr := HR.out.1.trans (read_line HR.out.2.1 HR.out.2.2 (by rw [HFF.out]; exact HD.out) hR0 hl)
        subst hr
        have CT := Lib.hid (cut_c (w := w5) R hRs)
        unfold CutP at CT
        unfold nl at CT
        rw [hl] at CT
        have HS := Lib.hid S
        clear S HR HD
        have hln : (bytesOf ln).size ≤ 4000 ∧ (bytesOf ln).size = ln.length := by
          have hz : R.data.toList.length = R.size := by rw [← Lib.size_eq]
          have hb2 : (bytesOf ln).size = ln.length := by simp [bytesOf, ByteArray.size]
          rcases lineOf_index R.data.toList with ⟨_, h2⟩ | ⟨j, _, h2, h3⟩
          · rw [h2] at hl; injection hl with e1 _; subst e1; omega
          · rw [h3] at hl; injection hl with e1 _; subst e1; have h5 : (List.take j R.data.toList).length ≤ R.data.toList.length := List.length_take_le' .. ; rw [hz] at h5; exact ⟨by rw [hb2]; exact Nat.le_trans h5 hRs, hb2⟩
        obtain ⟨hln1, hln2⟩ := hln
        have hwr : IntKind.i64.wrap (((W.handle i).pos : Int) + ((bytesOf ln).size : Int)) = (W.handle i).pos + (bytesOf ln).size := IntWalk.i64_in _ (by omega)
        have hwr2 : IntKind.i64.wrap (((W.handle i).pos : Int) + ((bytesOf ln).size : Int) + 1) = (W.handle i).pos + (bytesOf ln).size + 1 := IntWalk.i64_in _ (by omega)
        generalize hbl : bytesOf ln = bl at *
        go_upto_region 13 with (go_at_call 48; refine CT.out.mono ?_; rintro e w6 ⟨⟨a, rfl⟩, n6, rfl⟩)
        refine abs_wp (HS.out.drewN _) ?_
        clear HS CT
        intro w7 S
        have c1 := (handle_cells (S.pull 4) HX.out).2.1
        have fb := (S.pull 4).free
        have HS := Lib.hid S
        clear S
        go_upto_region 14 with fail
        have S := (HS.out.pull 4).set (i * 3 + 1) (.int .i64 (((W.handle i).pos + ln.length : Nat) : Int))
        simp only [List.setIfInBounds_toArray] at S
        rw [flat_setj hCells_len (y := { W.handle i with pos := (W.handle i).pos + ln.length }) rest HX.out (by omega) rfl] at S
        rw [Int.natCast_add] at S
        refine abs_wp S ?_
        clear S HS c1 fb
        intro w8 S
        -- [b, B, p, tail, bf, trace, L]
        have hlt : i < W.handles.length := hi
        have HX2 := Lib.hid (show (W.handles.set i { W.handle i with pos := (W.handle i).pos + ln.length })[i]? = some { W.handle i with pos := (W.handle i).pos + ln.length } by rw [List.getElem?_set_self hlt])
        have c1 := (handle_cells S HX2.out).2.1
        have fb := S.free
        have dB := (S.pull 1).cell
        have fB := (S.pull 1).free
        have ne := (S.pull 1).ne
        have HS := Lib.hid S
        clear S
        cases en with
        | true =>
          go_wp2_with fail
          have S := HS.out.set (i * 3 + 1) (.int .i64 (((W.handle i).pos + ln.length + 1 : Nat) : Int))
          simp only [List.setIfInBounds_toArray] at S
          rw [flat_setj hCells_len (y := { W.handle i with pos := (W.handle i).pos + ln.length + 1 }) rest HX2.out (by omega) rfl, List.set_set] at S
          rw [Int.natCast_add, Int.natCast_add] at S
          have S := (S.pull 1).set 3 (.string bl)
          simp only [List.setIfInBounds_toArray, List.set_cons_zero, List.set_cons_succ] at S
          -- [B, b, p, tail, bf, trace, L]
          have T2 := St.world_back3 (W := W) (files := W.files) (fails := fs) (hs := W.handles.set i { W.handle i with pos := (W.handle i).pos + ln.length + 1 }) (by rw [List.length_set]) HM.out HC.out (by exact ((((S.pull 5).pull 4).pull 4).pull 4).pull 5)
          refine leaves_cons (f := 38) (args := #[.pointer (some ⟨p, 0, none⟩), .pointer (some ⟨B, 0, none⟩)]) (by simp) (by simp [go_sem]) ?_
          refine (note_d (o := ⟨2, i, emptyB, bl, true⟩) (T2.pull 1) htn .returning).mono ?_
          rintro e u' w4 ⟨rfl, rfl, S⟩
          refine ⟨.tuple #[.int .u8 1, .string bl, .int .i64 0], by simp [results, Try.results23, go_sem], rfl, S⟩
        | false =>
          go_wp2_with fail
          have S := (HS.out.pull 1).set 3 (.string bl)
          simp only [List.setIfInBounds_toArray, List.set_cons_zero, List.set_cons_succ] at S
          -- [B, b, p, tail, bf, trace, L]
          have T2 := St.world_back3 (W := W) (files := W.files) (fails := fs) (hs := W.handles.set i { W.handle i with pos := (W.handle i).pos + ln.length }) (by rw [List.length_set]) HM.out HC.out (by exact ((((S.pull 5).pull 4).pull 4).pull 4).pull 5)
          refine leaves_cons (f := 38) (args := #[.pointer (some ⟨p, 0, none⟩), .pointer (some ⟨B, 0, none⟩)]) (by simp) (by simp [go_sem]) ?_
          refine (note_d (o := ⟨2, i, emptyB, bl, true⟩) (T2.pull 1) htn .returning).mono ?_
          rintro e u' w4 ⟨rfl, rfl, S⟩
          refine ⟨.tuple #[.int .u8 1, .string bl, .int .i64 0], by simp [results, Try.results23, go_sem], rfl, S⟩
  · obtain ⟨k, hk⟩ : ∃ k, W.wrong x = k := ⟨_, rfl⟩
    have k0 : k ≠ 0 := fun q => hw (hk.trans q)
    have hd : W.read x = ((0, emptyB, k), W) := by unfold AW.read; rw [if_pos hw, hk]
    rw [hd]
    have FB := Lib.hid (find_bad h hk k0 hhn)
    have kb : (k != 0) = true := by simpa using k0
    have HS := Lib.hid h
    clear h hw hd hk k0 ok
    go_enter_defers Try.func23, Try.ntmps23
    go_wp2_with (go_at_call 42; refine FB.out.mono ?_; rintro e w' ⟨rfl, rfl⟩)
    exact ⟨.tuple #[.int .u8 0, .string emptyB, .int .i64 k], by simp [results, Try.results23, go_sem, emptyB], rfl, HS.out⟩
end
end Go.Proofs.Ytlpgekodoiioaaa
