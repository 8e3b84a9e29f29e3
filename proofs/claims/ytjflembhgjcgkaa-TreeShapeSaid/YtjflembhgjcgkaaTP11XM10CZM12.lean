/- M10, CZ, M12: in one. -/
import Derived.Test.YtjflembhgjcgkaaTP11XM8C21
import Derived.Test.YtjflembhgjcgkaaTP11XLdLzx2
import Derived.Test.YtjflembhgjcgkaaTP11Tab
import Derived.Test.YtjflembhgjcgkaaTP11XM1M11C1x2
import Derived.Test.YtjflembhgjcgkaaTP11XC32C47
set_option linter.unusedSimpArgs false
set_option linter.unusedVariables false
/- M10: chapter 16's trees, places, rows as plain data; what its functions say of them. No program in sight. -/
namespace Go.Proofs.Ytjflembhgjcgkaa
open Go.RowKit

/-- A tree, with the label (bk, bn, bi, bs) of the branch in which it stands. -/
inductive TreeT where
  | mk (bk bn bi : Int) (bs : ByteArray) (kind n : Int) (path : List Int) (cases els : List TreeT)
def TreeT.bk : TreeT → Int | .mk x _ _ _ _ _ _ _ _ => x
def TreeT.bn : TreeT → Int | .mk _ x _ _ _ _ _ _ _ => x
def TreeT.bi : TreeT → Int | .mk _ _ x _ _ _ _ _ _ => x
def TreeT.bs : TreeT → ByteArray | .mk _ _ _ x _ _ _ _ _ => x
def TreeT.kind : TreeT → Int | .mk _ _ _ _ x _ _ _ _ => x
def TreeT.n : TreeT → Int | .mk _ _ _ _ _ x _ _ _ => x
def TreeT.path : TreeT → List Int | .mk _ _ _ _ _ _ x _ _ => x
def TreeT.els : TreeT → List TreeT | .mk _ _ _ _ _ _ _ _ x => x
def TreeT.at (bk bn bi : Int) (bs : ByteArray) : TreeT → TreeT | .mk _ _ _ _ k n p c e => .mk bk bn bi bs k n p c e
def bare (k n : Int) (path : List Int) (c e : List TreeT) : TreeT := .mk 0 0 0 ⟨#[]⟩ k n path c e
def labD : TreeT → List DV | .mk bk bn bi bs _ _ _ _ _ => [.v (.int .u8 bk), .v (.int .i64 bn), .v (.int .i64 bi), .v (.string bs)]
mutual
def treeD : TreeT → List DV
  | .mk _ _ _ _ k n path c e => [.v (.int .u8 k), .v (.int .i64 n), intsD path, .lst 9 (brR c), .lst 5 (treeR e)]
def brR : List TreeT → List (List DV)
  | [] => []
  | t :: l => (labD t ++ treeD t) :: brR l
def treeR : List TreeT → List (List DV)
  | [] => []
  | t :: l => treeD t :: treeR l
end
def brD (t : TreeT) : List DV := labD t ++ treeD t
theorem treeD_len : ∀ t : TreeT, (treeD t).length = 5
  | .mk .. => rfl
theorem brR_map : ∀ l : List TreeT, brR l = l.map brD
  | [] => rfl
  | t :: l => by simp [brR, brR_map l, brD]
theorem treeR_map : ∀ l : List TreeT, treeR l = l.map treeD
  | [] => rfl
  | t :: l => by simp [treeR, treeR_map l]
theorem brR_len (l : List TreeT) : (brR l).length = l.length := by rw [brR_map]; simp
theorem treeR_len (l : List TreeT) : (treeR l).length = l.length := by rw [treeR_map]; simp
theorem brR_get {l : List TreeT} {j : Nat} {p : TreeT} (h : l[j]? = some p) : (brR l)[j]? = some (brD p) := by rw [brR_map]; simp [h]
theorem treeR_get {l : List TreeT} {j : Nat} {p : TreeT} (h : l[j]? = some p) : (treeR l)[j]? = some (treeD p) := by rw [treeR_map]; simp [h]
theorem brR_append (l m : List TreeT) : brR (l ++ m) = brR l ++ brR m := by simp [brR_map]
theorem treeR_append (l m : List TreeT) : treeR (l ++ m) = treeR l ++ treeR m := by simp [treeR_map]
theorem rec_tree {motive : TreeT → Prop} (step : ∀ bk bn bi bs k n path c e, (∀ t ∈ c, motive t) → (∀ t ∈ e, motive t) → motive (.mk bk bn bi bs k n path c e)) : ∀ t, motive t := by
  intro t
  refine TreeT.rec (motive_1 := motive) (motive_2 := fun l => ∀ p ∈ l, motive p) ?_ ?_ ?_ t
  · exact fun bk bn bi bs k n path c e ih ih' => step bk bn bi bs k n path c e ih ih'
  · intro p hp; cases hp
  · intro a l ha hl p hp
    rcases List.mem_cons.1 hp with rfl | h
    · exact ha
    · exact hl p h

/-! Are two trees one? -/
mutual
def oneB : TreeT → TreeT → Bool
  | .mk _ _ _ _ k n p c e, .mk _ _ _ _ k' n' p' c' e' => decide (k = k' ∧ n = n' ∧ p = p' ∧ c.length = c'.length ∧ e.length = e'.length) && oneC c c' && oneL e e'
def oneC : List TreeT → List TreeT → Bool
  | a :: l, b :: m => decide (a.bk = b.bk ∧ a.bn = b.bn ∧ a.bi = b.bi ∧ a.bs = b.bs) && oneB a b && oneC l m
  | _, _ => true
def oneL : List TreeT → List TreeT → Bool
  | a :: l, b :: m => oneB a b && oneL l m
  | _, _ => true
end

/-! What patterns ask, by place. -/
def testsB (p : Pat) : Bool := decide (3 ≤ p.kind ∧ p.kind ≤ 5)
structure AskT where
  path : List Int
  p : Pat
structure RowT where
  asks : List AskT
  n : Int
def askD (a : AskT) : List DV := intsD a.path :: patD a.p
def asksD (l : List AskT) : DV := .lst 9 (l.map askD)
def rowTD (r : RowT) : List DV := [asksD r.asks, .v (.int .i64 r.n)]
def rowsTD (l : List RowT) : DV := .lst 2 (l.map rowTD)
theorem askD_len (a : AskT) : (askD a).length = 9 := by simp [askD, patD_len]
def askedF (path : List Int) : Nat → List Pat → List AskT
  | _, [] => []
  | i, p :: l => if testsB p = true then ⟨path ++ [(i : Int)], p⟩ :: askedF path (i + 1) l else askedF path (i + 1) l
def isB (a b : Pat) : Bool := decide (a.kind = b.kind ∧ a.s = b.s ∧ a.i = b.i ∧ (a.kind = 5 → a.n = b.n))
def spotF (path : List Int) (l : List AskT) : Option Nat := l.findIdx? fun a => decide (a.path = path)
def narrowR (path : List Int) (some' : Option Pat) (r : RowT) : Option RowT :=
  match spotF path r.asks with
  | none => some r
  | some k => match some', r.asks[k]? with
    | some q, some a => if isB q a.p = true then some ⟨r.asks.take k ++ askedF path 0 a.p.l ++ r.asks.drop (k + 1), r.n⟩ else none
    | _, _ => none
def narrowF (rows : List RowT) (path : List Int) (some' : Option Pat) : List RowT := rows.filterMap (narrowR path some')
def casesA (path : List Int) (out : List Pat) (a : AskT) : List Pat :=
  if a.path = path ∧ (out.any fun p => isB p a.p) = false then out ++ [.mk a.p.kind 0 a.p.i a.p.s 0 0 0 []] else out
def casesF (g : Sg) (rows : List RowT) (path : List Int) (first : Pat) : List Pat :=
  if first.kind = 5 then (g.consOf (g.dataOf first.n)).map fun c => .mk 5 c 0 ⟨#[]⟩ 0 0 0 []
  else rows.foldl (fun out r => r.asks.foldl (casesA path) out) []
/-- The branches: each case's tree, of what is left. -/
def branchesF (f : Int → Option Pat → TreeT × Int) : List Pat → Int → List TreeT × Int
  | [], left => ([], left)
  | p :: l, left =>
    let r := f left (some p)
    let s := branchesF f l r.2
    (r.1.at p.kind p.n p.i p.s :: s.1, s.2)
def buildF (g : Sg) : Nat → Int → List RowT → TreeT × Int
  | 0, left, _ => (bare 0 0 [] [] [], left - 1)
  | f + 1, left, rows =>
    if left - 1 < 0 then (bare 0 0 [] [] [], left - 1)
    else match rows with
      | [] => (bare 1 0 [] [] [], left - 1)
      | r :: _ => match r.asks with
        | [] => (bare 2 r.n [] [] [], left - 1)
        | a :: _ =>
          let b := branchesF (fun left p => buildF g f left (narrowF rows a.path p)) (casesF g rows a.path a.p) (left - 1)
          if a.p.kind = 5 then (bare 3 0 a.path b.1 [], b.2)
          else
            let e := buildF g f b.2 (narrowF rows a.path none)
            (bare 3 0 a.path b.1 [e.1], e.2)
def rowsOf (i : Nat) : List Pat → List RowT
  | [] => []
  | p :: l => ⟨if testsB p = true then [⟨[], p⟩] else [], i⟩ :: rowsOf (i + 1) l
/-- Build: the tree and the error's number. -/
def buildT (g : Sg) (l : List Pat) (may : Int) : TreeT × Int :=
  if may ≠ 0 then (bare 0 0 [] [] [], may)
  else
    let b := buildF g 2002 2000 (rowsOf 0 l)
    if b.2 < 0 then (bare 0 0 [] [] [], 160) else (b.1, 0)

/-! Names and their places. -/
structure BindT where
  n : Int
  path : List Int
deriving DecidableEq
def bindD (b : BindT) : List DV := [.v (.int .i64 b.n), intsD b.path]
mutual
def bindsF : Pat → List Int → List BindT
  | .mk k n _ _ _ _ _ l, path => if k = 1 then [⟨n, path⟩] else if k = 5 then bindsL l path 0 else []
def bindsL : List Pat → List Int → Nat → List BindT
  | [], _, _ => []
  | p :: l, path, i => bindsF p (path ++ [(i : Int)]) ++ bindsL l path (i + 1)
end

/-! Walking a tree. -/
def atF : Val → List Int → Option Val
  | v, [] => some v
  | v, i :: path => if i < 0 then none else match v.l[i.toNat]? with
    | some w => atF w path
    | none => none
def hasB (t : TreeT) (v : Val) : Bool :=
  if t.bk = 3 then decide (v.kind = 1 ∧ v.n = t.bi)
  else if t.bk = 4 then decide (v.kind = 2 ∧ v.s = t.bs)
  else if t.bk = 5 then decide ((v.kind = 11 ∨ (v.kind = 4 ∧ v.l = [])) ∧ v.n = t.bn)
  else false
end Go.Proofs.Ytjflembhgjcgkaa

/- What comes in, opened, with its sizes: patterns, values, signatures, trees, lists of them. -/
set_option maxRecDepth 100000
namespace Go.Proofs.Ytjflembhgjcgkaa
open Go.RowKit

theorem patR_mapZ : ∀ l : List Pat, patR l = l.map patD
  | [] => rfl
  | p :: l => by simp [patR, patR_mapZ l]
theorem reach_le : reachBytes ≤ 140737488355328 := by decide

section
variable {w : World}
theorem cz2 : Try.prog.cellsOf 2 = 1 := by kernel_rfl
theorem cz3 : Try.prog.cellsOf 3 = 1 := by kernel_rfl
theorem cz5 : Try.prog.cellsOf 5 = 1 := by kernel_rfl
theorem cz9 : Try.prog.cellsOf 9 = 1 := by kernel_rfl
theorem cz22 : Try.prog.cellsOf 22 = 1 := by kernel_rfl
theorem cz23 : Try.prog.cellsOf 23 = 1 := by kernel_rfl
theorem cz25 : Try.prog.cellsOf 25 = 2 := by kernel_rfl
theorem cz26 : Try.prog.cellsOf 26 = 1 := by kernel_rfl
theorem cz29 : Try.prog.cellsOf 29 = 1 := by kernel_rfl
theorem cz39 : Try.prog.cellsOf 39 = 3 := by kernel_rfl
theorem cz41 : Try.prog.cellsOf 41 = 8 := by kernel_rfl
theorem cz88 : Try.prog.cellsOf 88 = 3 := by kernel_rfl
theorem cz89 : Try.prog.cellsOf 89 = 1 := by kernel_rfl
theorem cz90 : Try.prog.cellsOf 90 = 1 := by kernel_rfl
theorem cz92 : Try.prog.cellsOf 92 = 4 := by kernel_rfl
theorem bz3 : Try.prog.bytesOf 3 = 8 := by kernel_rfl
theorem bz41 : Try.prog.bytesOf 41 = 88 := by kernel_rfl
theorem bz88 : Try.prog.bytesOf 88 = 48 := by kernel_rfl
theorem bz92 : Try.prog.bytesOf 92 = 72 := by kernel_rfl

theorem drep_one {F : Frag} {sz : Nat} {rows : List (List DV)} {v : Value} (h : DRep F (.lst sz rows) v) : v.oneCell' = true := by
  obtain ⟨a, cap, e, _⟩ := h
  subst e
  rfl
theorem reads_posZ {n : Nat} {c0 c1 c2 : Value} (h : ReadsZ Try.prog w n 39 [c0, c1, c2]) : ∃ a b c : Int, c0 = .int .i64 a ∧ c1 = .int .i64 b ∧ c2 = .int .i64 c := by
  obtain ⟨m, _, hl, hf⟩ := h.struct Try.underlying39
  have h0 := hf 0 _ rfl
  have h1 := hf 1 _ rfl
  have h2 := hf 2 _ rfl
  simp only [cz3, List.getElem_toArray, List.getElem_cons_zero, List.getElem_cons_succ, List.drop_succ_cons, List.drop_zero, List.take_succ_cons, List.take_zero] at h0 h1 h2
  obtain ⟨s0, e0, _⟩ := h0.int Try.underlying3
  obtain ⟨s1, e1, _⟩ := h1.int Try.underlying3
  obtain ⟨s2, e2, _⟩ := h2.int Try.underlying3
  simp only [List.cons.injEq, and_true] at e0 e1 e2
  exact ⟨s0, s1, s2, e0, e1, e2⟩

theorem reads_patZ : ∀ (n : Nat) {cs : List Value}, ReadsZ Try.prog w n 41 cs → ∃ p : Pat, LRep (FH w) (patD p) cs ∧ One cs ∧ p.low := by
  intro n
  induction n using Nat.strongRecOn with
  | ind n ih =>
  intro cs h
  obtain ⟨m, hn, hl, hf⟩ := h.struct Try.underlying41
  rw [cz41] at hl
  match cs, hl with
  | [c0, c1, c2, c3, c4, c5, c6, c7], _ =>
    have h0 := hf 0 _ rfl
    have h1 := hf 1 _ rfl
    have h2 := hf 2 _ rfl
    have h3 := hf 3 _ rfl
    have h4 := hf 4 _ rfl
    have h5 := hf 5 _ rfl
    simp only [cz2, cz3, cz5, cz9, cz26, cz39, List.getElem_toArray, List.getElem_cons_zero, List.getElem_cons_succ, List.drop_succ_cons, List.drop_zero, List.take_succ_cons, List.take_zero] at h0 h1 h2 h3 h4 h5
    obtain ⟨s0, e0, _⟩ := h0.int Try.underlying5
    obtain ⟨s1, e1, _⟩ := h1.int Try.underlying3
    obtain ⟨s2, e2, _⟩ := h2.int Try.underlying2
    obtain ⟨s3, e3, z3⟩ := h3.string Try.underlying9
    obtain ⟨a, b, c, rfl, rfl, rfl⟩ := reads_posZ h4
    obtain ⟨v, l, e5, r5, _, z5, q5⟩ := h5.lstD (f := patD) (Q := fun p => p.low) Try.underlying26 cz41 bz41 (by decide) fun m' r hm' hr hrd => ih m' (by omega) hrd
    simp only [List.cons.injEq, and_true] at e0 e1 e2 e3 e5
    subst e0 e1 e2 e3 e5
    rw [← patR_mapZ] at r5
    have hre := reach_le
    refine ⟨.mk s0 s1 s2 s3 a b c l, ⟨_, _, rfl, ⟨rfl, rfl⟩, _, _, rfl, ⟨rfl, rfl⟩, _, _, rfl, ⟨rfl, rfl⟩, _, _, rfl, ⟨rfl, rfl⟩, _, _, rfl, ⟨rfl, rfl⟩, _, _, rfl, ⟨rfl, rfl⟩, _, _, rfl, ⟨rfl, rfl⟩, _, _, rfl, r5, rfl⟩, ?_, by omega, by omega, Pat.lowL_of q5⟩
    have ho := drep_one r5
    intro u hu
    simp at hu
    rcases hu with rfl | rfl | rfl | rfl | rfl | rfl | rfl | rfl <;> first | rfl | exact ho

theorem reads_patsZ {n : Nat} {cs : List Value} (h : ReadsZ Try.prog w n 26 cs) : ∃ (v : Value) (l : List Pat), cs = [v] ∧ DRep (FH w) (patsD l) v ∧ l.length ≤ 140737488355328 ∧ ∀ p ∈ l, p.low := by
  obtain ⟨v, l, e, r, _, z, q⟩ := h.lstD (f := patD) (Q := fun p => p.low) Try.underlying26 cz41 bz41 (by decide) fun m' r hm' hr hrd => reads_patZ m' hrd
  rw [← patR_mapZ] at r
  have hre := reach_le
  exact ⟨v, l, e, r, by omega, q⟩
theorem reads_intsZ {n : Nat} {cs : List Value} (h : ReadsZ Try.prog w n 29 cs) : ∃ (v : Value) (l : List Int), cs = [v] ∧ DRep (FH w) (intsD l) v ∧ l.length ≤ 140737488355328 ∧ ∀ z ∈ l, (Lit.int .i64 z).wf = true := by
  obtain ⟨v, l, e, r, z, q⟩ := h.ints Try.underlying29 Try.underlying3 cz3 bz3
  have hre := reach_le
  exact ⟨v, l, e, r, by omega, q⟩
end
end Go.Proofs.Ytjflembhgjcgkaa

/- M12: what stays of rows while a tree is built. No program in sight. -/
namespace Go.Proofs.Ytjflembhgjcgkaa
open Go.RowKit

def massA : List AskT → Nat
  | [] => 0
  | a :: l => massP a.p + massA l
theorem massA_append : ∀ l m : List AskT, massA (l ++ m) = massA l + massA m
  | [], m => by simp [massA]
  | a :: l, m => by simp [massA, massA_append l m]; omega
theorem massA_len : ∀ l : List AskT, l.length ≤ massA l
  | [] => by simp
  | a :: l => by have := massA_len l; have := massP_pos a.p; simp only [massA, List.length_cons]; omega
theorem massA_mem : ∀ {l : List AskT} {a : AskT}, a ∈ l → massP a.p ≤ massA l
  | [], _, h => by cases h
  | b :: l, a, h => by
    simp only [massA]
    rcases List.mem_cons.1 h with rfl | h
    · omega
    · have := massA_mem h; omega
theorem massA_asked (path : List Int) : ∀ (i : Nat) (l : List Pat), massA (askedF path i l) ≤ massL l
  | i, [] => by simp [askedF, massA]
  | i, p :: l => by
    have := massA_asked path (i + 1) l
    simp only [askedF, massL]
    split <;> (try simp only [massA]) <;> omega
theorem asked_mem {path : List Int} : ∀ {i : Nat} {l : List Pat} {a : AskT}, a ∈ askedF path i l → a.p ∈ l ∧ ∃ j : Nat, a.path = path ++ [(j : Int)]
  | i, [], _, h => by simp [askedF] at h
  | i, p :: l, a, h => by
    simp only [askedF] at h
    split at h
    · rcases List.mem_cons.1 h with rfl | h
      · exact ⟨by simp, i, rfl⟩
      · obtain ⟨h1, h2⟩ := asked_mem h; exact ⟨by simp [h1], h2⟩
    · obtain ⟨h1, h2⟩ := asked_mem h; exact ⟨by simp [h1], h2⟩

structure RowsM (g : Sg) (M : Nat) (rows : List RowT) : Prop where
  len : rows.length ≤ M
  mass : ∀ r ∈ rows, massA r.asks ≤ M
  path : ∀ r ∈ rows, ∀ a ∈ r.asks, a.path.length + massP a.p ≤ M + 1
  wf : ∀ r ∈ rows, ∀ a ∈ r.asks, Wf g a.p

theorem massA_split {asks : List AskT} {k : Nat} {a : AskT} (h : asks[k]? = some a) : massA asks = massA (asks.take k) + massP a.p + massA (asks.drop (k + 1)) := by
  have h1 : asks = asks.take k ++ asks.drop k := (List.take_append_drop k asks).symm
  have h2 : asks.drop k = a :: asks.drop (k + 1) := by
    obtain ⟨hk, he⟩ := List.getElem?_eq_some_iff.1 h
    rw [List.drop_eq_getElem_cons hk, he]
  rw [h2] at h1
  rw [h1, massA_append]
  simp only [massA]
  rw [← h1]
  omega
theorem spot_at {path : List Int} {asks : List AskT} {k : Nat} (h : spotF path asks = some k) : ∃ a, asks[k]? = some a ∧ a.path = path := by
  obtain ⟨h1, h2, _⟩ := List.findIdx?_eq_some_iff_getElem.1 h
  exact ⟨asks[k], List.getElem?_eq_getElem h1, of_decide_eq_true h2⟩

section
variable {g : Sg} {M : Nat} {rows : List RowT} {path : List Int}
theorem RowsM.narrow (h : RowsM g M rows) (s : Option Pat) : RowsM g M (narrowF rows path s) := by
  have key : ∀ r' ∈ narrowF rows path s, ∃ r ∈ rows, massA r'.asks ≤ massA r.asks ∧ ∀ a' ∈ r'.asks, ∃ a ∈ r.asks, a'.path.length + massP a'.p ≤ a.path.length + massP a.p ∧ (Wf g a.p → Wf g a'.p) := by
    intro r' hr'
    obtain ⟨r, hr, he⟩ := List.mem_filterMap.1 hr'
    refine ⟨r, hr, ?_⟩
    unfold narrowR at he
    split at he
    · injection he with he
      subst he
      exact ⟨Nat.le_refl _, fun a ha => ⟨a, ha, Nat.le_refl _, id⟩⟩
    · rename_i k hk
      obtain ⟨a, ha, hp⟩ := spot_at hk
      rw [ha] at he
      cases s with
      | none => cases he
      | some q =>
        simp only at he
        split at he
        · injection he with he
          subst he
          have h1 := massA_split ha
          have h2 := massA_asked path 0 a.p.l
          have h3 := massP_l a.p
          refine ⟨by simp only [massA_append]; omega, fun a' ha' => ?_⟩
          simp only [List.mem_append] at ha'
          rcases ha' with (ha' | ha') | ha'
          · exact ⟨a', List.mem_of_mem_take ha', Nat.le_refl _, id⟩
          · obtain ⟨h4, j, h5⟩ := asked_mem ha'
            have h6 := massL_mem h4
            refine ⟨a, List.mem_of_getElem? ha, ?_, fun hw => hw.kids _ h4⟩
            rw [h5, List.length_append, hp]
            simp only [List.length_cons, List.length_nil]
            omega
          · exact ⟨a', List.mem_of_mem_drop ha', Nat.le_refl _, id⟩
        · cases he
  refine ⟨Nat.le_trans (List.length_filterMap_le _ _) h.len, fun r' hr' => ?_, fun r' hr' a' ha' => ?_, fun r' hr' a' ha' => ?_⟩
  · obtain ⟨r, hr, h1, _⟩ := key r' hr'
    exact Nat.le_trans h1 (h.mass r hr)
  · obtain ⟨r, hr, _, h2⟩ := key r' hr'
    obtain ⟨a, ha, h3, _⟩ := h2 a' ha'
    exact Nat.le_trans h3 (h.path r hr a ha)
  · obtain ⟨r, hr, _, h2⟩ := key r' hr'
    obtain ⟨a, ha, _, h3⟩ := h2 a' ha'
    exact h3 (h.wf r hr a ha)
theorem RowsM.asks (h : RowsM g M rows) : ∀ r ∈ rows, r.asks.length ≤ M := fun r hr => Nat.le_trans (massA_len _) (h.mass r hr)
theorem RowsM.plen (h : RowsM g M rows) : ∀ r ∈ rows, ∀ a ∈ r.asks, a.path.length ≤ M := fun r hr a ha => by
  have := h.path r hr a ha; have := massP_pos a.p; omega
theorem RowsM.kids (h : RowsM g M rows) : ∀ r ∈ rows, ∀ a ∈ r.asks, a.p.l.length ≤ M := fun r hr a ha => by
  have := h.mass r hr; have := massA_mem ha; have := massP_l a.p; have := massL_len a.p.l; omega
end

/-- The first patterns' rows. -/
theorem rowsOf_get : ∀ {i : Nat} {l : List Pat} {r : RowT}, r ∈ rowsOf i l → ∃ p ∈ l, r.asks = if testsB p = true then [⟨[], p⟩] else []
  | i, [], r, h => by simp [rowsOf] at h
  | i, p :: l, r, h => by
    simp only [rowsOf] at h
    rcases List.mem_cons.1 h with rfl | h
    · exact ⟨p, by simp, rfl⟩
    · obtain ⟨q, hq, e⟩ := rowsOf_get h; exact ⟨q, by simp [hq], e⟩
theorem rowsOf_len : ∀ (i : Nat) (l : List Pat), (rowsOf i l).length = l.length
  | i, [] => rfl
  | i, p :: l => by simp [rowsOf, rowsOf_len (i + 1) l]
theorem rowsM_of {g : Sg} {M : Nat} {l : List Pat} (h : massL l ≤ M) (hw : ∀ p ∈ l, Wf g p) : RowsM g M (rowsOf 0 l) := by
  have hl := massL_len l
  have key : ∀ r ∈ rowsOf 0 l, massA r.asks ≤ M ∧ ∀ a ∈ r.asks, a.path.length + massP a.p ≤ M + 1 ∧ Wf g a.p := by
    intro r hr
    obtain ⟨p, hp, e⟩ := rowsOf_get hr
    have h1 := massL_mem hp
    rw [e]
    split
    · refine ⟨by simp only [massA]; omega, fun a ha => ?_⟩
      simp at ha
      subst ha
      exact ⟨by simp only [List.length_nil]; omega, hw p hp⟩
    · exact ⟨by simp [massA], fun a ha => by cases ha⟩
  exact ⟨by rw [rowsOf_len]; omega, fun r hr => (key r hr).1, fun r hr a ha => ((key r hr).2 a ha).1, fun r hr a ha => ((key r hr).2 a ha).2⟩

/-! How many nodes are left. -/
theorem buildF_low {g : Sg} : ∀ {f : Nat} {left : Int} {rows : List RowT}, left ≤ 0 → (buildF g f left rows).2 = left - 1 ∧ (buildF g f left rows).1 = bare 0 0 [] [] []
  | 0, _, _, _ => ⟨rfl, rfl⟩
  | f + 1, left, rows, h => by
    unfold buildF
    rw [if_pos (by omega)]
    exact ⟨rfl, rfl⟩
theorem branchesF_snoc (F : Int → Option Pat → TreeT × Int) : ∀ (l : List Pat) (p : Pat) (left : Int), branchesF F (l ++ [p]) left = ((branchesF F l left).1 ++ [(F (branchesF F l left).2 (some p)).1.at p.kind p.n p.i p.s], (F (branchesF F l left).2 (some p)).2)
  | [], p, left => by simp [branchesF]
  | q :: l, p, left => by
    have := branchesF_snoc F l p (F left (some q)).2
    simp only [List.cons_append, branchesF, this]
theorem branchesF_bd {F : Int → Option Pat → TreeT × Int} {K : Int} (hK : 1 ≤ K) (hF : ∀ left s, (left ≤ 0 → (F left s).2 = left - 1) ∧ (1 ≤ left → -K ≤ (F left s).2 ∧ (F left s).2 ≤ left - 1)) : ∀ (l : List Pat) (left : Int), (left ≤ 0 → (branchesF F l left).2 = left - l.length) ∧ (0 ≤ left → -K - l.length ≤ (branchesF F l left).2 ∧ (branchesF F l left).2 ≤ left - l.length)
  | [], left => by constructor <;> intro h <;> simp [branchesF] <;> omega
  | p :: l, left => by
    have h1 := hF left (some p)
    have h2 := branchesF_bd hK hF l (F left (some p)).2
    simp only [branchesF, List.length_cons]
    refine ⟨fun h => ?_, fun h => ?_⟩
    · have h3 := h1.1 h
      have h4 := h2.1 (by omega)
      omega
    · by_cases h0 : left ≤ 0
      · have h3 := h1.1 h0
        have h4 := h2.1 (by omega)
        omega
      · have h3 := h1.2 (by omega)
        by_cases h5 : (F left (some p)).2 ≤ 0
        · have h4 := h2.1 h5; omega
        · have h4 := h2.2 (by omega); omega
end Go.Proofs.Ytjflembhgjcgkaa
