/- Parts of slices, tuples, structs that are built, functions as values. -/
import Derived.Test.YtlpgekodoiioaaaAm6
import Derived.Laws.Slices
import Derived.Laws.Tables
set_option linter.unusedSimpArgs false
set_option linter.unusedVariables false
namespace Go.Proofs.Ytlpgekodoiioaaa
open Go.RowKit

section
variable {P : Program} {T : Tab} {fr : Fr} {σ : List AObj} {o : Oper}

theorem RRep.drop {F : Frag} {sz : Nat} : ∀ {rs : List (List DV)} {b off : Nat} (n : Nat), RRep F sz rs b off → RRep F sz (rs.drop n) b (off + n * sz)
  | _, _, _, 0, h => by simpa using h
  | [], _, _, n + 1, _ => by simp [RRep]
  | r :: rs, b, off, n + 1, h => by
    have := RRep.drop n h.2.2
    rw [show off + sz + n * sz = off + (n + 1) * sz by rw [Nat.add_mul]; omega] at this
    exact this
theorem RRep.take {F : Frag} {sz : Nat} : ∀ {rs : List (List DV)} {b off : Nat} (n : Nat), RRep F sz rs b off → RRep F sz (rs.take n) b off
  | _, _, _, 0, _ => by simp [RRep]
  | [], _, _, n + 1, _ => by simp [RRep]
  | r :: rs, b, off, n + 1, ⟨h1, h2, h3⟩ => ⟨h1, h2, RRep.take n h3⟩

/-- The bounds of a slice expression. -/
def bndA (fr : Fr) : Option Operand → Option (Option Int)
  | none => some none
  | some a => match aget fr a with
    | .d (.v (.int _ n)) => some (some n)
    | _ => none

theorem bnd_run {k : K0} {x : Ctx} {nt : Nat} {A : Act} {w : World} (s : Sim k x nt fr σ A w) {a : Option Operand} {b : Option Int} (h : bndA fr a = some b) :
    (b = none ∧ a.map A.eval = none) ∨ ∃ n kd, b = some n ∧ a.map A.eval = some (.int kd n) := by
  unfold bndA at h
  split at h
  · injection h with h; exact .inl ⟨h.symm, rfl⟩
  · rename_i y
    have h1 := s.arg y
    split at h
    · rename_i kd n e
      rw [e] at h1
      injection h with h
      exact .inr ⟨n, kd, h.symm, by simp [h1.1]⟩
    · cases h

/-- 's[lo:hi]' of a frozen list, hi no more than its length. -/
theorem rd_slice (hT : okTab P T = true) {t e sz bytes : Nat} {agg : Bool} {a : Operand} {lo hi : Option Operand} {rows : List (List DV)} {l h : Option Int} (ho : o.op = .slice t a lo hi none) (ht : find1 T.sl t = some e) (he : find1 T.ty e = some (sz, bytes, agg))
    (ha : aget fr a = .d (.lst sz rows)) (hl : bndA fr lo = some l) (hh : bndA fr hi = some h) (h0 : 0 ≤ l.getD 0) (h1 : l.getD 0 ≤ h.getD rows.length) (h2 : h.getD rows.length ≤ rows.length) :
    RdOp P o fr σ (.d (.lst sz ((rows.take (h.getD rows.length).toNat).drop (l.getD 0).toNat))) := by
  intro k x nt A w s
  have r := s.arg a
  rw [ha] at r
  obtain ⟨ad, cap, e1, hc, hq⟩ := r
  have hlen : ((rows.take (h.getD rows.length).toNat).drop (l.getD 0).toNat).length = (h.getD rows.length).toNat - (l.getD 0).toNat := by
    rw [List.length_drop, List.length_take]; omega
  refine ⟨sliced ad (l.getD 0).toNat (h.getD rows.length).toNat cap sz, ?_, fun w' _ => ?_⟩
  · unfold sliced
    refine ⟨if cap = (l.getD 0).toNat then ad else ad.map (·.add ((l.getD 0).toNat * sz)), cap - (l.getD 0).toNat, by rw [hlen], ?_, ?_⟩
    · rw [hlen]; omega
    · rcases hq with hq | ⟨b, off, rfl, hR⟩
      · left; subst hq; simp
      · by_cases hz : cap = (l.getD 0).toNat
        · left
          apply List.eq_nil_of_length_eq_zero
          rw [hlen]; omega
        · right
          refine ⟨b, off + (l.getD 0).toNat * sz, ?_, (hR.take _).drop _⟩
          rw [if_neg hz]; simp [Addr.add_mk]
  · have hE : P.elem t = e := by simp [Program.elem, T.slIs hT ht]
    have ht2 : P.underlying t = some (.slice (P.elem t)) := by rw [hE]; exact T.slIs hT ht
    have hz := (T.tyIs hT he).size_run w'
    unfold execOp
    simp only [ho, e1]
    rcases bnd_run s hl with ⟨rfl, b1⟩ | ⟨ln, lk, rfl, b1⟩ <;> rcases bnd_run s hh with ⟨rfl, b2⟩ | ⟨hn, hk, rfl, b2⟩ <;> simp only [b1, b2, Option.map_none, Option.getD_none, Option.getD_some] at h0 h1 h2 ⊢
    · simp [run_sliceAt_slice w' t _ none none none ht2, run_slice_all w' t ad rows.length cap ht2, hE, hz, Result.andThen]
    · simp [run_sliceAt_slice w' t _ none _ none ht2, run_slice_h w' t ad rows.length cap ht2 hk hn (by omega) (by omega), hE, hz, Result.andThen]
    · simp [run_sliceAt_slice w' t _ _ none none ht2, run_slice_l w' t ad rows.length cap ht2 lk ln (by omega) (by omega), hE, hz, Result.andThen]
    · simp [run_sliceAt_slice w' t _ _ _ none ht2, run_slice_lh w' t ad rows.length cap ht2 lk hk ln hn (by omega) (by omega) (by omega), hE, hz, Result.andThen]

/-- A tuple's part. -/
def tupA : AV → Nat → Option AV
  | .d (.tup vs), i => (vs[i]?).map .d
  | .tup vs, i => vs[i]?
  | _, _ => none

theorem LRep.get {F : Frag} : ∀ {ds : List DV} {us : List Value} {i : Nat} {d : DV}, LRep F ds us → ds[i]? = some d → ∃ u, us[i]? = some u ∧ DRep F d u
  | [], _, _, _, _, e => by simp at e
  | a :: ds, _, 0, d, ⟨u, us', e1, r, q⟩, e => by simp at e; subst e e1; exact ⟨u, rfl, r⟩
  | a :: ds, _, i + 1, d, ⟨u, us', e1, r, q⟩, e => by subst e1; simpa using LRep.get (i := i) q (by simpa using e)
theorem ALRep.get {x : Ctx} : ∀ {ds : List AV} {us : List Value} {i : Nat} {d : AV}, ALRep x ds us → ds[i]? = some d → ∃ u, us[i]? = some u ∧ ARep x d u
  | [], _, _, _, _, e => by simp at e
  | a :: ds, _, 0, d, ⟨u, us', e1, r, q⟩, e => by simp at e; subst e e1; exact ⟨u, rfl, r⟩
  | a :: ds, _, i + 1, d, ⟨u, us', e1, r, q⟩, e => by subst e1; simpa using ALRep.get (i := i) q (by simpa using e)

theorem rd_extract {a : Operand} {i : Nat} {v : AV} (ho : o.op = .extract a i) (hv : tupA (aget fr a) i = some v) : RdOp P o fr σ v := by
  intro k x nt A w s
  have r := s.arg a
  have key : ∃ vs u, A.eval a = .tuple vs ∧ vs[i]? = some u ∧ ARep x v u := by
    generalize aget fr a = y at *
    unfold tupA at hv
    split at hv
    · obtain ⟨us, e, h⟩ := r
      rename_i vs j
      rw [Option.map_eq_some_iff] at hv
      obtain ⟨d, h1, h2⟩ := hv
      obtain ⟨u, h3, h4⟩ := h.get h1
      exact ⟨_, u, e, by simpa using h3, h2 ▸ h4⟩
    · obtain ⟨us, e, h⟩ := r
      obtain ⟨u, h3, h4⟩ := h.get hv
      exact ⟨_, u, e, by simpa using h3, h4⟩
    · cases hv
  obtain ⟨vs, u, h1, h2, h3⟩ := key
  refine ⟨u, h3, fun w' _ => ?_⟩
  unfold execOp
  simp [ho, h1, Instr.extract, h2]

/-- nilCheck: of what is no nil. -/
def soundA : AV → Bool
  | .d (.fptr _) | .ptr .. => true
  | _ => false
theorem rd_nilCheck {a : Operand} (ho : o.op = .nilCheck a) (hv : soundA (aget fr a) = true) : RdOp P o fr σ (aget fr a) := by
  intro k x nt A w s
  have r := s.arg a
  refine ⟨A.eval a, r, fun w' _ => ?_⟩
  have : ∃ q, A.eval a = .pointer (some q) := by
    generalize aget fr a = y at *
    cases y <;> simp [soundA] at hv
    · rename_i d
      cases d <;> simp [soundA] at hv
      obtain ⟨b, off, e, _⟩ := r
      exact ⟨_, e⟩
    · obtain ⟨_, _, q, e, _⟩ := r
      exact ⟨_, e⟩
  obtain ⟨q, hq⟩ := this
  unfold execOp
  simp [ho, hq]

/-- A function with what it holds. -/
def cloA (fn : Fn) (fs cs : List AV) : AV := match allD fs, allD cs with
  | some a, some b => .d (.clo fn a b)
  | _, _ => .clo fn fs cs

theorem aget_map {k : K0} {x : Ctx} {nt : Nat} {A : Act} {w : World} (s : Sim k x nt fr σ A w) : ∀ l : List Operand, ALRep x (l.map (aget fr)) (l.map A.eval)
  | [] => rfl
  | a :: l => ⟨_, _, rfl, s.arg a, aget_map s l⟩

theorem cloA_rep {x : Ctx} {fn : Fn} {fs cs : List AV} {us ws : List Value} (h1 : ALRep x fs us) (h2 : ALRep x cs ws) : ARep x (cloA fn fs cs) (.func fn us.toArray ws.toArray) := by
  unfold cloA
  split
  · rename_i a b e1 e2
    rw [allD_map e1] at h1
    rw [allD_map e2] at h2
    exact ⟨us, ws, rfl, h1.toD, h2.toD⟩
  · exact ⟨us, ws, rfl, h1, h2⟩

theorem rd_makeFunc {fn : Fn} {fs cs : Array Operand} (ho : o.op = .makeFunc fn fs cs) : RdOp P o fr σ (cloA fn (fs.toList.map (aget fr)) (cs.toList.map (aget fr))) := by
  intro k x nt A w s
  refine ⟨_, cloA_rep (aget_map s fs.toList) (aget_map s cs.toList), fun w' _ => ?_⟩
  have hm : ∀ a : Array Operand, a.map A.eval = (a.toList.map A.eval).toArray := fun a => by apply Array.ext'; simp
  unfold execOp
  simp [ho, Instr.makeFunc, hm]

/-! Structs that are built. -/
def cellsA : AV → List AV
  | .d (.agg cs) => cs.map .d
  | .agg cs => cs
  | v => [v]

def oneA : AV → Bool
  | .d (.tup _) | .tup _ | .any => false
  | _ => true

theorem cellsA_rep {x : Ctx} {v : AV} {u : Value} (h : ARep x v u) (ho : oneA v = true) : ALRep x (cellsA v) u.cells.toList ∧ ∀ y ∈ u.cells.toList, y.oneCell' = true := by
  have single : ∀ {v : AV} {u : Value}, ARep x v u → u.oneCell' = true → ALRep x [v] u.cells.toList ∧ ∀ y ∈ u.cells.toList, y.oneCell' = true := fun {v u} h1 h2 => by
    have : u.cells.toList = [u] := by cases u <;> first | rfl | cases h2
    rw [this]
    exact ⟨⟨u, [], rfl, h1, rfl⟩, by simpa using h2⟩
  cases v with
  | d d =>
    have h1 := DRep.one h
    cases d with
    | agg cs => obtain ⟨us, e, l, q⟩ := h; subst e; exact ⟨by simpa [cellsA, Value.cells] using ALRep.ofD l, by simpa [Value.cells] using q⟩
    | tup _ => cases ho
    | _ => exact single h (by simpa using h1)
  | agg cs => obtain ⟨us, e, l, q⟩ := h; subst e; exact ⟨by simpa [cellsA, Value.cells] using l, by simpa [Value.cells] using q⟩
  | tup _ => cases ho
  | any => cases ho
  | own loc ver sz off len => have h0 := h; obtain ⟨_, _, a, c, e, _⟩ := h; exact single h0 (by subst e; rfl)
  | ptr loc ver off => have h0 := h; obtain ⟨_, _, a, e, _⟩ := h; exact single h0 (by subst e; rfl)
  | mp loc => have h0 := h; obtain ⟨_, a, e, _⟩ := h; exact single h0 (by subst e; rfl)
  | clo f a b => have h0 := h; obtain ⟨a, c, e, _⟩ := h; exact single h0 (by subst e; rfl)

def spliceL {α : Type} (l : List α) (off : Nat) (cs : List α) : List α := l.take off ++ cs ++ l.drop (off + cs.length)

theorem setAll (cells : Array Value) : ∀ (cs : List Value) (off j : Nat) (acc : Array Value), off + j + cs.length ≤ acc.size →
    ((cs.zipIdx j).foldl (fun a (p : Value × Nat) => a.setIfInBounds (off + p.2) p.1) acc).toList = spliceL acc.toList (off + j) cs
  | [], off, j, acc, _ => by simp [spliceL]
  | c :: cs, off, j, acc, h => by
    simp only [List.length_cons] at h
    rw [List.zipIdx_cons, List.foldl_cons, setAll cells cs off (j + 1) _ (by simp; omega)]
    unfold spliceL
    simp only [Array.toList_setIfInBounds, List.length_cons]
    rw [List.drop_set_of_lt (by omega), show off + (j + 1) = (off + j) + 1 by omega, show off + j + 1 + cs.length = off + j + (cs.length + 1) by omega]
    have : List.take (off + j + 1) (acc.toList.set (off + j) c) = List.take (off + j) acc.toList ++ [c] := by
      rw [List.take_succ_eq_append_getElem (by simp; omega)]
      simp [List.take_set_of_le]
    rw [this]; simp

theorem fill_one (place : Nat → Option (Nat × Nat)) (cells : Array Value) (i : Nat) (v : Value) (rest : List (Nat × Value)) {off size : Nat} (hp : place i = some (off, size)) (hs : v.cells.size = size) (hf : off + size ≤ cells.size) :
    Instr.fill place cells ((i, v) :: rest) = Instr.fill place (spliceL cells.toList off v.cells.toList).toArray rest := by
  have h := setAll cells v.cells.toList off 0 cells (by simp; omega)
  conv => lhs; unfold Instr.fill
  rw [hp]
  simp only [hs]
  rw [if_neg (by simp; omega)]
  congr 1
  apply Array.ext'
  rw [List.toList_toArray, ← Nat.add_zero off, ← h]
  rw [← Array.foldl_toList]
  simp [Array.toList_zipIdx]

/-- The fields of a struct: offset and size, by number. -/
def fillA (pl : List (Nat × Nat)) : List AV → List (Nat × AV) → Option (List AV)
  | cells, [] => some cells
  | cells, (i, v) :: rest => match pl[i]? with
    | some (off, size) => bif Nat.beq (cellsA v).length size && Nat.ble (off + size) cells.length && oneA v then fillA pl (spliceL cells off (cellsA v)) rest else none
    | none => none

theorem ALRep.append {x : Ctx} : ∀ {a b : List AV} {us vs : List Value}, ALRep x a us → ALRep x b vs → ALRep x (a ++ b) (us ++ vs)
  | [], _, _, _, h, k => by rw [h]; exact k
  | _ :: _, _, _, _, ⟨u, us', e, r, q⟩, k => by rw [e]; exact ⟨u, _, rfl, r, ALRep.append q k⟩

theorem fillA_run {x : Ctx} {pl : List (Nat × Nat)} (place : Nat → Option (Nat × Nat)) (hp : ∀ i, place i = pl[i]?) : ∀ (parts : List (Nat × AV)) (vals : List (Nat × Value)) (cells out : List AV) (us : List Value),
    parts.length = vals.length → (∀ (j : Nat) p q, parts[j]? = some p → vals[j]? = some q → p.1 = q.1 ∧ ARep x p.2 q.2) → ALRep x cells us → (∀ u ∈ us, u.oneCell' = true) → fillA pl cells parts = some out →
    ∃ vs, Instr.fill place us.toArray vals = some vs.toArray ∧ ALRep x out vs ∧ ∀ u ∈ vs, u.oneCell' = true
  | [], [], cells, out, us, _, _, h1, h2, h => by cases h; exact ⟨us, rfl, h1, h2⟩
  | (i, v) :: parts, (i', u) :: vals, cells, out, us, hl, hpq, h1, h2, h => by
    obtain ⟨e, r⟩ := hpq 0 _ _ rfl rfl
    simp only at e r
    subst e
    unfold fillA at h
    cases hpi : pl[i]? with
    | none => rw [hpi] at h; cases h
    | some os =>
      obtain ⟨off, size⟩ := os
      rw [hpi] at h
      simp only at h
      cases hc : (Nat.beq (cellsA v).length size && Nat.ble (off + size) cells.length && oneA v) with
      | false => rw [hc] at h; cases h
      | true =>
        rw [hc] at h
        simp only [Bool.and_eq_true] at hc
        obtain ⟨⟨c1, c2⟩, c3⟩ := hc
        have c1 := Nat.eq_of_beq_eq_true c1
        have c2 := Nat.le_of_ble_eq_true c2
        obtain ⟨r1, r2⟩ := cellsA_rep r c3
        have hsz : u.cells.size = size := by have := r1.len; simp at this; omega
        have hus := h1.len
        rw [fill_one place us.toArray i u vals (by rw [hp, hpi]) hsz (by simp; omega)]
        refine fillA_run place hp parts vals _ out _ (by simpa using hl) (fun j p q hj hq => hpq (j + 1) p q hj hq) ?_ ?_ h
        · unfold spliceL
          simp only [Array.length_toList, hsz, c1]
          exact ALRep.append (ALRep.append (h1.take off) r1) (h1.drop (off + size))
        · intro y hy
          unfold spliceL at hy
          simp only [List.mem_append] at hy
          rcases hy with (hy | hy) | hy
          · exact h2 y (List.mem_of_mem_take hy)
          · exact r2 y hy
          · exact h2 y (List.mem_of_mem_drop hy)

/-- A struct type: its fields' places, its zero. -/
structure StIs (P : Program) (t : TypeId) (pl : List (Nat × Nat)) (z : List Value) : Prop where
  ex : ∃ i fs zv, P.info? t = some i ∧ P.underlying t = some (.struct fs) ∧ i.zero = some zv ∧ zv.cells.toList = z ∧ fs.toList.mapM (fun f => (P.info? f.type).map fun i => (f.offset, i.size)) = some pl
  one : z.all (·.oneCell') = true

theorem rd_build {t : TypeId} {pl : List (Nat × Nat)} {z : List Value} (hs : StIs P t pl z) {parts : Array (Nat × Operand)} {out : List AV} (ho : o.op = .build t parts) (hf : fillA pl (z.map constAV) (parts.toList.map fun p => (p.1, aget fr p.2)) = some out) : RdOp P o fr σ (aggOf out) := by
  intro k x nt A w s
  obtain ⟨i, fs, zv, e1, e2, e3, e4, e5⟩ := hs.ex
  have hzr : ∀ z : List Value, ALRep x (z.map constAV) z := fun z => by
    induction z with
    | nil => rfl
    | cons a z ih => exact ⟨a, z, rfl, constAV_rep x.F a, ih⟩
  have hz : ALRep x (z.map constAV) z ∧ ∀ u ∈ z, u.oneCell' = true := ⟨hzr z, fun u hu => List.all_eq_true.1 hs.one u hu⟩
  obtain ⟨vs, h1, h2, h3⟩ := fillA_run (x := x) (pl.toArray[·]?) (fun i => by simp) (parts.toList.map fun p => (p.1, aget fr p.2)) (parts.toList.map fun p => (p.1, A.eval p.2)) _ out z (by simp) (fun j p q hp hq => by
    simp only [List.getElem?_map, Option.map_eq_some_iff] at hp hq
    obtain ⟨y, hy, rfl⟩ := hp
    obtain ⟨y', hy', rfl⟩ := hq
    rw [hy] at hy'
    injection hy' with hy'
    subst hy'
    exact ⟨rfl, s.arg y.2⟩) hz.1 hz.2 hf
  refine ⟨.agg vs.toArray, aggOf_rep h2 h3, fun w' _ => ?_⟩
  have hb : P.built t ((parts.map fun p => (p.1, A.eval p.2)).toList) = some vs.toArray := by
    unfold Program.built
    have e6 : zv.cells = z.toArray := by rw [← e4]
    simp only [e1, e2, e3, e5, e6]
    rw [show (parts.map fun p => (p.1, A.eval p.2)).toList = parts.toList.map fun p => (p.1, A.eval p.2) by simp]
    exact h1
  have := run_build w' t (parts.map fun p => (p.1, A.eval p.2)) vs.toArray hb
  unfold execOp
  simp [ho, this]
end
end Go.Proofs.Ytlpgekodoiioaaa
