/- Ab: Am7, Am8, Am9, Am10, Am11 in one. -/
import Derived.Laws.Slices
import Derived.Laws.Tables
import Derived.Laws.CopyRow
import Derived.Test.YtciciaikajdenaaTPR12Aa
set_option linter.unusedSimpArgs false
set_option linter.unusedVariables false
/- Parts of slices, tuples, structs that are built, functions as values. -/
namespace Go.Proofs.Ytciciaikajdenaa
open Go.RowKit

section
variable {P : Program} {T : Tab} {fr : Fr} {σ : List AObj} {o : Oper}

theorem RRep.drop {F : Frag} {sz : Nat} : ∀ {rs : List (List DV)} {b off : Nat} (n : Nat), RRep F sz rs b off → RRep F sz (rs.drop n) b (off + n * sz)
  | _, _, _, 0, h => by simpa using h
  | [], _, _, n + 1, _ => by simp [RRep]
  | r :: rs, b, off, n + 1, h => by
    have := RRep.drop n h.2.2
    rw [show off + sz + n * sz = off + (n + 1) * sz by rw [Nat.add_mul]; omega] at this
    exact this
theorem RRep.take {F : Frag} {sz : Nat} : ∀ {rs : List (List DV)} {b off : Nat} (n : Nat), RRep F sz rs b off → RRep F sz (rs.take n) b off
  | _, _, _, 0, _ => by simp [RRep]
  | [], _, _, n + 1, _ => by simp [RRep]
  | r :: rs, b, off, n + 1, ⟨h1, h2, h3⟩ => ⟨h1, h2, RRep.take n h3⟩

/-- The bounds of a slice expression. -/
def bndA (fr : Fr) : Option Operand → Option (Option Int)
  | none => some none
  | some a => match aget fr a with
    | .d (.v (.int _ n)) => some (some n)
    | _ => none

theorem bnd_run {k : K0} {x : Ctx} {nt : Nat} {A : Act} {w : World} (s : Sim k x nt fr σ A w) {a : Option Operand} {b : Option Int} (h : bndA fr a = some b) :
    (b = none ∧ a.map A.eval = none) ∨ ∃ n kd, b = some n ∧ a.map A.eval = some (.int kd n) := by
  unfold bndA at h
  split at h
  · injection h with h; exact .inl ⟨h.symm, rfl⟩
  · rename_i y
    have h1 := s.arg y
    split at h
    · rename_i kd n e
      rw [e] at h1
      injection h with h
      exact .inr ⟨n, kd, h.symm, by simp [h1.1]⟩
    · cases h

/-- 's[lo:hi]' of a frozen list, hi no more than its length. -/
theorem rd_slice (hT : okTab P T = true) {t e sz bytes : Nat} {agg : Bool} {a : Operand} {lo hi : Option Operand} {rows : List (List DV)} {l h : Option Int} (ho : o.op = .slice t a lo hi none) (ht : find1 T.sl t = some e) (he : find1 T.ty e = some (sz, bytes, agg))
    (ha : aget fr a = .d (.lst sz rows)) (hl : bndA fr lo = some l) (hh : bndA fr hi = some h) (h0 : 0 ≤ l.getD 0) (h1 : l.getD 0 ≤ h.getD rows.length) (h2 : h.getD rows.length ≤ rows.length) :
    RdOp P o fr σ (.d (.lst sz ((rows.take (h.getD rows.length).toNat).drop (l.getD 0).toNat))) := by
  intro k x nt A w s
  have r := s.arg a
  rw [ha] at r
  obtain ⟨ad, cap, e1, hc, hq⟩ := r
  have hlen : ((rows.take (h.getD rows.length).toNat).drop (l.getD 0).toNat).length = (h.getD rows.length).toNat - (l.getD 0).toNat := by
    rw [List.length_drop, List.length_take]; omega
  refine ⟨sliced ad (l.getD 0).toNat (h.getD rows.length).toNat cap sz, ?_, fun w' _ => ?_⟩
  · unfold sliced
    refine ⟨if cap = (l.getD 0).toNat then ad else ad.map (·.add ((l.getD 0).toNat * sz)), cap - (l.getD 0).toNat, by rw [hlen], ?_, ?_⟩
    · rw [hlen]; omega
    · rcases hq with hq | ⟨b, off, rfl, hR⟩
      · left; subst hq; simp
      · by_cases hz : cap = (l.getD 0).toNat
        · left
          apply List.eq_nil_of_length_eq_zero
          rw [hlen]; omega
        · right
          refine ⟨b, off + (l.getD 0).toNat * sz, ?_, (hR.take _).drop _⟩
          rw [if_neg hz]; simp [Addr.add_mk]
  · have hE : P.elem t = e := by simp [Program.elem, T.slIs hT ht]
    have ht2 : P.underlying t = some (.slice (P.elem t)) := by rw [hE]; exact T.slIs hT ht
    have hz := (T.tyIs hT he).size_run w'
    unfold execOp
    simp only [ho, e1]
    rcases bnd_run s hl with ⟨rfl, b1⟩ | ⟨ln, lk, rfl, b1⟩ <;> rcases bnd_run s hh with ⟨rfl, b2⟩ | ⟨hn, hk, rfl, b2⟩ <;> simp only [b1, b2, Option.map_none, Option.getD_none, Option.getD_some] at h0 h1 h2 ⊢
    · simp [run_sliceAt_slice w' t _ none none none ht2, run_slice_all w' t ad rows.length cap ht2, hE, hz, Result.andThen]
    · simp [run_sliceAt_slice w' t _ none _ none ht2, run_slice_h w' t ad rows.length cap ht2 hk hn (by omega) (by omega), hE, hz, Result.andThen]
    · simp [run_sliceAt_slice w' t _ _ none none ht2, run_slice_l w' t ad rows.length cap ht2 lk ln (by omega) (by omega), hE, hz, Result.andThen]
    · simp [run_sliceAt_slice w' t _ _ _ none ht2, run_slice_lh w' t ad rows.length cap ht2 lk hk ln hn (by omega) (by omega) (by omega), hE, hz, Result.andThen]

/-- A tuple's part. -/
def tupA : AV → Nat → Option AV
  | .d (.tup vs), i => (vs[i]?).map .d
  | .tup vs, i => vs[i]?
  | _, _ => none

theorem LRep.get {F : Frag} : ∀ {ds : List DV} {us : List Value} {i : Nat} {d : DV}, LRep F ds us → ds[i]? = some d → ∃ u, us[i]? = some u ∧ DRep F d u
  | [], _, _, _, _, e => by simp at e
  | a :: ds, _, 0, d, ⟨u, us', e1, r, q⟩, e => by simp at e; subst e e1; exact ⟨u, rfl, r⟩
  | a :: ds, _, i + 1, d, ⟨u, us', e1, r, q⟩, e => by subst e1; simpa using LRep.get (i := i) q (by simpa using e)
theorem ALRep.get {x : Ctx} : ∀ {ds : List AV} {us : List Value} {i : Nat} {d : AV}, ALRep x ds us → ds[i]? = some d → ∃ u, us[i]? = some u ∧ ARep x d u
  | [], _, _, _, _, e => by simp at e
  | a :: ds, _, 0, d, ⟨u, us', e1, r, q⟩, e => by simp at e; subst e e1; exact ⟨u, rfl, r⟩
  | a :: ds, _, i + 1, d, ⟨u, us', e1, r, q⟩, e => by subst e1; simpa using ALRep.get (i := i) q (by simpa using e)

theorem rd_extract {a : Operand} {i : Nat} {v : AV} (ho : o.op = .extract a i) (hv : tupA (aget fr a) i = some v) : RdOp P o fr σ v := by
  intro k x nt A w s
  have r := s.arg a
  have key : ∃ vs u, A.eval a = .tuple vs ∧ vs[i]? = some u ∧ ARep x v u := by
    generalize aget fr a = y at *
    unfold tupA at hv
    split at hv
    · obtain ⟨us, e, h⟩ := r
      rename_i vs j
      rw [Option.map_eq_some_iff] at hv
      obtain ⟨d, h1, h2⟩ := hv
      obtain ⟨u, h3, h4⟩ := h.get h1
      exact ⟨_, u, e, by simpa using h3, h2 ▸ h4⟩
    · obtain ⟨us, e, h⟩ := r
      obtain ⟨u, h3, h4⟩ := h.get hv
      exact ⟨_, u, e, by simpa using h3, h4⟩
    · cases hv
  obtain ⟨vs, u, h1, h2, h3⟩ := key
  refine ⟨u, h3, fun w' _ => ?_⟩
  unfold execOp
  simp [ho, h1, Instr.extract, h2]

/-- nilCheck: of what is no nil. -/
def soundA : AV → Bool
  | .d (.fptr _) | .ptr .. => true
  | _ => false
theorem rd_nilCheck {a : Operand} (ho : o.op = .nilCheck a) (hv : soundA (aget fr a) = true) : RdOp P o fr σ (aget fr a) := by
  intro k x nt A w s
  have r := s.arg a
  refine ⟨A.eval a, r, fun w' _ => ?_⟩
  have : ∃ q, A.eval a = .pointer (some q) := by
    generalize aget fr a = y at *
    cases y <;> simp [soundA] at hv
    · rename_i d
      cases d <;> simp [soundA] at hv
      obtain ⟨b, off, e, _⟩ := r
      exact ⟨_, e⟩
    · obtain ⟨_, _, q, e, _⟩ := r
      exact ⟨_, e⟩
  obtain ⟨q, hq⟩ := this
  unfold execOp
  simp [ho, hq]

/-- A function with what it holds. -/
def cloA (fn : Fn) (fs cs : List AV) : AV := match allD fs, allD cs with
  | some a, some b => .d (.clo fn a b)
  | _, _ => .clo fn fs cs

theorem aget_map {k : K0} {x : Ctx} {nt : Nat} {A : Act} {w : World} (s : Sim k x nt fr σ A w) : ∀ l : List Operand, ALRep x (l.map (aget fr)) (l.map A.eval)
  | [] => rfl
  | a :: l => ⟨_, _, rfl, s.arg a, aget_map s l⟩

theorem cloA_rep {x : Ctx} {fn : Fn} {fs cs : List AV} {us ws : List Value} (h1 : ALRep x fs us) (h2 : ALRep x cs ws) : ARep x (cloA fn fs cs) (.func fn us.toArray ws.toArray) := by
  unfold cloA
  split
  · rename_i a b e1 e2
    rw [allD_map e1] at h1
    rw [allD_map e2] at h2
    exact ⟨us, ws, rfl, h1.toD, h2.toD⟩
  · exact ⟨us, ws, rfl, h1, h2⟩

theorem rd_makeFunc {fn : Fn} {fs cs : Array Operand} (ho : o.op = .makeFunc fn fs cs) : RdOp P o fr σ (cloA fn (fs.toList.map (aget fr)) (cs.toList.map (aget fr))) := by
  intro k x nt A w s
  refine ⟨_, cloA_rep (aget_map s fs.toList) (aget_map s cs.toList), fun w' _ => ?_⟩
  have hm : ∀ a : Array Operand, a.map A.eval = (a.toList.map A.eval).toArray := fun a => by apply Array.ext'; simp
  unfold execOp
  simp [ho, Instr.makeFunc, hm]

/-! Structs that are built. -/
def cellsA : AV → List AV
  | .d (.agg cs) => cs.map .d
  | .agg cs => cs
  | v => [v]

def oneA : AV → Bool
  | .d (.tup _) | .tup _ | .any => false
  | _ => true

theorem cellsA_rep {x : Ctx} {v : AV} {u : Value} (h : ARep x v u) (ho : oneA v = true) : ALRep x (cellsA v) u.cells.toList ∧ ∀ y ∈ u.cells.toList, y.oneCell' = true := by
  have single : ∀ {v : AV} {u : Value}, ARep x v u → u.oneCell' = true → ALRep x [v] u.cells.toList ∧ ∀ y ∈ u.cells.toList, y.oneCell' = true := fun {v u} h1 h2 => by
    have : u.cells.toList = [u] := by cases u <;> first | rfl | cases h2
    rw [this]
    exact ⟨⟨u, [], rfl, h1, rfl⟩, by simpa using h2⟩
  cases v with
  | d d =>
    have h1 := DRep.one h
    cases d with
    | agg cs => obtain ⟨us, e, l, q⟩ := h; subst e; exact ⟨by simpa [cellsA, Value.cells] using ALRep.ofD l, by simpa [Value.cells] using q⟩
    | tup _ => cases ho
    | _ => exact single h (by simpa using h1)
  | agg cs => obtain ⟨us, e, l, q⟩ := h; subst e; exact ⟨by simpa [cellsA, Value.cells] using l, by simpa [Value.cells] using q⟩
  | tup _ => cases ho
  | any => cases ho
  | own loc ver sz off len => have h0 := h; obtain ⟨_, _, a, c, e, _⟩ := h; exact single h0 (by subst e; rfl)
  | ptr loc ver off => have h0 := h; obtain ⟨_, _, a, e, _⟩ := h; exact single h0 (by subst e; rfl)
  | mp loc => have h0 := h; obtain ⟨_, a, e, _⟩ := h; exact single h0 (by subst e; rfl)
  | clo f a b => have h0 := h; obtain ⟨a, c, e, _⟩ := h; exact single h0 (by subst e; rfl)

def spliceL {α : Type} (l : List α) (off : Nat) (cs : List α) : List α := l.take off ++ cs ++ l.drop (off + cs.length)

theorem setAll (cells : Array Value) : ∀ (cs : List Value) (off j : Nat) (acc : Array Value), off + j + cs.length ≤ acc.size →
    ((cs.zipIdx j).foldl (fun a (p : Value × Nat) => a.setIfInBounds (off + p.2) p.1) acc).toList = spliceL acc.toList (off + j) cs
  | [], off, j, acc, _ => by simp [spliceL]
  | c :: cs, off, j, acc, h => by
    simp only [List.length_cons] at h
    rw [List.zipIdx_cons, List.foldl_cons, setAll cells cs off (j + 1) _ (by simp; omega)]
    unfold spliceL
    simp only [Array.toList_setIfInBounds, List.length_cons]
    rw [List.drop_set_of_lt (by omega), show off + (j + 1) = (off + j) + 1 by omega, show off + j + 1 + cs.length = off + j + (cs.length + 1) by omega]
    have : List.take (off + j + 1) (acc.toList.set (off + j) c) = List.take (off + j) acc.toList ++ [c] := by
      rw [List.take_succ_eq_append_getElem (by simp; omega)]
      simp [List.take_set_of_le]
    rw [this]; simp

theorem fill_one (place : Nat → Option (Nat × Nat)) (cells : Array Value) (i : Nat) (v : Value) (rest : List (Nat × Value)) {off size : Nat} (hp : place i = some (off, size)) (hs : v.cells.size = size) (hf : off + size ≤ cells.size) :
    Instr.fill place cells ((i, v) :: rest) = Instr.fill place (spliceL cells.toList off v.cells.toList).toArray rest := by
  have h := setAll cells v.cells.toList off 0 cells (by simp; omega)
  conv => lhs; unfold Instr.fill
  rw [hp]
  simp only [hs]
  rw [if_neg (by simp; omega)]
  congr 1
  apply Array.ext'
  rw [List.toList_toArray, ← Nat.add_zero off, ← h]
  rw [← Array.foldl_toList]
  simp [Array.toList_zipIdx]

/-- The fields of a struct: offset and size, by number. -/
def fillA (pl : List (Nat × Nat)) : List AV → List (Nat × AV) → Option (List AV)
  | cells, [] => some cells
  | cells, (i, v) :: rest => match pl[i]? with
    | some (off, size) => bif Nat.beq (cellsA v).length size && Nat.ble (off + size) cells.length && oneA v then fillA pl (spliceL cells off (cellsA v)) rest else none
    | none => none

theorem ALRep.append {x : Ctx} : ∀ {a b : List AV} {us vs : List Value}, ALRep x a us → ALRep x b vs → ALRep x (a ++ b) (us ++ vs)
  | [], _, _, _, h, k => by rw [h]; exact k
  | _ :: _, _, _, _, ⟨u, us', e, r, q⟩, k => by rw [e]; exact ⟨u, _, rfl, r, ALRep.append q k⟩

theorem fillA_run {x : Ctx} {pl : List (Nat × Nat)} (place : Nat → Option (Nat × Nat)) (hp : ∀ i, place i = pl[i]?) : ∀ (parts : List (Nat × AV)) (vals : List (Nat × Value)) (cells out : List AV) (us : List Value),
    parts.length = vals.length → (∀ (j : Nat) p q, parts[j]? = some p → vals[j]? = some q → p.1 = q.1 ∧ ARep x p.2 q.2) → ALRep x cells us → (∀ u ∈ us, u.oneCell' = true) → fillA pl cells parts = some out →
    ∃ vs, Instr.fill place us.toArray vals = some vs.toArray ∧ ALRep x out vs ∧ ∀ u ∈ vs, u.oneCell' = true
  | [], [], cells, out, us, _, _, h1, h2, h => by cases h; exact ⟨us, rfl, h1, h2⟩
  | (i, v) :: parts, (i', u) :: vals, cells, out, us, hl, hpq, h1, h2, h => by
    obtain ⟨e, r⟩ := hpq 0 _ _ rfl rfl
    simp only at e r
    subst e
    unfold fillA at h
    cases hpi : pl[i]? with
    | none => rw [hpi] at h; cases h
    | some os =>
      obtain ⟨off, size⟩ := os
      rw [hpi] at h
      simp only at h
      cases hc : (Nat.beq (cellsA v).length size && Nat.ble (off + size) cells.length && oneA v) with
      | false => rw [hc] at h; cases h
      | true =>
        rw [hc] at h
        simp only [Bool.and_eq_true] at hc
        obtain ⟨⟨c1, c2⟩, c3⟩ := hc
        have c1 := Nat.eq_of_beq_eq_true c1
        have c2 := Nat.le_of_ble_eq_true c2
        obtain ⟨r1, r2⟩ := cellsA_rep r c3
        have hsz : u.cells.size = size := by have := r1.len; simp at this; omega
        have hus := h1.len
        rw [fill_one place us.toArray i u vals (by rw [hp, hpi]) hsz (by simp; omega)]
        refine fillA_run place hp parts vals _ out _ (by simpa using hl) (fun j p q hj hq => hpq (j + 1) p q hj hq) ?_ ?_ h
        · unfold spliceL
          simp only [Array.length_toList, hsz, c1]
          exact ALRep.append (ALRep.append (h1.take off) r1) (h1.drop (off + size))
        · intro y hy
          unfold spliceL at hy
          simp only [List.mem_append] at hy
          rcases hy with (hy | hy) | hy
          · exact h2 y (List.mem_of_mem_take hy)
          · exact r2 y hy
          · exact h2 y (List.mem_of_mem_drop hy)

/-- A struct type: its fields' places, its zero. -/
structure StIs (P : Program) (t : TypeId) (pl : List (Nat × Nat)) (z : List Value) : Prop where
  ex : ∃ i fs zv, P.info? t = some i ∧ P.underlying t = some (.struct fs) ∧ i.zero = some zv ∧ zv.cells.toList = z ∧ fs.toList.mapM (fun f => (P.info? f.type).map fun i => (f.offset, i.size)) = some pl
  one : z.all (·.oneCell') = true

theorem rd_build {t : TypeId} {pl : List (Nat × Nat)} {z : List Value} (hs : StIs P t pl z) {parts : Array (Nat × Operand)} {out : List AV} (ho : o.op = .build t parts) (hf : fillA pl (z.map constAV) (parts.toList.map fun p => (p.1, aget fr p.2)) = some out) : RdOp P o fr σ (aggOf out) := by
  intro k x nt A w s
  obtain ⟨i, fs, zv, e1, e2, e3, e4, e5⟩ := hs.ex
  have hzr : ∀ z : List Value, ALRep x (z.map constAV) z := fun z => by
    induction z with
    | nil => rfl
    | cons a z ih => exact ⟨a, z, rfl, constAV_rep x.F a, ih⟩
  have hz : ALRep x (z.map constAV) z ∧ ∀ u ∈ z, u.oneCell' = true := ⟨hzr z, fun u hu => List.all_eq_true.1 hs.one u hu⟩
  obtain ⟨vs, h1, h2, h3⟩ := fillA_run (x := x) (pl.toArray[·]?) (fun i => by simp) (parts.toList.map fun p => (p.1, aget fr p.2)) (parts.toList.map fun p => (p.1, A.eval p.2)) _ out z (by simp) (fun j p q hp hq => by
    simp only [List.getElem?_map, Option.map_eq_some_iff] at hp hq
    obtain ⟨y, hy, rfl⟩ := hp
    obtain ⟨y', hy', rfl⟩ := hq
    rw [hy] at hy'
    injection hy' with hy'
    subst hy'
    exact ⟨rfl, s.arg y.2⟩) hz.1 hz.2 hf
  refine ⟨.agg vs.toArray, aggOf_rep h2 h3, fun w' _ => ?_⟩
  have hb : P.built t ((parts.map fun p => (p.1, A.eval p.2)).toList) = some vs.toArray := by
    unfold Program.built
    have e6 : zv.cells = z.toArray := by rw [← e4]
    simp only [e1, e2, e3, e5, e6]
    rw [show (parts.map fun p => (p.1, A.eval p.2)).toList = parts.toList.map fun p => (p.1, A.eval p.2) by simp]
    exact h1
  have := run_build w' t (parts.map fun p => (p.1, A.eval p.2)) vs.toArray hb
  unfold execOp
  simp [ho, this]
end
end Go.Proofs.Ytciciaikajdenaa

/- Operations that make or write memory; calls. -/
namespace Go.Proofs.Ytciciaikajdenaa
open Go.RowKit

section
variable {P : Program} {T : Tab} {nt : Nat} {fr : Fr} {σ : List AObj} {o : Oper} {next : Fr → List AObj → Prop} {keep : Bool}

theorem Sim.to {k : K0} {x x' : Ctx} {σ' : List AObj} {A : Act} {w w' : World} (s : Sim k x nt fr σ A w) (hx : CtxExt x x') (hh : Heap x' σ' k.R w') (hc : Calm k.B w') : Sim k x' nt fr σ' A w' :=
  ⟨s.size, s.defers, fun i => (s.tmps i).ext hx, hh, hc⟩

theorem do_value (ht : dstOk o.dst nt = true) (next' : AV → List AObj → Prop) (hn : ∀ v σ', next' v σ' → next (fput o.dst v fr) σ')
    (hr : ∀ k x A w, Sim k x nt fr σ A w → ∃ u w' x' v σ', (execOp A.eval o).run P w = .ok (.value u) w' ∧ CtxExt x x' ∧ ARep x' v u ∧ Heap x' σ' k.R w' ∧ Calm k.B w' ∧ (keep = true → Agree w w') ∧ next' v σ') : DoOp P nt o fr σ keep next := by
  intro k x A w Q s
  obtain ⟨u, w', x', v, σ', h1, h2, h3, h4, h5, h6, h7⟩ := hr k x A w s
  unfold Oper.wp
  rw [h1, Oper.upon_value]
  exact ⟨h6, x', _, σ', h2, (s.to h2 h4 h5).put ht h3, hn v σ' h7⟩

theorem do_skip (ht : o.dst = none) {σ' : List AObj} (hn : next fr σ')
    (hr : ∀ k x A w, Sim k x nt fr σ A w → ∃ w' x', (execOp A.eval o).run P w = .ok .skip w' ∧ CtxExt x x' ∧ Heap x' σ' k.R w' ∧ Calm k.B w' ∧ (keep = true → Agree w w')) : DoOp P nt o fr σ keep next := by
  intro k x A w Q s
  obtain ⟨w', x', h1, h2, h4, h5, h6⟩ := hr k x A w s
  unfold Oper.wp
  rw [h1, Oper.upon_skip, ht]
  exact ⟨h6, x', fr, σ', h2, s.to h2 h4 h5, hn⟩

/-- A type's zero, in cells. -/
structure ZIs (P : Program) (t : TypeId) (z : List Value) : Prop where
  ex : ∃ i zv, P.info? t = some i ∧ i.zero = some zv ∧ zv.cells.toList = z
  one : z.all (·.oneCell') = true

theorem constL_rep (x : Ctx) : ∀ z : List Value, ALRep x (z.map constAV) z
  | [] => rfl
  | a :: z => ⟨a, z, rfl, constAV_rep x.F a, constL_rep x z⟩

theorem row_new {x : Ctx} {k : K0} {w : World} (hh : Heap x σ k.R w) (hc : Calm k.B w) {t : TypeId} {cells : List AV} {us : List Value} (h1 : ALRep x cells us) (h2 : ∀ u ∈ us, u.oneCell' = true) :
    ∃ x', CtxExt x x' ∧ ARep x' (.ptr σ.length 0 0) (.pointer (some ⟨w.heap.size, 0, none⟩)) ∧ Heap x' (σ ++ [.row t cells]) k.R (w.alloc (.cells us.toArray t)) ∧ Calm k.B (w.alloc (.cells us.toArray t)) ∧ Agree w (w.alloc (.cells us.toArray t)) := by
  refine ⟨x.push ⟨w.heap.size, 0, 0, true⟩, x.push_ext _, ?_, hh.new ?_, hc.alloc _, agree_alloc _ _⟩
  · refine ⟨by simp [Ctx.push, hh.n], by simp, _, rfl, fun _ => ?_⟩
    simp [Ctx.push, hh.n]
  · exact ⟨rfl, us, by simp [oneFrag], h1.ext (x.push_ext _), h2⟩

theorem do_alloc {t : TypeId} {z : List Value} (hz : ZIs P t z) (ho : o.op = .alloc t) (ht : dstOk o.dst nt = true) (hn : next (fput o.dst (.ptr σ.length 0 0) fr) (σ ++ [.row t (z.map constAV)])) : DoOp P nt o fr σ keep next := by
  refine do_value ht (fun v σ' => v = .ptr σ.length 0 0 ∧ σ' = σ ++ [.row t (z.map constAV)]) (fun v σ' ⟨a, b⟩ => a ▸ b ▸ hn) fun k x A w s => ?_
  obtain ⟨i, zv, e1, e2, e3⟩ := hz.ex
  obtain ⟨x', h1, h2, h3, h4, h5⟩ := row_new (t := t) s.heap s.calm (constL_rep x z) (fun u hu => List.all_eq_true.1 hz.one u hu)
  refine ⟨_, _, x', _, _, ?_, h1, h2, h3, h4, fun _ => h5, rfl, rfl⟩
  have e4 : zv.cells = z.toArray := by rw [← e3]
  unfold execOp
  simp [ho, Instr.alloc, zeroValue, run_typeInfo w e1, e2, newVar, newRow, e4]

theorem do_box {t : TypeId} {a : Operand} (ho : o.op = .box t a) (ht : dstOk o.dst nt = true) (h1 : oneA (aget fr a) = true) (hn : next (fput o.dst (.ptr σ.length 0 0) fr) (σ ++ [.row t (cellsA (aget fr a))])) : DoOp P nt o fr σ keep next := by
  refine do_value ht (fun v σ' => v = .ptr σ.length 0 0 ∧ σ' = σ ++ [.row t (cellsA (aget fr a))]) (fun v σ' ⟨a, b⟩ => a ▸ b ▸ hn) fun k x A w s => ?_
  obtain ⟨r1, r2⟩ := cellsA_rep (s.arg a) h1
  obtain ⟨x', h1, h2, h3, h4, h5⟩ := row_new (t := t) s.heap s.calm r1 r2
  refine ⟨_, _, x', _, _, ?_, h1, h2, h3, h4, fun _ => h5, rfl, rfl⟩
  unfold execOp
  simp [ho, Instr.box, newVar, newRow]

/-- A store into an owned row of cells. -/
theorem do_store (hT : okTab P T = true) {t sz bytes loc off : Nat} {agg : Bool} {a b : Operand} {U : TypeId} {cells : List AV} (ho : o.op = .store t a b) (hd : o.dst = none) (ht : find1 T.ty t = some (sz, bytes, agg)) (ha : aget fr a = .ptr loc 0 off) (hs : σ[loc]? = some (.row U cells))
    (h1 : oneA (aget fr b) = true) (h2 : (cellsA (aget fr b)).length = sz) (h3 : Nat.ble (off + sz) cells.length = true) (hn : next fr (σ.set loc (.row U (spliceL cells off (cellsA (aget fr b)))))) : DoOp P nt o fr σ false next := by
  refine do_skip hd hn fun k x A w s => ?_
  obtain ⟨r1, r2⟩ := cellsA_rep (s.arg b) h1
  have hr := s.arg a
  rw [ha] at hr
  obtain ⟨hl, hver, ad, e, hc⟩ := hr
  obtain ⟨g, g1, g2, g3, g4⟩ := s.heap.own
  obtain ⟨hv0, us, e1, e2, e3⟩ := g1 loc _ hs
  have had := hc hv0.symm
  subst had
  have hus := e2.len
  have hvl := r1.len
  have hle := Nat.le_of_ble_eq_true h3
  have hsz : (A.eval b).cells.size = sz := by simpa [h2] using hvl
  have hrun := run_storeCells_at P (x.env loc).blk off U (A.eval b).cells.toList 0 us.toArray w (g2 loc _ _ e1) (by simp; omega) r2
  generalize hw2 : w.setRow (x.env loc).blk (us.toArray.toList.take (off + 0) ++ (A.eval b).cells.toList ++ us.toArray.toList.drop (off + 0 + (A.eval b).cells.toList.length)).toArray = w2 at hrun
  have hnew : w2.heap[(x.env loc).blk]? = some (.cells (spliceL us off (A.eval b).cells.toList).toArray U (0, 0)) := by
    rw [← hw2, setRow_heap w _ us.toArray _ U (0, 0) (g2 loc _ _ e1)]
    simp [spliceL]
  have hx : CtxExt x (x.upd loc (x.env loc)) := Ctx.upd_ext (Nat.le_refl _) fun _ => ⟨rfl, rfl, rfl⟩
  refine ⟨w2, x.upd loc (x.env loc), ?_, hx, s.heap.upd hs hx fun g0 hg0 hle0 => ⟨⟨oneFrag (x.env loc).blk (.cells (spliceL us off (A.eval b).cells.toList).toArray U (0, 0)), ?_, ?_, ?_⟩, ?_⟩, ?_, fun h => by cases h⟩
  · unfold execOp
    simp [ho, Instr.storeAt, e, Instr.sureAddr, storeVar, (T.tyIs hT ht).size_run w, hsz, hrun]
  · refine ⟨hv0, spliceL us off (A.eval b).cells.toList, by simp [oneFrag], ?_, ?_⟩
    · refine ALRep.ext hx ?_
      unfold spliceL
      rw [← hvl]
      exact ALRep.append (ALRep.append (e2.take off) r1) (e2.drop _)
    · intro y hy
      unfold spliceL at hy
      simp only [List.mem_append] at hy
      rcases hy with (hy | hy) | hy
      · exact e3 y (List.mem_of_mem_take hy)
      · exact r2 y hy
      · exact e3 y (List.mem_of_mem_drop hy)
  · intro c ob hb
    unfold oneFrag at hb
    split at hb
    · rename_i hcb; injection hb with hb; subst hcb hb; exact hnew
    · cases hb
  · intro c hc
    left
    unfold oneFrag at hc
    split at hc
    · rename_i hcb
      subst hcb
      obtain ⟨_, us', q1, _⟩ := hg0
      rw [q1]; simp
    · exact absurd rfl hc
  · intro c hc hlt
    rw [← hw2]
    refine setRow_other w _ c _ fun q => ?_
    subst q
    obtain ⟨_, us', q1, _⟩ := hg0
    rw [hc] at q1; cases q1
  · rw [← hw2]
    exact ⟨s.calm.os, s.calm.tape, s.calm.output⟩

/-! Calls. -/
def cloOf : AV → Option (FuncId × List AV × List AV)
  | .d (.clo (.func g) fs cs) => some (g, fs.map .d, cs.map .d)
  | .clo (.func g) fs cs => some (g, fs, cs)
  | _ => none

theorem callFunc_run {g : FuncId} (hg : isGo P g = true) (args : Array Value) (w : World) : (callFunc g args).run P w = .ok (.enter g args) w := by
  unfold isGo at hg
  cases h : P.funcs[g]? with
  | none => rw [h] at hg; cases hg
  | some fn =>
    rw [h] at hg
    simp only [Bool.and_eq_true, bne_iff_ne, ne_eq] at hg
    cases hb : fn.body with
    | none => rw [hb] at hg; cases hg.2
    | some c =>
      unfold callFunc
      simp [h, hg.1, hb]

theorem call_run {g : FuncId} {fs cs : List AV} {f : Operand} {args : Array Operand} {tys : Array TypeId} {k : K0} {x : Ctx} {A : Act} {w : World} (s : Sim k x nt fr σ A w) (hg : isGo P g = true) (ho : o.op = .call { callee := .value f, args := args, argTypes := tys })
    (hf : cloOf (aget fr f) = some (g, fs, cs)) : ∃ vs : List Value, (execOp A.eval o).run P w = .ok (.enter g vs.toArray) w ∧ ALRep x (fs ++ args.toList.map (aget fr) ++ cs) vs := by
  have h1 : ∃ us ws : List Value, A.eval f = .func (.func g) us.toArray ws.toArray ∧ ALRep x fs us ∧ ALRep x cs ws := by
    have r := s.arg f
    generalize aget fr f = y at *
    unfold cloOf at hf
    split at hf
    · obtain ⟨us, ws, e, a, b⟩ := r
      cases hf
      exact ⟨us, ws, e, .ofD a, .ofD b⟩
    · obtain ⟨us, ws, e, a, b⟩ := r
      cases hf
      exact ⟨us, ws, e, a, b⟩
    · cases hf
  obtain ⟨us, ws, e, a, b⟩ := h1
  refine ⟨us ++ args.toList.map A.eval ++ ws, ?_, ALRep.append (ALRep.append a (aget_map s args.toList)) b⟩
  have hm : args.map A.eval = (args.toList.map A.eval).toArray := by apply Array.ext'; simp
  unfold execOp
  simp [ho, resolve, e, Deferred.ofValue, invoke, callFunc_run hg, hm]

theorem do_callS {g : FuncId} {fs cs : List AV} {f : Operand} {args : Array Operand} {tys : Array TypeId} {post : AV → List AObj → Prop} (ho : o.op = .call { callee := .value f, args := args, argTypes := tys })
    (hf : cloOf (aget fr f) = some (g, fs, cs)) (ht : dstOk o.dst nt = true) (hr : Runs P g (fs ++ args.toList.map (aget fr) ++ cs) σ post) (hn : ∀ v σ', post v σ' → next (fput o.dst v fr) σ') : DoOp P nt o fr σ false next := by
  intro k x A w Q s
  obtain ⟨vs, h1, h2⟩ := call_run s hr.1 ho hf
  unfold Oper.wp
  rw [h1, Oper.upon_enter]
  refine Calls.mono (hr.2 k.B k.R x w vs h2 s.heap s.calm) fun e w' ⟨u, v, x', σ', e1, e2, e3, e4, e5, e6⟩ => ?_
  subst e1
  exact ⟨(fun h => by cases h), x', _, σ', e2, (s.to e2 e4 e5).put ht e3, hn v σ' e6⟩

theorem Heap.callP {x : Ctx} {R : Frag} {w w' : World} (h : Heap x σ R w) {F' : Frag} (h1 : Le x.F F') (h2 : Le F' (fun b => w'.heap[b]?)) (h3 : Agree w w') (h4 : ∀ b, x.F b = none → b < w.heap.size → F' b = none) : Heap (x.frz F') σ R w' := by
  obtain ⟨g, g1, g2, g3, g4⟩ := h.own
  have dis : ∀ k : Frag, Disj k x.F → Le k (fun b => w.heap[b]?) → Disj k F' := fun k dk hk b => by
    cases hb : k b with
    | none => exact .inl rfl
    | some ob =>
      right
      refine h4 b ?_ (heap_lt hk hb)
      exact (dk b).resolve_left (by rw [hb]; simp)
  refine ⟨h2, h.hR.agree h3, h.n, (dis _ h.FR.symm h.hR).symm, g, fun l ob hl => (g1 l ob hl).ext (Ctx.frz_ext h1), fun l => (g2 l).agree h3, g3, fun l => ⟨dis _ (g4 l).1 (g2 l), (g4 l).2⟩⟩

theorem do_callP {g : FuncId} {fs cs : List AV} {ds : List DV} {f : Operand} {args : Array Operand} {tys : Array TypeId} {post : DV → Prop} (ho : o.op = .call { callee := .value f, args := args, argTypes := tys })
    (hf : cloOf (aget fr f) = some (g, fs, cs)) (ht : dstOk o.dst nt = true) (hd : allD (fs ++ args.toList.map (aget fr) ++ cs) = some ds) (hr : RunsP P g ds post) (hn : ∀ v, post v → next (fput o.dst (.d v) fr) σ) : DoOp P nt o fr σ keep next := by
  intro k x A w Q s
  obtain ⟨vs, h1, h2⟩ := call_run s hr.1 ho hf
  rw [allD_map hd] at h2
  unfold Oper.wp
  rw [h1, Oper.upon_enter]
  refine Calls.mono (hr.2 k.B x.F w vs h2.toD s.heap.hF s.calm) fun e w' ⟨u, v, F', e1, e2, e3, e4, e5, e6, e7, e8⟩ => ?_
  subst e1
  have hx : CtxExt x (x.frz F') := Ctx.frz_ext e2
  exact ⟨fun _ => e5, _, _, σ, hx, (s.to hx (s.heap.callP e2 e4 e5 e6) e7).put (v := .d v) ht e3, hn v e8⟩
end
end Go.Proofs.Ytciciaikajdenaa

/- Slices that are written out, made, appended to; what is frozen. -/
namespace Go.Proofs.Ytciciaikajdenaa
open Go.RowKit

section
variable {P : Program} {T : Tab} {nt : Nat} {fr : Fr} {σ : List AObj} {o : Oper} {next : Fr → List AObj → Prop} {keep : Bool}

theorem LRep.len {F : Frag} : ∀ {ds : List DV} {us : List Value}, LRep F ds us → us.length = ds.length
  | [], _, h => by rw [h]; rfl
  | _ :: _, _, ⟨u, us', e, r, q⟩ => by rw [e]; simp [LRep.len q]

theorem FRep.len {F : Frag} {sz : Nat} : ∀ {rs : List (List DV)} {us : List Value}, FRep F sz rs us → us.length = rs.length * sz
  | [], _, h => by rw [h]; simp
  | r :: rs, _, ⟨u, us', e, hl, l, q⟩ => by rw [e]; simp [FRep.len q, LRep.len l, hl, Nat.add_mul]; omega

theorem FRep.append {F : Frag} {sz : Nat} : ∀ {a b : List (List DV)} {us vs : List Value}, FRep F sz a us → FRep F sz b vs → FRep F sz (a ++ b) (us ++ vs)
  | [], _, _, _, h, k => by rw [h]; exact k
  | _ :: _, _, _, _, ⟨u, us', e, hl, l, q⟩, k => by rw [e]; exact ⟨u, us' ++ _, by simp, hl, l, FRep.append q k⟩

/-- Cells that stand in a frozen row, as rows. -/
theorem CRep.of_list {F : Frag} : ∀ {ds : List DV} {us : List Value} {b off : Nat}, LRep F ds us → (∀ u ∈ us, u.oneCell' = true) → (∀ j u, us[j]? = some u → fcell F b (off + j) = some u) → CRep F ds b off
  | [], _, _, _, _, _, _ => trivial
  | d :: ds, _, b, off, ⟨u, us', e, r, q⟩, h1, hc => by
    subst e
    refine ⟨⟨u, hc 0 u rfl, h1 u (by simp), r⟩, CRep.of_list q (fun v hv => h1 v (by simp [hv])) fun j v hj => ?_⟩
    have := hc (j + 1) v (by simpa using hj)
    rw [show off + 1 + j = off + (j + 1) by omega]; exact this

theorem RRep.of_flat {F : Frag} {sz : Nat} : ∀ {rs : List (List DV)} {us : List Value} {b off : Nat}, FRep F sz rs us → (∀ u ∈ us, u.oneCell' = true) → (∀ j u, us[j]? = some u → fcell F b (off + j) = some u) → RRep F sz rs b off
  | [], _, _, _, _, _, _ => trivial
  | r :: rs, _, b, off, ⟨u, us', e, hl, l, q⟩, h1, hc => by
    subst e
    have hu : u.length = sz := by rw [l.len, hl]
    refine ⟨hl, CRep.of_list l (fun v hv => h1 v (by simp [hv])) (fun j v hj => hc j v (by
      rw [List.getElem?_append_left (List.getElem?_eq_some_iff.1 hj).1]; exact hj)), RRep.of_flat q (fun v hv => h1 v (by simp [hv])) fun j v hj => ?_⟩
    have := hc (u.length + j) v (by rw [List.getElem?_append_right (by omega)]; simpa using hj)
    rw [hu] at this
    rw [show off + sz + j = off + (sz + j) by omega]; exact this

theorem RRep.flat {F : Frag} {sz : Nat} : ∀ {rs : List (List DV)} {b off : Nat}, RRep F sz rs b off → ∃ us, FRep F sz rs us ∧ (∀ u ∈ us, u.oneCell' = true) ∧ ∀ j u, us[j]? = some u → fcell F b (off + j) = some u
  | [], _, _, _ => ⟨[], rfl, by simp, by simp⟩
  | r :: rs, b, off, ⟨hl, hc, h⟩ => by
    obtain ⟨u, e, l, o1, g1⟩ := hc.list
    obtain ⟨us, q, o2, g2⟩ := RRep.flat h
    refine ⟨u ++ us, ⟨u, us, rfl, hl, l, q⟩, fun v hv => ?_, fun j v hj => ?_⟩
    · rcases List.mem_append.1 hv with hv | hv
      · exact o1 v hv
      · exact o2 v hv
    · by_cases hlt : j < u.length
      · rw [List.getElem?_append_left hlt] at hj; exact g1 j v hj
      · rw [List.getElem?_append_right (by omega)] at hj
        have := g2 _ _ hj
        rw [show off + sz + (j - u.length) = off + j by omega] at this
        exact this

/-! Slices that are written out: frozen at once. -/
def litRows (sz : Nat) : List (Nat × AV) → Nat → Option (List (List DV))
  | [], _ => some []
  | (j, v) :: l, i => match allD (cellsA v), litRows sz l (i + 1) with
    | some ds, some rs => bif Nat.beq j i && Nat.beq ds.length sz && oneA v then some (ds :: rs) else none
    | _, _ => none

theorem fill_lit {x : Ctx} (sz : Nat) : ∀ (parts : List (Nat × AV)) (vals : List (Nat × Value)) (i : Nat) (rows : List (List DV)) (pre rest : List Value),
    parts.length = vals.length → (∀ (j : Nat) p q, parts[j]? = some p → vals[j]? = some q → p.1 = q.1 ∧ ARep x p.2 q.2) → litRows sz parts i = some rows → pre.length = i * sz → rest.length = parts.length * sz →
    ∃ us, Instr.fill (fun i => some (i * sz, sz)) (pre ++ rest).toArray vals = some (pre ++ us).toArray ∧ FRep x.F sz rows us ∧ ∀ u ∈ us, u.oneCell' = true
  | [], [], i, rows, pre, rest, _, _, h, h1, h2 => by
    cases h
    have : rest = [] := List.eq_nil_of_length_eq_zero (by simpa using h2)
    subst this
    exact ⟨[], rfl, rfl, by simp⟩
  | (j, v) :: parts, (j', u) :: vals, i, rows, pre, rest, hl, hpq, h, h1, h2 => by
    obtain ⟨e, r⟩ := hpq 0 _ _ rfl rfl
    simp only at e r
    subst e
    unfold litRows at h
    split at h
    · rename_i ds rs hd hrs
      cases hc : (Nat.beq j i && Nat.beq ds.length sz && oneA v) with
      | false => rw [hc] at h; cases h
      | true =>
        rw [hc] at h
        simp only [cond_true, Option.some.injEq] at h
        subst h
        simp only [Bool.and_eq_true] at hc
        obtain ⟨⟨c1, c2⟩, c3⟩ := hc
        have c1 := Nat.eq_of_beq_eq_true c1
        have c2 := Nat.eq_of_beq_eq_true c2
        subst c1
        obtain ⟨r1, r2⟩ := cellsA_rep r c3
        rw [allD_map hd] at r1
        have r1 := r1.toD
        have hsz : u.cells.size = sz := by have := r1.len; simp at this; omega
        simp only [List.length_cons, Nat.add_mul, Nat.one_mul] at h2
        have h3 : (pre ++ rest).toArray.toList = pre ++ rest := by simp
        rw [fill_one (fun i => some (i * sz, sz)) (pre ++ rest).toArray j u vals rfl hsz (by simp; omega), h3]
        have hs : spliceL (pre ++ rest) (j * sz) u.cells.toList = (pre ++ u.cells.toList) ++ rest.drop sz := by
          unfold spliceL
          rw [← h1, List.take_left, List.drop_length_add_append]
          simp [hsz]
        rw [hs]
        obtain ⟨us, q1, q2, q3⟩ := fill_lit sz parts vals (j + 1) rs (pre ++ u.cells.toList) (rest.drop sz) (by simpa using hl) (fun i p q hp hq => hpq (i + 1) p q hp hq) hrs (by simp [h1, hsz, Nat.add_mul]) (by simp; omega)
        refine ⟨u.cells.toList ++ us, by rw [q1]; simp, ⟨_, us, rfl, c2, r1, q2⟩, fun y hy => ?_⟩
        rcases List.mem_append.1 hy with hy | hy
        · exact r2 y hy
        · exact q3 y hy
    · cases h

theorem frz_new {x : Ctx} {R : Frag} {w : World} (h : Heap x σ R w) (ob : Obj) : Heap (x.frz (Un x.F (oneFrag w.heap.size ob))) σ R (w.alloc ob) := by
  refine h.callP (Le.un_left _ _) ?_ (agree_alloc w ob) fun b hb hlt => ?_
  · refine Le.un (h.hF.agree (agree_alloc w ob)) fun b o' e => ?_
    simp only [oneFrag] at e
    split at e
    · rename_i hb; injection e with e; subst hb e; exact heap_alloc_new w ob
    · cases e
  · simp only [Un, hb, oneFrag]
    rw [if_neg (by omega)]

theorem lst_new {x : Ctx} {R : Frag} {w : World} (h : Heap x σ R w) {t : TypeId} {sz : Nat} {rows : List (List DV)} {us : List Value} (h1 : FRep x.F sz rows us) (h2 : ∀ u ∈ us, u.oneCell' = true) (cap : Nat) (hc : rows.length ≤ cap) :
    DRep (Un x.F (oneFrag w.heap.size (.cells us.toArray t))) (.lst sz rows) (.slice (some ⟨w.heap.size, 0, none⟩) rows.length cap) := by
  refine ⟨_, _, rfl, hc, .inr ⟨_, _, rfl, RRep.of_flat (h1.mono (Le.un_left _ _)) h2 fun j u hj => ?_⟩⟩
  have hn : x.F w.heap.size = none := by
    cases hb : x.F w.heap.size with
    | none => rfl
    | some ob => have := heap_lt h.hF hb; omega
  simp [fcell, Un, hn, oneFrag, hj]

theorem do_lit (hT : okTab P T = true) {t e sz bytes len : Nat} {agg : Bool} {parts : Array (Nat × Operand)} {rows : List (List DV)} (ho : o.op = .buildSlice t len parts) (ht : dstOk o.dst nt = true) (hs : find1 T.sl t = some e) (he : find1 T.ty e = some (sz, bytes, agg)) {z : List Value} (hz : ZIs P e z)
    (hr : litRows sz (parts.toList.map fun p => (p.1, aget fr p.2)) 0 = some rows) (hl : Nat.beq parts.size len = true) (hb : Nat.ble (len * sz) 16777216 = true) (hn : next (fput o.dst (.d (.lst sz rows)) fr) σ) : DoOp P nt o fr σ keep next := by
  refine do_value ht (fun v σ' => v = .d (.lst sz rows) ∧ σ' = σ) (fun v σ' ⟨a, b⟩ => a ▸ b ▸ hn) fun k x A w s => ?_
  obtain ⟨i, zv, e1, e2, e3⟩ := hz.ex
  have hl := Nat.eq_of_beq_eq_true hl
  have hb := Nat.le_of_ble_eq_true hb
  have hrl : ∀ (l : List (Nat × AV)) (i : Nat) (rs : List (List DV)), litRows sz l i = some rs → rs.length = l.length := fun l => by
    induction l with
    | nil => intro i rs h; cases h; rfl
    | cons p l ih =>
      intro i rs h
      unfold litRows at h
      split at h
      · rename_i ds rs' _ hrs
        cases hc : (Nat.beq p.1 i && Nat.beq ds.length sz && oneA p.2) <;> rw [hc] at h <;> cases h
        simp [ih _ _ hrs]
      · cases h
  have hlen := hrl _ _ _ hr
  simp only [List.length_map, Array.length_toList] at hlen
  have hsz := (T.tyIs hT he).size_run w
  generalize hza : ((Array.range (len * sz)).map fun j => (if len * sz = 0 then (#[] : Array Value) else zv.cells)[j % (if len * sz = 0 then (#[] : Array Value) else zv.cells).size]!) = za
  have hzs : za.toList.length = parts.toList.length * sz := by rw [← hza]; simp [hl]
  obtain ⟨us, q1, q2, q3⟩ := fill_lit (x := x) sz (parts.toList.map fun p => (p.1, aget fr p.2)) (parts.toList.map fun p => (p.1, A.eval p.2)) 0 rows [] za.toList (by simp) (fun j p q hp hq => by
    simp only [List.getElem?_map, Option.map_eq_some_iff] at hp hq
    obtain ⟨y, hy, rfl⟩ := hp
    obtain ⟨y', hy', rfl⟩ := hq
    rw [hy] at hy'
    injection hy' with hy'
    subst hy'
    exact ⟨rfl, s.arg y.2⟩) hr (by simp) (by simpa using hzs)
  simp only [List.nil_append, Array.toArray_toList] at q1
  refine ⟨.slice (some ⟨w.heap.size, 0, none⟩) rows.length rows.length, w.alloc (.cells us.toArray e), x.frz (Un x.F (oneFrag w.heap.size (.cells us.toArray e))), .d (.lst sz rows), _, ?_, Ctx.frz_ext (Le.un_left _ _), lst_new s.heap q2 q3 _ (Nat.le_refl _), frz_new s.heap _, s.calm.alloc _, fun _ => agree_alloc _ _, rfl, rfl⟩
  unfold execOp
  have hm : (parts.map fun p => (p.1, A.eval p.2)).toList = parts.toList.map fun p => (p.1, A.eval p.2) := by simp
  have hnot : ¬ (16777216 < len * sz) := by omega
  simp only [ho, Instr.buildSlice, Sem.run_bind, run_underlying (T.slIs hT hs), Result.andThen_ok, hsz]
  by_cases h0 : len * sz = 0
  · rw [if_pos h0] at hza
    simp [hnot, h0, hm] at q1 hza ⊢
    subst hza
    simp [q1, newRow, hlen, hl]
  · rw [if_neg h0] at hza
    simp [hnot, h0, hm, zeroValue, run_typeInfo w e1, e2] at q1 hza ⊢
    rw [hza]
    simp [q1, newRow, hlen, hl]
end
end Go.Proofs.Ytciciaikajdenaa

/- append to an owned slice; ghost steps: what becomes frozen, what is adopted. -/
namespace Go.Proofs.Ytciciaikajdenaa
open Go.RowKit

section
variable {P : Program} {T : Tab} {nt : Nat} {fr : Fr} {σ : List AObj} {o : Oper} {next : Fr → List AObj → Prop} {keep : Bool}

def slotOf (v : Value) (ver : Nat) : Slot := match v with
  | .slice (some a) _ cap => if cap = 0 then ⟨0, 0, ver, false⟩ else ⟨a.block, cap, ver, true⟩
  | _ => ⟨0, 0, ver, false⟩

/-- An owned slice's fragment, as the separation logic has it. -/
theorem arr_own {x : Ctx} {U : TypeId} {sz ver n loc : Nat} {rows : List (List DV)} {g : Frag} {v : Value} (ho : ORep x (x.env loc) (.arr U sz ver rows) g) (hn : n = rows.length) (ha : ARep x (.own loc ver sz 0 n) v) :
    ∃ us, FRep x.F sz rows us ∧ (∀ u ∈ us, u.oneCell' = true) ∧ ownS U sz v n us g := by
  obtain ⟨hv, ho⟩ := ho
  obtain ⟨hl, _, a, cap, e, hq⟩ := ha
  obtain ⟨q1, q2, q3⟩ := hq hv.symm
  subst e hn
  rcases ho with ⟨hlive, rfl⟩ | ⟨hlive, us, rest, hb, hf, h1, hc1, hc2, hc3⟩
  · refine ⟨[], rfl, by simp, by simp, .inl ⟨⟨a, ?_⟩, rfl⟩⟩
    rw [q3 hlive]; rfl
  · obtain ⟨rfl, hcap⟩ := q2 hlive
    have hus := hf.len
    refine ⟨us, hf, h1, hus, .inr ⟨(x.env loc).blk, cap, rest, by simp, q1, Nat.le_trans (by omega) hc2, ?_, hb⟩⟩
    exact Nat.le_trans (Nat.mul_le_mul_right sz (by omega)) hc3

theorem own_arr {x : Ctx} {U : TypeId} {sz ver n : Nat} {rows : List (List DV)} {us : List Value} {g : Frag} {v : Value} (hf : FRep x.F sz rows us) (h1 : ∀ u ∈ us, u.oneCell' = true) (hn : n = rows.length) (ho : ownS U sz v n us g) :
    ORep x (slotOf v ver) (.arr U sz ver rows) g ∧ ∃ a cap, v = .slice a n cap ∧ n ≤ cap ∧ ((slotOf v ver).live = true → a = some ⟨(slotOf v ver).blk, 0, none⟩ ∧ cap = (slotOf v ver).cap) ∧ ((slotOf v ver).live = false → cap = 0) ∧ (slotOf v ver).ver = ver := by
  obtain ⟨hl, ho⟩ := ho
  subst hn
  rcases ho with ⟨⟨a, rfl⟩, h0⟩ | ⟨b, cap, rest, rfl, hc1, hc2, hc3, hb⟩
  · have hr : rows = [] := List.eq_nil_of_length_eq_zero h0
    subst hr
    have hs : slotOf (.slice a 0 0) ver = ⟨0, 0, ver, false⟩ := by cases a <;> simp [slotOf]
    rw [hs]
    exact ⟨⟨rfl, .inl ⟨rfl, rfl⟩⟩, a, 0, rfl, Nat.le_refl _, (fun h => by cases h), (fun _ => rfl), rfl⟩
  · by_cases hc : cap = 0
    · have hs : slotOf (.slice (some ⟨b, 0, none⟩) rows.length cap) ver = ⟨0, 0, ver, false⟩ := by simp [slotOf, hc]
      have hr : rows = [] := List.eq_nil_of_length_eq_zero (by omega)
      rw [hs]
      exact ⟨⟨rfl, .inl ⟨rfl, hr⟩⟩, _, cap, rfl, hc1, (fun h => by cases h), (fun _ => hc), rfl⟩
    · have hs : slotOf (.slice (some ⟨b, 0, none⟩) rows.length cap) ver = ⟨b, cap, ver, true⟩ := by simp [slotOf, hc]
      rw [hs]
      exact ⟨⟨rfl, .inr ⟨rfl, us, rest, hb, hf, h1, hc1, hc2, hc3⟩⟩, _, cap, rfl, hc1, (fun _ => ⟨rfl, rfl⟩), (fun h => by cases h), rfl⟩

/-- What is appended: frozen rows. -/
def srcRows (sz : Nat) : AV → Option (List (List DV))
  | .d (.lst s rows) => bif Nat.beq s sz then some rows else none
  | .d .nil => some []
  | _ => none

theorem src_rd {x : Ctx} {v : AV} {u : Value} {w : World} {sz : Nat} {rows : List (List DV)} (hF : Le x.F (fun b => w.heap[b]?)) (h : ARep x v u) (hs : srcRows sz v = some rows) :
    ∃ us, rd w sz u rows.length us ∧ FRep x.F sz rows us ∧ ∀ y ∈ us, y.oneCell' = true := by
  unfold srcRows at hs
  split at hs
  · rename_i s rows'
    cases hq : Nat.beq s sz with
    | false => rw [hq] at hs; cases hs
    | true =>
      rw [hq] at hs
      have hq := Nat.eq_of_beq_eq_true hq
      subst hq
      injection hs with hs
      subst hs
      obtain ⟨a, cap, e, hc, hr⟩ := h
      subst e
      rcases hr with rfl | ⟨b, off, rfl, hr⟩
      · exact ⟨[], ⟨by simp, .inl ⟨⟨_, _, rfl⟩, rfl⟩⟩, rfl, by simp⟩
      · obtain ⟨us, h1, h2, h3⟩ := hr.flat
        refine ⟨us, ⟨h1.len, .inr ⟨b, off, cap, rfl, hc, fun hp => ?_, fun j u hj => fcell_cell hF (h3 j u hj)⟩⟩, h1, h2⟩
        have := fcell_cell hF (h3 0 us[0] (by rw [List.getElem?_eq_getElem hp]))
        unfold World.cell? at this
        split at this
        · rename_i hh; exact (Array.getElem?_eq_some_iff.1 hh).1
        · cases this
  · injection hs with hs
    subst hs
    obtain ⟨a, e⟩ := h
    subst e
    exact ⟨[], ⟨by simp, .inl ⟨⟨_, _, rfl⟩, rfl⟩⟩, rfl, by simp⟩
  · cases hs

/-! What becomes frozen. -/

/-- A view of an owned object as frozen data. -/
def asD (σ : List AObj) : AV → Nat → DV → Prop
  | .own loc ver sz off len, l, d => loc = l ∧ ∃ U rows, σ[l]? = some (.arr U sz ver rows) ∧ d = .lst sz ((rows.drop off).take len) ∧ off + len ≤ rows.length
  | .ptr loc ver off, l, d => loc = l ∧ ver = 0 ∧ ∃ U cells ds, σ[l]? = some (.row U cells) ∧ allD cells = some ds ∧ d = .fptr (ds.drop off)
  | _, _, _ => False

theorem FRep.drop {F : Frag} {sz : Nat} : ∀ {rs : List (List DV)} {us : List Value} (n : Nat), FRep F sz rs us → FRep F sz (rs.drop n) (us.drop (n * sz))
  | _, _, 0, h => by simpa using h
  | [], _, n + 1, h => by rw [h]; simp [FRep]
  | r :: rs, _, n + 1, ⟨u, us', e, hl, l, q⟩ => by
    subst e
    have hu : u.length = sz := by rw [l.len, hl]
    rw [show (n + 1) * sz = u.length + n * sz by rw [Nat.add_mul, hu]; omega, List.drop_length_add_append]
    exact FRep.drop n q
theorem FRep.take {F : Frag} {sz : Nat} : ∀ {rs : List (List DV)} {us : List Value} (n : Nat), FRep F sz rs us → FRep F sz (rs.take n) (us.take (n * sz))
  | _, _, 0, h => by simp [FRep]
  | [], _, n + 1, h => by rw [h]; simp [FRep]
  | r :: rs, _, n + 1, ⟨u, us', e, hl, l, q⟩ => by
    subst e
    have hu : u.length = sz := by rw [l.len, hl]
    refine ⟨u, us'.take (n * sz), ?_, hl, l, FRep.take n q⟩
    rw [show (n + 1) * sz = u.length + n * sz by rw [Nat.add_mul, hu]; omega, List.take_length_add_append]

theorem asD_rep {x : Ctx} {v : AV} {u : Value} {l : Nat} {d : DV} {ob : AObj} {f : Frag} (hv : ARep x v u) (ha : asD σ v l d) (hl : σ[l]? = some ob) (ho : ORep x (x.env l) ob f) (hd : Disj f x.F) : DRep (Un x.F f) d u := by
  have hc : ∀ {b off : Nat} {T : TypeId} {cs : List Value}, f b = some (.cells cs.toArray T (0, 0)) → ∀ j y, (cs.drop off)[j]? = some y → fcell (Un x.F f) b (off + j) = some y := fun {b off T cs} hb j y hj => by
    have hn : x.F b = none := (hd b).resolve_left (by rw [hb]; simp)
    simp only [fcell, Un, hn, hb]
    simpa [List.getElem?_drop] using hj
  cases v with
  | own loc ver sz off len =>
    obtain ⟨rfl, U, rows, hs, rfl, hle⟩ := ha
    rw [hl] at hs
    injection hs with hs
    subst hs
    obtain ⟨hv1, hor⟩ := ho
    obtain ⟨_, _, a, cap, e, hq⟩ := hv
    obtain ⟨q1, q2, q3⟩ := hq hv1.symm
    subst e
    have hlen : ((rows.drop off).take len).length = len := by simp; omega
    rcases hor with ⟨hlive, rfl⟩ | ⟨hlive, us, rest, hb, hf, h1, _⟩
    · have h0 : len = 0 := by simpa using hlen.symm
      subst h0
      exact ⟨a, cap, by simp, by simp, .inl (by simp)⟩
    · obtain ⟨rfl, hcap⟩ := q2 hlive
      refine ⟨_, cap, by rw [hlen], by rw [hlen]; exact q1, .inr ⟨_, _, rfl, ?_⟩⟩
      have hf2 := ((hf.drop off).take len).mono (Le.un_left x.F f)
      refine RRep.of_flat hf2 (fun y hy => h1 y (List.mem_of_mem_drop (List.mem_of_mem_take hy))) fun j y hj => ?_
      refine hc hb j y ?_
      rw [List.getElem?_take] at hj
      split at hj
      · rw [List.getElem?_drop] at hj ⊢
        have hlt := (List.getElem?_eq_some_iff.1 hj).1
        rw [List.getElem?_append_left hlt]; exact hj
      · cases hj
  | ptr loc ver off =>
    obtain ⟨rfl, rfl, U, cells, ds, hs, hds, rfl⟩ := ha
    rw [hl] at hs
    injection hs with hs
    subst hs
    obtain ⟨hv1, us, hb, hr, h1⟩ := ho
    obtain ⟨_, _, a, e, hq⟩ := hv
    have := hq hv1.symm
    subst this e
    rw [allD_map hds] at hr
    have hr := hr.toD
    refine ⟨_, _, rfl, ?_⟩
    have hd2 : LRep (Un x.F f) (ds.drop off) (us.drop off) := by
      have : ∀ (n : Nat) {ds : List DV} {us : List Value}, LRep x.F ds us → LRep x.F (ds.drop n) (us.drop n) := fun n => by
        induction n with
        | zero => intro ds us h; exact h
        | succ n ih =>
          intro ds us h
          cases ds with
          | nil => rw [h]; simp [LRep]
          | cons d ds => obtain ⟨u, us', e, _, q⟩ := h; subst e; exact ih q
      exact (this off hr).mono (Le.un_left _ _)
    exact CRep.of_list hd2 (fun y hy => h1 y (List.mem_of_mem_drop hy)) (hc hb)
  | d _ => exact ha.elim
  | mp _ => exact ha.elim
  | agg _ => exact ha.elim
  | tup _ => exact ha.elim
  | clo _ _ _ => exact ha.elim
  | any => exact ha.elim

/-- An owned object becomes frozen: the temporaries of a list see it so. -/
theorem ghost_freeze {ts : List (Nat × DV)} {l : Nat} {ob : AObj} (hl : σ[l]? = some ob) (h : ∀ p ∈ ts, asD σ (fget fr p.1) l p.2) : Ghost fr σ (ts.map (fun p => (p.1, AV.d p.2)) ++ fr) (σ.set l .dead) := by
  intro k x nt A w s
  obtain ⟨f, ho, hd, hh⟩ := s.heap.freeze hl
  have hx : CtxExt x (x.frz (Un x.F f)) := Ctx.frz_ext (Le.un_left _ _)
  refine ⟨_, hx, s.size, s.defers, ?_, hh, s.calm⟩
  clear hh
  induction ts with
  | nil => exact fun i => (s.tmps i).ext hx
  | cons p ts ih =>
    have ih := ih fun q hq => h q (by simp [hq])
    intro i
    rw [List.map_cons, List.cons_append]
    by_cases e : p.1 = i
    · subst e
      rw [fget_cons_self]
      exact asD_rep (s.tmps p.1) (h p (by simp)) hl ho hd
    · rw [fget_cons_ne _ _ e]; exact ih i

/-- A nil slice becomes an owned one. -/
theorem ghost_adopt {t : Nat} (U sz : Nat) (h : fget fr t = .d .nil) : Ghost fr σ ((t, .own σ.length 0 sz 0 0) :: fr) (σ ++ [.arr U sz 0 []]) := by
  intro k x nt A w s
  have hh := s.heap
  obtain ⟨g, g1, g2, g3, g4⟩ := hh.own
  have hx := x.push_ext ⟨0, 0, 0, false⟩
  refine ⟨_, hx, s.size, s.defers, fun i => ?_, ⟨hh.hF, hh.hR, by simp [Ctx.push, hh.n], hh.FR, fun l => if l = x.n then fun _ => none else g l, fun l o' hl => ?_, fun l => ?_, fun l k hlk => ?_, fun l => ?_⟩, s.calm⟩
  · by_cases e : t = i
    · subst e
      rw [fget_cons_self]
      have := s.tmps t
      rw [h] at this
      obtain ⟨a, ha⟩ := this
      rw [ha]
      refine ⟨by simp [Ctx.push, hh.n], by simp, a, 0, rfl, fun _ => ⟨Nat.le_refl _, fun q => ?_, fun _ => rfl⟩⟩
      simp [Ctx.push, hh.n] at q
    · rw [fget_cons_ne _ _ e]; exact (s.tmps i).ext hx
  · by_cases e : l = x.n
    · subst e
      rw [hh.n, List.getElem?_concat_length] at hl
      injection hl with hl
      subst hl
      exact ⟨by simp [Ctx.push], .inl ⟨by simp [Ctx.push], rfl⟩⟩
    · have hlt : l < σ.length := by
        have := (List.getElem?_eq_some_iff.1 hl).1
        simp at this
        have := hh.n
        omega
      rw [List.getElem?_append_left hlt] at hl
      (try dsimp only)
      rw [if_neg e]
      have : (x.push ⟨0, 0, 0, false⟩).env l = x.env l := by simp [Ctx.push, e]
      rw [this]
      exact (g1 l o' hl).ext hx
  · (try dsimp only)
    split
    · intro b o e; cases e
    · exact g2 l
  · (try dsimp only)
    split
    · exact fun b => .inl rfl
    · split
      · exact fun b => .inr rfl
      · exact g3 l k hlk
  · (try dsimp only)
    split
    · exact ⟨fun b => .inl rfl, fun b => .inl rfl⟩
    · exact g4 l
end
end Go.Proofs.Ytciciaikajdenaa

/- Tables of zeros and of structs. -/
namespace Go.Proofs.Ytciciaikajdenaa
open Go.RowKit

def sameV : Value → Value → Bool
  | .bool a, .bool b => a == b
  | .int k a, .int j b => decide (k = j) && decide (a = b)
  | .string a, .string b => decide (a.data.toList = b.data.toList)
  | .pointer none, .pointer none => true
  | .slice none a b, .slice none c d => Nat.beq a c && Nat.beq b d
  | .map none, .map none => true
  | .nilFunc, .nilFunc => true
  | .nilIface, .nilIface => true
  | _, _ => false

theorem sameV_eq : ∀ {a b : Value}, sameV a b = true → a = b := by
  intro a b h
  unfold sameV at h
  split at h
  · simp at h; subst h; rfl
  · simp at h; obtain ⟨h1, h2⟩ := h; subst h1 h2; rfl
  · simp at h
    rename_i a b
    obtain ⟨⟨a⟩⟩ := a
    obtain ⟨⟨b⟩⟩ := b
    simp at h; subst h; rfl
  · rfl
  · simp only [Bool.and_eq_true] at h; rw [Nat.eq_of_beq_eq_true h.1, Nat.eq_of_beq_eq_true h.2]
  · rfl
  · rfl
  · rfl
  · cases h

def sameL : List Value → List Value → Bool
  | [], [] => true
  | a :: l, b :: m => sameV a b && sameL l m
  | _, _ => false
theorem sameL_eq : ∀ {a b : List Value}, sameL a b = true → a = b
  | [], [], _ => rfl
  | a :: l, b :: m, h => by
    simp only [sameL, Bool.and_eq_true] at h
    rw [sameV_eq h.1, sameL_eq h.2]
  | [], _ :: _, h => by cases h
  | _ :: _, [], h => by cases h

def sameP : List (Nat × Nat) → List (Nat × Nat) → Bool
  | [], [] => true
  | a :: l, b :: m => Nat.beq a.1 b.1 && Nat.beq a.2 b.2 && sameP l m
  | _, _ => false
theorem sameP_eq : ∀ {a b : List (Nat × Nat)}, sameP a b = true → a = b
  | [], [], _ => rfl
  | (a, a') :: l, (b, b') :: m, h => by
    simp only [sameP, Bool.and_eq_true] at h
    rw [Nat.eq_of_beq_eq_true h.1.1, Nat.eq_of_beq_eq_true h.1.2, sameP_eq h.2]
  | [], _ :: _, h => by cases h
  | _ :: _, [], h => by cases h

def okZ (P : Program) (r : Nat × List Value) : Bool := match P.info? r.1 with
  | some i => match i.zero with
    | some z => sameL z.cells.toList r.2 && r.2.all (·.oneCell')
    | none => false
  | none => false

theorem zOf {P : Program} {t : Nat} {z : List Value} (h : okZ P (t, z) = true) : ZIs P t z := by
  unfold okZ at h
  simp only at h
  split at h
  · rename_i i e1
    split at h
    · rename_i zv e2
      rw [Bool.and_eq_true] at h
      exact ⟨⟨i, zv, e1, e2, sameL_eq h.1⟩, h.2⟩
    · cases h
  · cases h

def okSt (P : Program) (r : Nat × List (Nat × Nat) × List Value) : Bool := match P.underlying r.1 with
  | some (.struct fs) => okZ P (r.1, r.2.2) && (match fs.toList.mapM (fun f => (P.info? f.type).map fun i => (f.offset, i.size)) with | some pl => sameP pl r.2.1 | none => false)
  | _ => false

theorem stOf {P : Program} {t : Nat} {pl : List (Nat × Nat)} {z : List Value} (h : okSt P (t, pl, z) = true) : StIs P t pl z := by
  unfold okSt at h
  simp only at h
  split at h
  · rename_i fs e1
    rw [Bool.and_eq_true] at h
    obtain ⟨i, zv, e2, e3, e4⟩ := (zOf h.1).ex
    have h2 := h.2
    split at h2
    · rename_i pl' e5
      have := sameP_eq h2
      subst this
      exact ⟨⟨i, fs, zv, e2, e1, e3, e4, e5⟩, (zOf h.1).one⟩
    · cases h2
  · cases h

/-- The zeros, the structs. -/
structure TabZ where
  zs : List (Nat × List Value)
  st : List (Nat × List (Nat × Nat) × List Value)
def okTabZ (P : Program) (Z : TabZ) : Bool := Z.zs.all (okZ P) && Z.st.all (okSt P)

theorem TabZ.z {P : Program} {Z : TabZ} (h : okTabZ P Z = true) {t : Nat} {z : List Value} (e : find1 Z.zs t = some z) : ZIs P t z := by
  unfold okTabZ at h
  rw [Bool.and_eq_true] at h
  exact zOf (List.all_eq_true.1 h.1 _ (find1_mem e))
theorem TabZ.s {P : Program} {Z : TabZ} (h : okTabZ P Z = true) {t : Nat} {pl : List (Nat × Nat)} {z : List Value} (e : find1 Z.st t = some (pl, z)) : StIs P t pl z := by
  unfold okTabZ at h
  rw [Bool.and_eq_true] at h
  exact stOf (List.all_eq_true.1 h.2 _ (find1_mem e))

/-- The numbers from i on. -/
def upto : Nat → Nat → Trr
  | 0, _ => .nil
  | n + 1, i => .one i (upto n (i + 1))

theorem upto_range : ∀ n i, upto n i = trOf (List.range' i n)
  | 0, _ => rfl
  | n + 1, i => by rw [upto, List.range'_succ, upto_range n (i + 1)]; rfl

theorem aw_reg {P : Program} {nt : Nat} {Q : Exit → Fr → List AObj → Prop} {fr : Fr} {σ : List AObj} {ops : Array Oper} {id : Nat} (h : AL P nt ops false [] [] (upto ops.size 0) Q fr σ) : AWk P nt (.region id ops false) Q fr σ := by
  refine aw_region ?_
  rw [List.range_eq_range', ← upto_range]; exact h

end Go.Proofs.Ytciciaikajdenaa
