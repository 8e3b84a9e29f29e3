/- Tables of types; the operations that read. -/
import Derived.Test.YtlpgekodoiioaaaAm4
import Derived.IntWalk
set_option linter.unusedSimpArgs false
set_option linter.unusedVariables false
namespace Go.Proofs.Ytlpgekodoiioaaa
open Go.RowKit

/-- What is known of the types. ty: type, cells, bytes, an aggregate; fld: struct, field, offset; sl: slice type, element. -/
structure Tab where
  ty : List (Nat × Nat × Nat × Bool)
  fld : List (Nat × Nat × Nat)
  sl : List (Nat × Nat)

def okTy (P : Program) (r : Nat × Nat × Nat × Bool) : Bool := match P.info? r.1, P.underlying r.1 with
  | some i, some d => Nat.beq i.size r.2.1 && Nat.beq i.bytes r.2.2.1 && ((match d with | .struct _ | .array _ _ => true | _ => false) == r.2.2.2)
  | _, _ => false
def okFld (P : Program) (r : Nat × Nat × Nat) : Bool := match P.underlying r.1 with
  | some (.struct fs) => match fs[r.2.1]? with
    | some f => Nat.beq f.offset r.2.2 && (match P.info? f.type with | some i => !Nat.beq i.size 0 | none => false)
    | none => false
  | _ => false
def okSl (P : Program) (r : Nat × Nat) : Bool := match P.underlying r.1 with
  | some (.slice e) => Nat.beq e r.2
  | _ => false
def okTab (P : Program) (T : Tab) : Bool := T.ty.all (okTy P) && T.fld.all (okFld P) && T.sl.all (okSl P)

def find1 {α : Type} : List (Nat × α) → Nat → Option α
  | [], _ => none
  | (k, x) :: l, i => bif Nat.beq k i then some x else find1 l i
def find2 : List (Nat × Nat × Nat) → Nat → Nat → Option Nat
  | [], _, _ => none
  | (k, j, x) :: l, i, f => bif Nat.beq k i && Nat.beq j f then some x else find2 l i f

theorem find1_mem {α : Type} : ∀ {l : List (Nat × α)} {i : Nat} {x : α}, find1 l i = some x → (i, x) ∈ l
  | [], _, _, h => by cases h
  | (k, y) :: l, i, x, h => by
    unfold find1 at h
    cases e : Nat.beq k i with
    | true => rw [e] at h; injection h with h; rw [Nat.eq_of_beq_eq_true e, h]; exact List.mem_cons_self
    | false => rw [e] at h; exact List.mem_cons_of_mem _ (find1_mem h)
theorem find2_mem : ∀ {l : List (Nat × Nat × Nat)} {i f x : Nat}, find2 l i f = some x → (i, f, x) ∈ l
  | [], _, _, _, h => by cases h
  | (k, j, y) :: l, i, f, x, h => by
    unfold find2 at h
    cases e : (Nat.beq k i && Nat.beq j f) with
    | true =>
      rw [e] at h; injection h with h
      rw [Bool.and_eq_true] at e
      rw [Nat.eq_of_beq_eq_true e.1, Nat.eq_of_beq_eq_true e.2, h]; exact List.mem_cons_self
    | false => rw [e] at h; exact List.mem_cons_of_mem _ (find2_mem h)

section
variable {P : Program} {T : Tab}

structure TyIs (P : Program) (t sz bytes : Nat) (agg : Bool) : Prop where
  ex : ∃ i d, P.info? t = some i ∧ P.underlying t = some d ∧ i.size = sz ∧ i.bytes = bytes ∧ (match d with | .struct _ | .array _ _ => true | _ => false) = agg

theorem Tab.tyIs (hT : okTab P T = true) {t sz bytes : Nat} {agg : Bool} (h : find1 T.ty t = some (sz, bytes, agg)) : TyIs P t sz bytes agg := by
  unfold okTab at hT
  rw [Bool.and_eq_true, Bool.and_eq_true] at hT
  have h1 := List.all_eq_true.1 hT.1.1 _ (find1_mem h)
  unfold okTy at h1
  simp only at h1
  split at h1
  · rename_i i d e1 e2
    simp only [Bool.and_eq_true, beq_iff_eq] at h1
    exact ⟨i, d, e1, e2, Nat.eq_of_beq_eq_true h1.1.1, Nat.eq_of_beq_eq_true h1.1.2, h1.2⟩
  · cases h1

theorem Tab.fldIs (hT : okTab P T = true) {s f o : Nat} (h : find2 T.fld s f = some o) : ∃ fs fd i, P.underlying s = some (.struct fs) ∧ fs[f]? = some fd ∧ fd.offset = o ∧ P.info? fd.type = some i ∧ i.size ≠ 0 := by
  unfold okTab at hT
  rw [Bool.and_eq_true, Bool.and_eq_true] at hT
  have h1 := List.all_eq_true.1 hT.1.2 _ (find2_mem h)
  unfold okFld at h1
  simp only at h1
  split at h1
  · rename_i fs e1
    split at h1
    · rename_i fd e2
      rw [Bool.and_eq_true] at h1
      split at h1
      · rename_i i e3
        refine ⟨fs, fd, i, e1, e2, Nat.eq_of_beq_eq_true h1.1, e3, fun e => ?_⟩
        have := h1.2
        rw [e] at this
        simp at this
      · cases h1.2
    · cases h1
  · cases h1

theorem Tab.slIs (hT : okTab P T = true) {t e : Nat} (h : find1 T.sl t = some e) : P.underlying t = some (.slice e) := by
  unfold okTab at hT
  rw [Bool.and_eq_true] at hT
  have h1 := List.all_eq_true.1 hT.2 _ (find1_mem h)
  unfold okSl at h1
  simp only at h1
  split at h1
  · rename_i e' e1; rw [e1, Nat.eq_of_beq_eq_true h1]
  · cases h1

theorem TyIs.size_run {t sz bytes : Nat} {agg : Bool} (h : TyIs P t sz bytes agg) (w : World) : (sizeOf t).run P w = .ok sz w := by
  obtain ⟨i, d, e1, e2, e3, _⟩ := h.ex
  simp [sizeOf, run_typeInfo w e1, e3]
theorem TyIs.agg_run {t sz bytes : Nat} {agg : Bool} (h : TyIs P t sz bytes agg) (w : World) : (isAgg t).run P w = .ok agg w := by
  obtain ⟨i, d, e1, e2, e3, _, e4⟩ := h.ex
  unfold isAgg
  simp only [Sem.run_bind, run_underlying e2, Result.andThen_ok]
  rw [← e4]
  cases d <;> simp

variable {fr : Fr} {σ : List AObj} {o : Oper} {k : K0} {x : Ctx} {nt : Nat} {A : Act} {w : World}

theorem constAV_rep (F : Frag) : ∀ v : Value, ARep x (constAV v) v := by
  have hd : ∀ v : Value, v.oneCell' = true → DRep x.F (constDV v) v := fun v hv => by
    unfold constDV
    split
    · exact ⟨none, rfl⟩
    · exact ⟨rfl, hv⟩
  have hl : ∀ l : List Value, (∀ v ∈ l, v.oneCell' = true) → LRep x.F (l.map constDV) l := fun l => by
    induction l with
    | nil => intro _; rfl
    | cons a l ih => intro h; exact ⟨a, l, rfl, hd a (h a (by simp)), ih fun v hv => h v (by simp [hv])⟩
  intro v
  unfold constAV
  split
  · exact ⟨none, rfl⟩
  · rename_i cs
    cases hq : cs.toList.all (·.oneCell') with
    | true =>
      have h := List.all_eq_true.1 hq
      exact ⟨cs.toList, by simp, hl _ (fun v hv => h v hv), fun v hv => h v hv⟩
    | false => exact trivial
  · exact trivial
  · rename_i h1 h2 h3
    refine ⟨rfl, ?_⟩
    cases v <;> first | rfl | exact absurd rfl (h2 _) | exact absurd rfl (h3 _)

theorem Sim.arg (s : Sim k x nt fr σ A w) (a : Operand) : ARep x (aget fr a) (A.eval a) := by
  cases a with
  | tmp t => exact s.tmps t
  | const v => exact constAV_rep x.F v
  | global g => exact trivial
  | func f => exact ⟨[], [], rfl, rfl, rfl⟩

theorem rd_move {a : Operand} (ho : o.op = .move a ∨ o.op = .assign a) : RdOp P o fr σ (aget fr a) := by
  intro k x nt A w s
  refine ⟨A.eval a, s.arg a, fun w' _ => ?_⟩
  rcases ho with h | h <;> simp [execOp, h]

theorem rd_pick_t {c a b : Operand} (ho : o.op = .pick c a b) (hc : aget fr c = .d (.v (.bool true))) : RdOp P o fr σ (aget fr a) := by
  intro k x nt A w s
  have h := s.arg c
  rw [hc] at h
  refine ⟨A.eval a, s.arg a, fun w' _ => ?_⟩
  simp [execOp, ho, h.1, asBool]
theorem rd_pick_f {c a b : Operand} (ho : o.op = .pick c a b) (hc : aget fr c = .d (.v (.bool false))) : RdOp P o fr σ (aget fr b) := by
  intro k x nt A w s
  have h := s.arg c
  rw [hc] at h
  refine ⟨A.eval b, s.arg b, fun w' _ => ?_⟩
  simp [execOp, ho, h.1, asBool]

theorem CRep.drop {F : Frag} : ∀ {ds : List DV} {b off : Nat} (n : Nat), CRep F ds b off → CRep F (ds.drop n) b (off + n)
  | _, _, _, 0, h => h
  | [], _, _, _ + 1, _ => trivial
  | d :: ds, b, off, n + 1, ⟨_, h⟩ => by
    have := CRep.drop n h
    rw [show off + 1 + n = off + (n + 1) by omega] at this
    exact this

theorem CRep.get {F : Frag} : ∀ {ds : List DV} {b off n : Nat} {d : DV}, CRep F ds b off → ds[n]? = some d → ∃ u, fcell F b (off + n) = some u ∧ u.oneCell' = true ∧ DRep F d u
  | [], _, _, _, _, _, e => by simp at e
  | a :: ds, b, off, 0, d, h, e => by simp at e; subst e; exact h.1
  | a :: ds, b, off, n + 1, d, h, e => by
    have := CRep.get (n := n) h.2 (by simpa using e)
    rw [show off + 1 + n = off + (n + 1) by omega] at this
    exact this

theorem CRep.list {F : Frag} : ∀ {ds : List DV} {b off : Nat}, CRep F ds b off → ∃ us : List Value, us.length = ds.length ∧ LRep F ds us ∧ (∀ u ∈ us, u.oneCell' = true) ∧ ∀ j u, us[j]? = some u → fcell F b (off + j) = some u
  | [], _, _, _ => ⟨[], rfl, rfl, by simp, by simp⟩
  | d :: ds, b, off, ⟨⟨u, h1, h2, h3⟩, h⟩ => by
    obtain ⟨us, e, l, o, g⟩ := CRep.list h
    refine ⟨u :: us, by simp [e], ⟨u, us, rfl, h3, l⟩, ?_, ?_⟩
    · intro v hv
      rcases List.mem_cons.1 hv with rfl | hv
      · exact h2
      · exact o v hv
    · intro j v hj
      cases j with
      | zero => simp at hj; subst hj; exact h1
      | succ j =>
        have := g j v (by simpa using hj)
        rw [show off + 1 + j = off + (j + 1) by omega] at this
        exact this

theorem CRep.take {F : Frag} : ∀ {ds : List DV} {b off : Nat} (n : Nat), CRep F ds b off → CRep F (ds.take n) b off
  | _, _, _, 0, _ => by simp [CRep]
  | [], _, _, _ + 1, _ => by simp [CRep]
  | d :: ds, b, off, n + 1, ⟨h1, h⟩ => ⟨h1, CRep.take n h⟩

theorem fcell_cell {F : Frag} {w : World} (h : Le F (fun b => w.heap[b]?)) {b off : Nat} {u : Value} (e : fcell F b off = some u) : w.cell? ⟨b, off, none⟩ = some u := by
  unfold fcell at e
  cases hb : F b with
  | none => rw [hb] at e; cases e
  | some ob =>
    rw [hb] at e
    have := h b ob hb
    unfold World.cell?
    simp only at this
    rw [this]
    cases ob <;> first | exact e | cases e

theorem Addr.add_mk (b off j : Nat) : (⟨b, off, none⟩ : Addr).add j = ⟨b, off + j, none⟩ := addr_add b off j

theorem rd_fieldAddr_f (hT : okTab P T = true) {s f off : Nat} {a : Operand} {cells : List DV} (ho : o.op = .fieldAddr s a f) (hf : find2 T.fld s f = some off) (ha : aget fr a = .d (.fptr cells)) : RdOp P o fr σ (.d (.fptr (cells.drop off))) := by
  intro k x nt A w h
  obtain ⟨fs, fd, i, e1, e2, e3, e4, e5⟩ := T.fldIs hT hf
  have hr := h.arg a
  rw [ha] at hr
  obtain ⟨b, o0, e, hc⟩ := hr
  refine ⟨.pointer (some ⟨b, o0 + off, none⟩), ⟨b, o0 + off, rfl, hc.drop off⟩, fun w' _ => ?_⟩
  simp [execOp, ho, Instr.fieldAt, run_underlying e1, e2, e, Instr.sureAddr, fieldPlace, sizeOf, run_typeInfo w' e4, e5, e3, Addr.add_mk]

theorem rd_fieldAddr_p (hT : okTab P T = true) {s f off loc ver o0 : Nat} {a : Operand} (ho : o.op = .fieldAddr s a f) (hf : find2 T.fld s f = some off) (ha : aget fr a = .ptr loc ver o0) : RdOp P o fr σ (.ptr loc ver (o0 + off)) := by
  intro k x nt A w h
  obtain ⟨fs, fd, i, e1, e2, e3, e4, e5⟩ := T.fldIs hT hf
  have hr := h.arg a
  rw [ha] at hr
  obtain ⟨hl, hv, ad, e, hc⟩ := hr
  refine ⟨.pointer (some (ad.add off)), ⟨hl, hv, _, rfl, fun q => by rw [hc q, Addr.add_mk]⟩, fun w' _ => ?_⟩
  simp [execOp, ho, Instr.fieldAt, run_underlying e1, e2, e, Instr.sureAddr, fieldPlace, sizeOf, run_typeInfo w' e4, e5, e3]

/-- What is loaded. -/
def ldD (agg : Bool) (sz : Nat) (cells : List DV) : Option DV := bif agg then (bif Nat.ble sz cells.length then some (.agg (cells.take sz)) else none) else cells.head?

theorem loadVar_run {t sz bytes : Nat} {agg : Bool} (h : TyIs P t sz bytes agg) (w : World) (b off : Nat) (us : List Value) (hc : ∀ j u, us[j]? = some u → w.cell? ⟨b, off + j, none⟩ = some u) :
    (agg = true → us.length = sz → (loadVar t ⟨b, off, none⟩).run P w = .ok (.agg us.toArray) w) ∧ (agg = false → ∀ u, us[0]? = some u → (loadVar t ⟨b, off, none⟩).run P w = .ok u w) := by
  constructor
  · intro ha hl
    subst ha
    have := run_loadCells_list (P := P) w ⟨b, off, none⟩ us (fun j v hj => by rw [Addr.add_mk]; exact hc j v hj)
    unfold loadVar
    simp [h.agg_run, h.size_run, ← hl, this]
  · intro ha u hu
    subst ha
    have := hc 0 u hu
    unfold loadVar
    simp [h.agg_run]
    rw [show w.cell? ⟨b, off, none⟩ = some u from this]

theorem DRep.one {F : Frag} {d : DV} {u : Value} : DRep F d u → (match d with | .agg _ | .tup _ => true | _ => u.oneCell') = true := by
  intro h
  cases d with
  | v x => obtain ⟨e, o⟩ := h; subst e; exact o
  | nil => obtain ⟨a, e⟩ := h; subst e; rfl
  | lst sz rows => obtain ⟨a, c, e, _⟩ := h; subst e; rfl
  | fptr c => obtain ⟨a, c, e, _⟩ := h; subst e; rfl
  | clo f a b => obtain ⟨a, c, e, _⟩ := h; subst e; rfl
  | agg _ => rfl
  | tup _ => rfl

theorem rd_load_f (hT : okTab P T = true) {t sz bytes : Nat} {agg : Bool} {a : Operand} {cells : List DV} {v : DV} (ho : o.op = .load t a) (ht : find1 T.ty t = some (sz, bytes, agg)) (ha : aget fr a = .d (.fptr cells)) (hv : ldD agg sz cells = some v) : RdOp P o fr σ (.d v) := by
  intro k x nt A w h
  have hty := T.tyIs hT ht
  have hr := h.arg a
  rw [ha] at hr
  obtain ⟨b, o0, e, hc⟩ := hr
  unfold ldD at hv
  cases agg with
  | true =>
    simp only [cond_true] at hv
    cases hz : Nat.ble sz cells.length with
    | false => rw [hz] at hv; cases hv
    | true =>
      rw [hz] at hv
      injection hv with hv
      subst hv
      obtain ⟨us, e1, e2, e3, e4⟩ := (hc.take sz).list
      have hlen : us.length = sz := by rw [e1, List.length_take]; exact Nat.min_eq_left (Nat.le_of_ble_eq_true hz)
      refine ⟨.agg us.toArray, ⟨us, rfl, e2, e3⟩, fun w' ag => ?_⟩
      have := (loadVar_run hty w' b o0 us (fun j u hj => fcell_cell (h.heap.hF.agree ag) (e4 j u hj))).1 rfl hlen
      simp [execOp, ho, Instr.loadAt, e, Instr.sureAddr, this]
  | false =>
    simp only [cond_false] at hv
    cases cells with
    | nil => cases hv
    | cons d ds =>
      simp only [List.head?_cons, Option.some.injEq] at hv
      subst hv
      obtain ⟨⟨u, e1, e2, e3⟩, _⟩ := hc
      refine ⟨u, e3, fun w' ag => ?_⟩
      have := (loadVar_run hty w' b o0 [u] (fun j v hj => by
        cases j with
        | zero => simp at hj; subst hj; exact fcell_cell (h.heap.hF.agree ag) e1
        | succ j => simp at hj)).2 rfl u rfl
      simp [execOp, ho, Instr.loadAt, e, Instr.sureAddr, this]

/-- Frozen cells of a list. -/
def allD : List AV → Option (List DV)
  | [] => some []
  | .d x :: l => match allD l with
    | some ds => some (x :: ds)
    | none => none
  | _ :: _ => none

theorem allD_map : ∀ {l : List AV} {ds : List DV}, allD l = some ds → l = ds.map .d
  | [], ds, h => by cases h; rfl
  | .d x :: l, ds, h => by
    unfold allD at h
    split at h
    · rename_i ds' e; injection h with h; subst h; rw [allD_map e]; rfl
    · cases h
  | .own .. :: _, _, h => by cases h
  | .ptr .. :: _, _, h => by cases h
  | .mp .. :: _, _, h => by cases h
  | .agg .. :: _, _, h => by cases h
  | .tup .. :: _, _, h => by cases h
  | .clo .. :: _, _, h => by cases h
  | .any :: _, _, h => by cases h

def aggOf (l : List AV) : AV := match allD l with
  | some ds => .d (.agg ds)
  | none => .agg l

theorem ALRep.toD {x : Ctx} : ∀ {ds : List DV} {us : List Value}, ALRep x (ds.map .d) us → LRep x.F ds us
  | [], _, h => h
  | _ :: _, _, ⟨u, us', e, r, q⟩ => ⟨u, us', e, r, ALRep.toD q⟩

theorem aggOf_rep {l : List AV} {us : List Value} (h : ALRep x l us) (ho : ∀ u ∈ us, u.oneCell' = true) : ARep x (aggOf l) (.agg us.toArray) := by
  unfold aggOf
  split
  · rename_i ds e
    rw [allD_map e] at h
    exact ⟨us, rfl, h.toD, ho⟩
  · exact ⟨us, rfl, h, ho⟩

def ldA (agg : Bool) (sz : Nat) (cells : List AV) : Option AV := bif agg then (bif Nat.ble sz cells.length then some (aggOf (cells.take sz)) else none) else cells.head?

theorem ALRep.drop {x : Ctx} : ∀ {l : List AV} {us : List Value} (n : Nat), ALRep x l us → ALRep x (l.drop n) (us.drop n)
  | _, _, 0, h => h
  | [], _, n + 1, h => by rw [h]; simp [ALRep]
  | a :: l, _, n + 1, ⟨u, us', e, r, q⟩ => by rw [e]; exact ALRep.drop n q
theorem ALRep.take {x : Ctx} : ∀ {l : List AV} {us : List Value} (n : Nat), ALRep x l us → ALRep x (l.take n) (us.take n)
  | _, _, 0, h => by simp [ALRep]
  | [], _, n + 1, h => by rw [h]; simp [ALRep]
  | a :: l, _, n + 1, ⟨u, us', e, r, q⟩ => by rw [e]; exact ⟨u, us'.take n, rfl, r, ALRep.take n q⟩

theorem rd_load_p (hT : okTab P T = true) {t sz bytes U loc off : Nat} {agg : Bool} {a : Operand} {cells : List AV} {v : AV} (ho : o.op = .load t a) (ht : find1 T.ty t = some (sz, bytes, agg)) (ha : aget fr a = .ptr loc 0 off)
    (hs : σ[loc]? = some (.row U cells)) (hv : ldA agg sz (cells.drop off) = some v) : RdOp P o fr σ v := by
  intro k x nt A w h
  have hty := T.tyIs hT ht
  have hr := h.arg a
  rw [ha] at hr
  obtain ⟨hl, hver, ad, e, hc⟩ := hr
  obtain ⟨g, g1, g2, _⟩ := h.heap.own
  obtain ⟨hv0, us, e1, e2, e3⟩ := g1 loc _ hs
  have had := hc hv0.symm
  subst had
  have hcell : ∀ w', Agree w w' → ∀ j u, (us.drop off)[j]? = some u → w'.cell? ⟨(x.env loc).blk, off + j, none⟩ = some u := fun w' ag j u hj => by
    have := ag.get (g2 loc _ _ e1)
    unfold World.cell?
    rw [this]
    simpa [List.getElem?_drop] using hj
  have hrep := e2.drop off
  unfold ldA at hv
  cases agg with
  | true =>
    simp only [cond_true] at hv
    cases hz : Nat.ble sz (cells.drop off).length with
    | false => rw [hz] at hv; cases hv
    | true =>
      rw [hz] at hv
      injection hv with hv
      subst hv
      have hlen : ((us.drop off).take sz).length = sz := by
        rw [List.length_take, hrep.len]; exact Nat.min_eq_left (Nat.le_of_ble_eq_true hz)
      have one : ∀ u ∈ (us.drop off).take sz, u.oneCell' = true := fun u hu => e3 u (List.mem_of_mem_drop (List.mem_of_mem_take hu))
      refine ⟨.agg ((us.drop off).take sz).toArray, aggOf_rep (hrep.take sz) one, fun w' ag => ?_⟩
      have := (loadVar_run hty w' (x.env loc).blk off ((us.drop off).take sz) (fun j u hj => hcell w' ag j u (by
        rw [List.getElem?_take] at hj
        split at hj
        · exact hj
        · cases hj))).1 rfl hlen
      simp [execOp, ho, Instr.loadAt, e, Instr.sureAddr, this]
  | false =>
    simp only [cond_false] at hv
    generalize cells.drop off = cs at hv hrep
    generalize us.drop off = vs at hcell hrep
    cases cs with
    | nil => cases hv
    | cons d ds =>
      simp only [List.head?_cons, Option.some.injEq] at hv
      subst hv
      obtain ⟨u, vs', e5, r, _⟩ := hrep
      subst e5
      refine ⟨u, r, fun w' ag => ?_⟩
      have := (loadVar_run hty w' (x.env loc).blk off (u :: vs') (hcell w' ag)).2 rfl u rfl
      simp [execOp, ho, Instr.loadAt, e, Instr.sureAddr, this]
end
end Go.Proofs.Ytlpgekodoiioaaa
