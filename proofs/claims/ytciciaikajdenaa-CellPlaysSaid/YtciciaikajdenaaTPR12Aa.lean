/- Aa: Am1, Am2, Am3, Am4, Am5, Am6 in one. -/
import Derived.OrdersHeld
import Derived.StillTail
import Derived.RegionTactic
import Derived.Defers
import Derived.IntWalk
import Derived.Laws.Cover3
import Derived.Lib.Strings
import Derived.Test.YtciciaikajdenaaTPR12Lb
set_option linter.unusedSimpArgs false
set_option linter.unusedVariables false
/- Deep frozen data (DV), values of a frame over owned objects (AV), and what it means that the model's values stand for them. No program in sight. -/
namespace Go.Proofs.Ytciciaikajdenaa
open Go.RowKit

/-- Frozen data: what no one writes any more. -/
inductive DV where
  | v (x : Value)
  | nil
  | lst (sz : Nat) (rows : List (List DV))
  | fptr (cells : List DV)
  | agg (cells : List DV)
  | tup (vs : List DV)
  | clo (fn : Fn) (first captured : List DV)

/-- What a frame holds. -/
inductive AV where
  | d (x : DV)
  | own (loc ver sz off len : Nat)
  | ptr (loc ver off : Nat)
  | mp (loc : Nat)
  | agg (cells : List AV)
  | tup (vs : List AV)
  | clo (fn : Fn) (first captured : List AV)
  | any

def fcell (F : Frag) (b off : Nat) : Option Value := match F b with
  | some (.cells cs _ _) => cs[off]?
  | _ => none

theorem fcell_mono {F G : Frag} (h : Le F G) {b off : Nat} {u : Value} (e : fcell F b off = some u) : fcell G b off = some u := by
  unfold fcell at *
  cases hb : F b with
  | none => rw [hb] at e; cases e
  | some o => rw [h _ _ hb]; rw [hb] at e; exact e

mutual
def DRep (F : Frag) : DV → Value → Prop
  | .v x, u => u = x ∧ x.oneCell' = true
  | .nil, u => ∃ a, u = .slice a 0 0
  | .lst sz rows, u => ∃ a cap, u = .slice a rows.length cap ∧ rows.length ≤ cap ∧ (rows = [] ∨ ∃ b off, a = some ⟨b, off, none⟩ ∧ RRep F sz rows b off)
  | .fptr cells, u => ∃ b off, u = .pointer (some ⟨b, off, none⟩) ∧ CRep F cells b off
  | .agg cells, u => ∃ us, u = .agg us.toArray ∧ LRep F cells us ∧ ∀ x ∈ us, x.oneCell' = true
  | .tup vs, u => ∃ us, u = .tuple us.toArray ∧ LRep F vs us
  | .clo fn fs cs, u => ∃ us ws, u = .func fn us.toArray ws.toArray ∧ LRep F fs us ∧ LRep F cs ws
def LRep (F : Frag) : List DV → List Value → Prop
  | [], us => us = []
  | d :: ds, us => ∃ u us', us = u :: us' ∧ DRep F d u ∧ LRep F ds us'
def CRep (F : Frag) : List DV → Nat → Nat → Prop
  | [], _, _ => True
  | d :: ds, b, off => (∃ u, fcell F b off = some u ∧ u.oneCell' = true ∧ DRep F d u) ∧ CRep F ds b (off + 1)
def RRep (F : Frag) (sz : Nat) : List (List DV) → Nat → Nat → Prop
  | [], _, _ => True
  | r :: rs, b, off => r.length = sz ∧ CRep F r b off ∧ RRep F sz rs b (off + sz)
end

mutual
theorem DRep.mono {F G : Frag} (h : Le F G) : ∀ {d : DV} {u : Value}, DRep F d u → DRep G d u
  | .v _, _, r => r
  | .nil, _, r => r
  | .lst _ _, _, ⟨a, cap, e, l, q⟩ => ⟨a, cap, e, l, q.imp id fun ⟨b, off, e2, r⟩ => ⟨b, off, e2, RRep.mono h r⟩⟩
  | .fptr _, _, ⟨b, off, e, r⟩ => ⟨b, off, e, CRep.mono h r⟩
  | .agg _, _, ⟨us, e, r, o⟩ => ⟨us, e, LRep.mono h r, o⟩
  | .tup _, _, ⟨us, e, r⟩ => ⟨us, e, LRep.mono h r⟩
  | .clo _ _ _, _, ⟨us, ws, e, r, q⟩ => ⟨us, ws, e, LRep.mono h r, LRep.mono h q⟩
theorem LRep.mono {F G : Frag} (h : Le F G) : ∀ {ds : List DV} {us : List Value}, LRep F ds us → LRep G ds us
  | [], _, r => r
  | _ :: _, _, ⟨u, us', e, r, q⟩ => ⟨u, us', e, DRep.mono h r, LRep.mono h q⟩
theorem CRep.mono {F G : Frag} (h : Le F G) : ∀ {ds : List DV} {b off : Nat}, CRep F ds b off → CRep G ds b off
  | [], _, _, _ => trivial
  | _ :: _, _, _, ⟨⟨u, e, o, r⟩, q⟩ => ⟨⟨u, fcell_mono h e, o, DRep.mono h r⟩, CRep.mono h q⟩
theorem RRep.mono {F G : Frag} (h : Le F G) : ∀ {sz : Nat} {rs : List (List DV)} {b off : Nat}, RRep F sz rs b off → RRep G sz rs b off
  | _, [], _, _, _ => trivial
  | _, _ :: _, _, _, ⟨e, r, q⟩ => ⟨e, CRep.mono h r, RRep.mono h q⟩
end

structure Slot where
  blk : Nat
  cap : Nat
  ver : Nat
  live : Bool

structure Ctx where
  F : Frag
  env : Nat → Slot
  n : Nat

structure CtxExt (c c' : Ctx) : Prop where
  F : Le c.F c'.F
  n : c.n ≤ c'.n
  ver : ∀ l, l < c.n → (c.env l).ver ≤ (c'.env l).ver
  env : ∀ l, l < c.n → (c'.env l).ver = (c.env l).ver → (c'.env l).blk = (c.env l).blk ∧ (c'.env l).cap = (c.env l).cap ∧ (c'.env l).live = (c.env l).live

theorem CtxExt.refl (c : Ctx) : CtxExt c c := ⟨Le.refl _, Nat.le_refl _, fun _ _ => Nat.le_refl _, fun _ _ _ => ⟨rfl, rfl, rfl⟩⟩
theorem CtxExt.trans {a b c : Ctx} (h : CtxExt a b) (k : CtxExt b c) : CtxExt a c := by
  refine ⟨h.F.trans k.F, Nat.le_trans h.n k.n, fun l hl => Nat.le_trans (h.ver l hl) (k.ver l (Nat.lt_of_lt_of_le hl h.n)), fun l hl e => ?_⟩
  have h1 := h.ver l hl
  have h2 := k.ver l (Nat.lt_of_lt_of_le hl h.n)
  have e1 : (b.env l).ver = (a.env l).ver := by omega
  have e2 : (c.env l).ver = (b.env l).ver := by omega
  obtain ⟨p, q, r⟩ := h.env l hl e1
  obtain ⟨p', q', r'⟩ := k.env l (Nat.lt_of_lt_of_le hl h.n) e2
  exact ⟨p'.trans p, q'.trans q, r'.trans r⟩

mutual
def ARep (c : Ctx) : AV → Value → Prop
  | .d x, u => DRep c.F x u
  | .own loc ver sz off len, u => loc < c.n ∧ ver ≤ (c.env loc).ver ∧ ∃ a cap, u = .slice a len cap ∧ (ver = (c.env loc).ver → len ≤ cap ∧ ((c.env loc).live = true → a = some ⟨(c.env loc).blk, off * sz, none⟩ ∧ off + cap ≤ (c.env loc).cap) ∧ ((c.env loc).live = false → cap = 0))
  | .ptr loc ver off, u => loc < c.n ∧ ver ≤ (c.env loc).ver ∧ ∃ a, u = .pointer (some a) ∧ (ver = (c.env loc).ver → a = ⟨(c.env loc).blk, off, none⟩)
  | .mp loc, u => loc < c.n ∧ ∃ r, u = .map (some r) ∧ (0 = (c.env loc).ver → r = (c.env loc).blk)
  | .agg cells, u => ∃ us, u = .agg us.toArray ∧ ALRep c cells us ∧ ∀ x ∈ us, x.oneCell' = true
  | .tup vs, u => ∃ us, u = .tuple us.toArray ∧ ALRep c vs us
  | .clo fn fs cs, u => ∃ us ws, u = .func fn us.toArray ws.toArray ∧ ALRep c fs us ∧ ALRep c cs ws
  | .any, _ => True
def ALRep (c : Ctx) : List AV → List Value → Prop
  | [], us => us = []
  | d :: ds, us => ∃ u us', us = u :: us' ∧ ARep c d u ∧ ALRep c ds us'
end

mutual
theorem ARep.ext {c c' : Ctx} (h : CtxExt c c') : ∀ {d : AV} {u : Value}, ARep c d u → ARep c' d u
  | .d _, _, r => DRep.mono h.F r
  | .own loc ver sz off len, u, ⟨hl, hv, a, cap, e, r⟩ => by
    have h1 := h.ver loc hl
    refine ⟨Nat.lt_of_lt_of_le hl h.n, Nat.le_trans hv h1, a, cap, e, fun he => ?_⟩
    have e1 : ver = (c.env loc).ver := by omega
    obtain ⟨p, q, s⟩ := h.env loc hl (by omega)
    obtain ⟨r1, r2, r3⟩ := r e1
    rw [p, q, s]
    exact ⟨r1, r2, r3⟩
  | .ptr loc ver off, u, ⟨hl, hv, a, e, r⟩ => by
    have h1 := h.ver loc hl
    refine ⟨Nat.lt_of_lt_of_le hl h.n, Nat.le_trans hv h1, a, e, fun he => ?_⟩
    obtain ⟨p, q, s⟩ := h.env loc hl (by omega)
    rw [p]; exact r (by omega)
  | .mp loc, u, ⟨hl, r0, e, r⟩ => by
    have h1 := h.ver loc hl
    refine ⟨Nat.lt_of_lt_of_le hl h.n, r0, e, fun he => ?_⟩
    obtain ⟨p, q, s⟩ := h.env loc hl (by omega)
    rw [p]; exact r (by omega)
  | .agg _, _, ⟨us, e, r, o⟩ => ⟨us, e, ALRep.ext h r, o⟩
  | .tup _, _, ⟨us, e, r⟩ => ⟨us, e, ALRep.ext h r⟩
  | .clo _ _ _, _, ⟨us, ws, e, r, q⟩ => ⟨us, ws, e, ALRep.ext h r, ALRep.ext h q⟩
  | .any, _, _ => trivial
theorem ALRep.ext {c c' : Ctx} (h : CtxExt c c') : ∀ {ds : List AV} {us : List Value}, ALRep c ds us → ALRep c' ds us
  | [], _, r => r
  | _ :: _, _, ⟨u, us', e, r, q⟩ => ⟨u, us', e, ARep.ext h r, ALRep.ext h q⟩
end

/-- Owned objects. -/
inductive AObj where
  | row (T : TypeId) (cells : List AV)
  | arr (T : TypeId) (sz ver : Nat) (rows : List (List DV))
  | map (entries : List (Value × AV))
  | iter (loc n : Nat) (seen : List Nat)
  | hp (P : Nat → HProp)
  | dead

/-- The cells of rows, flat. -/
def FRep (F : Frag) (sz : Nat) : List (List DV) → List Value → Prop
  | [], us => us = []
  | r :: rs, us => ∃ u us', us = u ++ us' ∧ r.length = sz ∧ LRep F r u ∧ FRep F sz rs us'

theorem FRep.mono {F G : Frag} (h : Le F G) {sz : Nat} : ∀ {rs : List (List DV)} {us : List Value}, FRep F sz rs us → FRep G sz rs us
  | [], _, r => r
  | _ :: _, _, ⟨u, us', e, l, r, q⟩ => ⟨u, us', e, l, LRep.mono h r, FRep.mono h q⟩

def MRep (c : Ctx) : List (Value × AV) → List MapEntry → Prop
  | [], es => es = []
  | p :: ps, es => ∃ e es', es = e :: es' ∧ e.key = p.1 ∧ ARep c p.2 e.val ∧ MRep c ps es'

theorem MRep.ext {c c' : Ctx} (h : CtxExt c c') : ∀ {ps : List (Value × AV)} {es : List MapEntry}, MRep c ps es → MRep c' ps es
  | [], _, r => r
  | _ :: _, _, ⟨e, es', e1, k, r, q⟩ => ⟨e, es', e1, k, ARep.ext h r, MRep.ext h q⟩

def ORep (c : Ctx) (s : Slot) : AObj → Frag → Prop
  | .row T cells, f => s.ver = 0 ∧ ∃ us, f s.blk = some (.cells us.toArray T (0, 0)) ∧ ALRep c cells us ∧ ∀ x ∈ us, x.oneCell' = true
  | .arr T sz ver rows, f => s.ver = ver ∧ ((s.live = false ∧ rows = []) ∨ (s.live = true ∧ ∃ us rest, f s.blk = some (.cells (us ++ rest).toArray T (0, 0)) ∧ FRep c.F sz rows us ∧ (∀ x ∈ us, x.oneCell' = true) ∧ rows.length ≤ s.cap ∧ s.cap ≤ maxLen ∧ s.cap * sz ≤ us.length + rest.length))
  | .map ps, f => s.ver = 0 ∧ ∃ es, f s.blk = some (.map es es.size) ∧ MRep c ps es.toList ∧ ∀ (i : Nat) (e : MapEntry), es[i]? = some e → e.born = i
  | .iter loc n seen, f => s.ver = 0 ∧ ∃ r, f s.blk = some (.mapIter (some r) n seen.toArray n) ∧ loc < c.n ∧ (0 = (c.env loc).ver → r = (c.env loc).blk)
  | .hp P, f => s.ver = 0 ∧ P s.blk f
  | .dead, _ => True

theorem ORep.ext {c c' : Ctx} (h : CtxExt c c') {s : Slot} : ∀ {o : AObj} {f : Frag}, ORep c s o f → ORep c' s o f
  | .row _ _, _, ⟨e, us, r, q, o⟩ => ⟨e, us, r, ALRep.ext h q, o⟩
  | .arr _ _ _ _, _, ⟨e, r⟩ => ⟨e, r.imp id fun ⟨l, us, rest, a, b, z⟩ => ⟨l, us, rest, a, b.mono h.F, z⟩⟩
  | .map _, _, ⟨e, es, r, q, z⟩ => ⟨e, es, r, MRep.ext h q, z⟩
  | .iter l _ _, _, ⟨e, r, a, hl, b⟩ => ⟨e, r, a, Nat.lt_of_lt_of_le hl h.n, fun z => by
    have h1 := h.ver l hl
    have h2 : (c'.env l).ver = (c.env l).ver := by omega
    rw [(h.env l hl h2).1]; exact b (by omega)⟩
  | .hp _, _, r => r
  | .dead, _, _ => trivial

theorem ORep.le {c : Ctx} {s : Slot} {o : AObj} {f g : Frag} (hl : ∀ P, o ≠ .hp P) (r : ORep c s o f) (h : Le f g) : ORep c s o g := by
  cases o with
  | row T cells => obtain ⟨e, us, a, b⟩ := r; exact ⟨e, us, h _ _ a, b⟩
  | arr T sz ver rows => obtain ⟨e, r⟩ := r; exact ⟨e, r.imp id fun ⟨l, us, rest, a, b⟩ => ⟨l, us, rest, h _ _ a, b⟩⟩
  | map ps => obtain ⟨e, es, a, b⟩ := r; exact ⟨e, es, h _ _ a, b⟩
  | iter l n seen => obtain ⟨e, r, a, b⟩ := r; exact ⟨e, r, h _ _ a, b⟩
  | hp P => exact absurd rfl (hl P)
  | dead => trivial

/-- The memory: what is frozen, what is owned, and a rest that is left alone. -/
structure Heap (c : Ctx) (σ : List AObj) (R : Frag) (w : World) : Prop where
  hF : Le c.F (fun b => w.heap[b]?)
  hR : Le R (fun b => w.heap[b]?)
  n : c.n = σ.length
  FR : Disj c.F R
  own : ∃ g : Nat → Frag, (∀ l o, σ[l]? = some o → ORep c (c.env l) o (g l)) ∧ (∀ l, Le (g l) (fun b => w.heap[b]?)) ∧
    (∀ l k, l ≠ k → Disj (g l) (g k)) ∧ ∀ l, Disj (g l) c.F ∧ Disj (g l) R

/-- What a whole run leaves as it is. -/
structure Base where
  os : Os
  tape : Nat → Question → Nat
  output : Array (Nat × ByteArray)

structure Calm (B : Base) (w : World) : Prop where
  os : w.os = B.os
  tape : w.tape = B.tape
  output : w.output = B.output

/-- Frames. -/
abbrev Fr := List (Nat × AV)
def fget : Fr → Nat → AV
  | [], _ => .any
  | (k, x) :: l, i => bif Nat.beq k i then x else fget l i

def constDV : Value → DV
  | .slice none 0 0 => .nil
  | x => .v x
def constAV : Value → AV
  | .slice none 0 0 => .d .nil
  | .agg cs => bif cs.toList.all (·.oneCell') then .d (.agg (cs.toList.map constDV)) else .any
  | .tuple _ => .any
  | x => .d (.v x)

def aget (fr : Fr) : Operand → AV
  | .tmp t => fget fr t
  | .const x => constAV x
  | .global _ => .any
  | .func f => .d (.clo (.func f) [] [])

end Go.Proofs.Ytciciaikajdenaa

/- Walking a region in one order, whatever order it draws: an operation that only reads keeps what it yields as long as the old blocks stand ('Agree'); the others stand alone when they come up. -/
namespace Go.Proofs.Ytciciaikajdenaa
open Go.RowKit

/-- Each old block is as it was. -/
def Agree (w w' : World) : Prop := ∀ b, b < w.heap.size → w'.heap[b]? = w.heap[b]?
theorem Agree.refl (w : World) : Agree w w := fun _ _ => rfl
theorem Agree.lt {w w' : World} (h : Agree w w') {b : Nat} (hb : b < w.heap.size) : b < w'.heap.size := by
  have := h b hb
  rw [Array.getElem?_eq_getElem hb] at this
  exact (Array.getElem?_eq_some_iff.1 this).1
theorem Agree.trans {w w' w'' : World} (h : Agree w w') (k : Agree w' w'') : Agree w w'' := fun b hb => (k b (h.lt hb)).trans (h b hb)
theorem Agree.get {w w' : World} (h : Agree w w') {b : Nat} {o : Obj} (e : w.heap[b]? = some o) : w'.heap[b]? = some o := by
  rw [h b (Array.getElem?_eq_some_iff.1 e).1]; exact e

/-- Operations that look at no memory. -/
def pureK : Op → Bool
  | .load _ _ => false
  | .convert _ _ _ => false
  | .lookup _ _ _ _ => false
  | .call c => match c.callee with
    | .builtin .len => true
    | .builtin .min => true
    | .builtin .max => true
    | _ => false
  | .move _ => true
  | .assign _ => true
  | .pick _ _ _ => true
  | .fieldAddr _ _ _ => true
  | .indexAddr _ _ _ => true
  | .index _ _ _ => true
  | .slice _ _ _ _ _ => true
  | .extract _ _ => true
  | .nilCheck _ => true
  | .makeFunc _ _ _ => true
  | .build _ _ => true
  | .binOp _ _ _ _ _ => true
  | .unOp _ _ _ => true
  | _ => false
def pureO (ops : Array Oper) (i : Nat) : Bool := match ops[i]? with
  | some o => pureK o.op
  | none => false
/-- Worlds that an operation can't tell apart. -/
def Sees (o : Oper) (w w' : World) : Prop := pureK o.op = true ∨ Agree w w'
theorem Sees.refl (o : Oper) (w : World) : Sees o w w := .inr (Agree.refl w)

section
variable {P : Program} {ops : Array Oper} {Q : Exit → Act → World → Prop} {md : Region.Mode} {Ld ends dos : List Nat} {dr : Bool}

/-- One operation: it reads, or it does something; K is what follows. -/
def stepW (P : Program) (ops : Array Oper) (Q : Exit → Act → World → Prop) (dr : Bool) (dos ends : List Nat) (i : Nat) (K : Act → World → Prop) (a : Act) (w : World) : Prop :=
  ((dr && dos.contains i) = false ∧ ∃ o v, ops[i]? = some o ∧ YieldsIf P ops (Sees o w) o v a ∧ K (a.put o.dst v) w) ∨
  ((dr && !dos.contains i) = false ∧ wpOp P ops Q i (fun a' w' => ((dr && !ends.contains i) = true → Agree w w') ∧ K a' w') a w)

theorem stepW_mono {i : Nat} {K K' : Act → World → Prop} (h : ∀ a w, K a w → K' a w) {a : Act} {w : World} (s : stepW P ops Q dr dos ends i K a w) : stepW P ops Q dr dos ends i K' a w :=
  s.imp (fun ⟨d, o, v, e1, e2, e3⟩ => ⟨d, o, v, e1, e2, h _ _ e3⟩) fun ⟨d, e⟩ => ⟨d, wpOp_mono (fun a' w' q => ⟨q.1, h _ _ q.2⟩) e⟩

/-- An order, with forks where two operations that do something may come in either order. -/
inductive Trr where
  | nil
  | one (i : Nat) (r : Trr)
  | fork (i : Nat) (r : Trr) (j : Nat) (s : Trr)
  | fork3 (i : Nat) (r : Trr) (j : Nat) (s : Trr) (k : Nat) (t : Trr)
  | fork4 (i : Nat) (r : Trr) (j : Nat) (s : Trr) (k : Nat) (t : Trr) (m : Nat) (u : Trr)

def trOf : List Nat → Trr
  | [] => .nil
  | i :: l => .one i (trOf l)

def Trr.len : Trr → Nat
  | .nil => 0
  | .one _ r => r.len + 1
  | .fork _ r _ _ => r.len + 1
  | .fork3 _ r _ _ _ _ => r.len + 1
  | .fork4 _ r _ _ _ _ _ _ => r.len + 1

def walkW (P : Program) (ops : Array Oper) (Q : Exit → Act → World → Prop) (dr : Bool) (dos ends : List Nat) : Trr → Act → World → Prop
  | .nil, a, w => Q .normal a w
  | .one i r, a, w => stepW P ops Q dr dos ends i (walkW P ops Q dr dos ends r) a w
  | .fork i r j s, a, w => stepW P ops Q dr dos ends i (walkW P ops Q dr dos ends r) a w ∧ stepW P ops Q dr dos ends j (walkW P ops Q dr dos ends s) a w
  | .fork3 i r j s k t, a, w => stepW P ops Q dr dos ends i (walkW P ops Q dr dos ends r) a w ∧ stepW P ops Q dr dos ends j (walkW P ops Q dr dos ends s) a w ∧ stepW P ops Q dr dos ends k (walkW P ops Q dr dos ends t) a w
  | .fork4 i r j s k t m u, a, w => stepW P ops Q dr dos ends i (walkW P ops Q dr dos ends r) a w ∧ stepW P ops Q dr dos ends j (walkW P ops Q dr dos ends s) a w ∧ stepW P ops Q dr dos ends k (walkW P ops Q dr dos ends t) a w ∧ stepW P ops Q dr dos ends m (walkW P ops Q dr dos ends u) a w

theorem walkW_ops : ∀ (l : List Nat) (a : Act) (w : World), walkW P ops Q false dos ends (trOf l) a w → wpOps P ops Q l a w
  | [], a, w, h => by simpa [wpOps, walkW, trOf] using h
  | i :: r, a, w, h => by
    unfold trOf walkW stepW at h
    rw [wpOps_cons]
    rcases h with ⟨_, o, v, ho, hy, h⟩ | ⟨_, h⟩
    · exact hy.wpOp ho (Sees.refl o w) (walkW_ops r _ _ h)
    · exact wpOp_mono (fun a' w' h' => walkW_ops r _ _ h'.2) h

/-- k waits for i, by however many steps. -/
def reachT (md : Region.Mode) (ops : Array Oper) : Nat → Nat → Nat → Bool
  | 0, _, _ => false
  | n + 1, i, k => Region.waitsFor md ops k i || (List.range ops.size).any fun j => Region.waitsFor md ops j i && reachT md ops n j k

/-- What has come up, all that it waits for has come up. -/
structure Dwn (md : Region.Mode) (ops : Array Oper) (listed : Array Bool) : Prop where
  size : listed.size = ops.size
  closed : ∀ j oj, ops[j]? = some oj → listed.getD j false = true → ∀ e ∈ oj.after, Region.binds md e = true → listed.getD e.on false = true

theorem Dwn.set {i : Nat} {listed : Array Bool} (inv : Dwn md ops listed) (hi : i ∈ Region.ready md ops listed) : Dwn md ops (listed.setIfInBounds i true) := by
  obtain ⟨_, oi, hoi, hall⟩ := mem_ready.1 hi
  refine ⟨by simp [inv.size], fun j oj hj hl e he hb => ?_⟩
  by_cases hij : i = j
  · subst hij
    have : oj = oi := Option.some.inj (hj.symm.trans hoi)
    subst this
    exact getD_set_true (hall e he hb)
  · rw [getD_set_ne false hij] at hl
    exact getD_set_true (inv.closed j oj hj hl e he hb)

theorem not_reachT {listed : Array Bool} (inv : Dwn md ops listed) {k : Nat} (hk : k ∈ Region.ready md ops listed) : ∀ (n i : Nat), listed.getD i true = false → reachT md ops n i k = false
  | 0, _, _ => rfl
  | n + 1, i, hu => by
    unfold reachT
    rw [Bool.or_eq_false_iff]
    obtain ⟨_, ok, hok, hall⟩ := mem_ready.1 hk
    constructor
    · cases hw : Region.waitsFor md ops k i with
      | false => rfl
      | true =>
        obtain ⟨o', ho', e, he, hb, hon⟩ := Region.waitsFor_spec hw
        have : o' = ok := Option.some.inj (ho'.symm.trans hok)
        subst this
        have := hall e he hb
        rw [hon, getD_both hu] at this
        cases this
    · rw [List.any_eq_false]
      intro j hj hjb
      rw [Bool.and_eq_true] at hjb
      obtain ⟨oj, hoj, e, he, hb, hon⟩ := Region.waitsFor_spec hjb.1
      have hju : listed.getD j true = false := by
        have hjs : j < listed.size := by rw [inv.size]; exact (Array.getElem?_eq_some_iff.1 hoj).1
        cases hl : listed.getD j false with
        | true =>
          have := inv.closed j oj hoj hl e he hb
          rw [hon, getD_both hu] at this
          cases this
        | false => exact getD_in hjs hl
      rw [not_reachT inv hk n j hju] at hjb
      cases hjb.2

def wpAnyW (P : Program) (md : Region.Mode) (ops : Array Oper) (Q : Exit → Act → World → Prop) (ends : List Nat) : Nat → Array Bool → Act → World → Prop
  | 0, listed, a, w => Region.ready md ops listed = [] ∧ Q .normal a w
  | fuel + 1, listed, a, w =>
    (Region.ready md ops listed = [] → Q .normal a w) ∧
    ∀ i ∈ Region.ready md ops listed, wpOp P ops Q i (fun a' w' => (ends.contains i = false → Agree w w') ∧ wpAnyW P md ops Q ends fuel (listed.setIfInBounds i true) a' w') a w

theorem wpAny_of_W : ∀ (fuel : Nat) (listed : Array Bool) (a : Act) (w : World), wpAnyW P md ops Q ends fuel listed a w → wpAny P md ops Q fuel listed a w
  | 0, _, _, _, h => h
  | fuel + 1, _, _, _, h => ⟨h.1, fun i hi => wpOp_mono (fun a' w' h' => wpAny_of_W fuel _ a' w' h'.2) (h.2 i hi)⟩

theorem yieldsIf_mono {S S' : World → Prop} {o : Oper} {v : Value} {a : Act} (h : ∀ w, S' w → S w) (y : YieldsIf P ops S o v a) : YieldsIf P ops S' o v a :=
  y.imp (fun ⟨p, q⟩ => ⟨p, fun w hw => q w (h w hw)⟩) id

theorem wpAnyW_first {i n : Nat} {oi : Oper} {v : Value} (hi : ops[i]? = some oi) (hsel : ∀ (j : Nat) (o : Oper) cs b, ops[j]? = some o → o.op ≠ .select cs b)
    (hQ : ∀ c a w, Q (.panic c) (a.put oi.dst v) w → Q (.panic c) a w) :
    ∀ (fuel : Nat) (listed : Array Bool) (a : Act) (w : World), Dwn md ops listed → (∀ k ∈ ends, listed.getD k true = false → reachT md ops n i k = true) →
      (∀ j oj, ops[j]? = some oj → j ≠ i → listed.getD j true = false → (∀ e ∈ oj.after, Region.binds md e = true → e.on ≠ i) → oi.apart ops oj = true) →
      i ∈ Region.ready md ops listed → YieldsIf P ops (Agree w) oi v a →
      wpAnyW P md ops Q ends fuel (listed.setIfInBounds i true) (a.put oi.dst v) w → wpAnyW P md ops Q ends (fuel + 1) listed a w := by
  intro fuel
  induction fuel with
  | zero =>
    intro listed a w _ _ _ hr hy H
    refine ⟨fun h => (by rw [h] at hr; cases hr), fun j hj => ?_⟩
    by_cases hji : j = i
    · subst hji; exact hy.wpOp hi (Agree.refl w) ⟨fun _ => Agree.refl w, H⟩
    · have := ready_mono hj hji
      rw [H.1] at this
      cases this
  | succ fuel ih =>
    intro listed a w inv hre hfree hr hy H
    refine ⟨fun h => (by rw [h] at hr; cases hr), fun j hj => ?_⟩
    by_cases hji : j = i
    · subst hji; exact hy.wpOp hi (Agree.refl w) ⟨fun _ => Agree.refl w, H⟩
    · have h1 := H.2 j (ready_mono hj hji)
      obtain ⟨hjun, oj, hoj, hall⟩ := mem_ready.1 hj
      have hun := (mem_ready.1 hr).1
      have hnot : ∀ e ∈ oj.after, Region.binds md e = true → e.on ≠ i := fun e he hb heq => by
        have h1 := hall e he hb
        rw [heq, getD_both hun] at h1
        cases h1
      have h2 := wpOp_putIf hoj (hfree j oj hoj hji hjun hnot) (fun cs b => hsel i oi cs b hi) (fun cs b => hsel j oj cs b hoj) hQ hy h1
      have hfree' : ∀ k ok, ops[k]? = some ok → k ≠ i → (listed.setIfInBounds j true).getD k true = false →
          (∀ e ∈ ok.after, Region.binds md e = true → e.on ≠ i) → oi.apart ops ok = true := fun k ok hk hki hun hno => by
        refine hfree k ok hk hki ?_ hno
        by_cases hjk : j = k
        · subst hjk; exact hjun
        · rw [getD_set_ne true hjk] at hun; exact hun
      have hre' : ∀ k ∈ ends, (listed.setIfInBounds j true).getD k true = false → reachT md ops n i k = true := fun k hk hun => by
        refine hre k hk ?_
        by_cases hjk : j = k
        · subst hjk; exact hjun
        · rw [getD_set_ne true hjk] at hun; exact hun
      have hend : ends.contains j = false := by
        cases he : ends.contains j with
        | false => rfl
        | true =>
          have := hre j (by simpa using he) hjun
          rw [not_reachT inv hj n i hun] at this
          cases this
      refine wpOp_mono (fun a' w' h3 => ⟨h3.2.1, ih (listed.setIfInBounds j true) a' w' (inv.set hj) hre' hfree' (ready_mono hr (Ne.symm hji)) (yieldsIf_mono (fun u hu => (h3.2.1 hend).trans hu) h3.1) ?_⟩) h2
      rw [Array.setIfInBounds_comm _ _ hji]
      exact h3.2.2

theorem wpAnyW_first_pure {i : Nat} {oi : Oper} {v : Value} (hi : ops[i]? = some oi) (hsel : ∀ (j : Nat) (o : Oper) cs b, ops[j]? = some o → o.op ≠ .select cs b)
    (hQ : ∀ c a w, Q (.panic c) (a.put oi.dst v) w → Q (.panic c) a w) :
    ∀ (fuel : Nat) (listed : Array Bool) (a : Act) (w : World), Dwn md ops listed →
      (∀ j oj, ops[j]? = some oj → j ≠ i → listed.getD j true = false → (∀ e ∈ oj.after, Region.binds md e = true → e.on ≠ i) → oi.apart ops oj = true) →
      i ∈ Region.ready md ops listed → YieldsIf P ops (fun _ => True) oi v a →
      wpAnyW P md ops Q ends fuel (listed.setIfInBounds i true) (a.put oi.dst v) w → wpAnyW P md ops Q ends (fuel + 1) listed a w := by
  intro fuel
  induction fuel with
  | zero =>
    intro listed a w _ _ hr hy H
    refine ⟨fun h => (by rw [h] at hr; cases hr), fun j hj => ?_⟩
    by_cases hji : j = i
    · subst hji; exact hy.wpOp hi trivial ⟨fun _ => Agree.refl w, H⟩
    · have := ready_mono hj hji
      rw [H.1] at this
      cases this
  | succ fuel ih =>
    intro listed a w inv hfree hr hy H
    refine ⟨fun h => (by rw [h] at hr; cases hr), fun j hj => ?_⟩
    by_cases hji : j = i
    · subst hji; exact hy.wpOp hi trivial ⟨fun _ => Agree.refl w, H⟩
    · have h1 := H.2 j (ready_mono hj hji)
      obtain ⟨hjun, oj, hoj, hall⟩ := mem_ready.1 hj
      have hun := (mem_ready.1 hr).1
      have hnot : ∀ e ∈ oj.after, Region.binds md e = true → e.on ≠ i := fun e he hb heq => by
        have h1 := hall e he hb
        rw [heq, getD_both hun] at h1
        cases h1
      have h2 := wpOp_putIf hoj (hfree j oj hoj hji hjun hnot) (fun cs b => hsel i oi cs b hi) (fun cs b => hsel j oj cs b hoj) hQ hy h1
      have hfree' : ∀ k ok, ops[k]? = some ok → k ≠ i → (listed.setIfInBounds j true).getD k true = false →
          (∀ e ∈ ok.after, Region.binds md e = true → e.on ≠ i) → oi.apart ops ok = true := fun k ok hk hki hun hno => by
        refine hfree k ok hk hki ?_ hno
        by_cases hjk : j = k
        · subst hjk; exact hjun
        · rw [getD_set_ne true hjk] at hun; exact hun
      refine wpOp_mono (fun a' w' h3 => ⟨h3.2.1, ih (listed.setIfInBounds j true) a' w' (inv.set hj) hfree' (ready_mono hr (Ne.symm hji)) h3.1 ?_⟩) h2
      rw [Array.setIfInBounds_comm _ _ hji]
      exact h3.2.2

/-- The order of the walk is one that may be walked. -/
def walkT (md : Region.Mode) (ops : Array Oper) (dos ends : List Nat) : Trr → Nat → Array Bool → Bool
  | .nil, n, listed => Nat.beq n 0 && (Region.ready md ops listed).isEmpty
  | .one _ _, 0, _ => false
  | .one i r, n + 1, listed => (if dos.contains i then decide (Region.ready md ops listed = [i]) else (Region.ready md ops listed).contains i && Region.free md ops listed i && (pureO ops i || ends.all fun k => listed.getD k true || reachT md ops 8 i k)) && walkT md ops dos ends r n (listed.setIfInBounds i true)
  | .fork _ _ _ _, 0, _ => false
  | .fork i r j s, n + 1, listed => decide (Region.ready md ops listed = [i, j]) && dos.contains i && dos.contains j && walkT md ops dos ends r n (listed.setIfInBounds i true) && walkT md ops dos ends s n (listed.setIfInBounds j true)
  | .fork3 _ _ _ _ _ _, 0, _ => false
  | .fork3 i r j s k t, n + 1, listed => decide (Region.ready md ops listed = [i, j, k]) && dos.contains i && dos.contains j && dos.contains k && walkT md ops dos ends r n (listed.setIfInBounds i true) && walkT md ops dos ends s n (listed.setIfInBounds j true) && walkT md ops dos ends t n (listed.setIfInBounds k true)
  | .fork4 _ _ _ _ _ _ _ _, 0, _ => false
  | .fork4 i r j s k t m u, n + 1, listed => decide (Region.ready md ops listed = [i, j, k, m]) && dos.contains i && dos.contains j && dos.contains k && dos.contains m && walkT md ops dos ends r n (listed.setIfInBounds i true) && walkT md ops dos ends s n (listed.setIfInBounds j true) && walkT md ops dos ends t n (listed.setIfInBounds k true) && walkT md ops dos ends u n (listed.setIfInBounds m true)

theorem stepW_do {i : Nat} {K : Act → World → Prop} {a : Act} {w : World} (hd : dos.contains i = true) (h : stepW P ops Q true dos ends i K a w) : wpOp P ops Q i (fun a' w' => (ends.contains i = false → Agree w w') ∧ K a' w') a w := by
  unfold stepW at h
  rw [hd] at h
  simp only [Bool.true_and, Bool.true_eq_false, false_and, Bool.not_true, Bool.not_eq_true', false_or, true_and] at h
  exact h

theorem wpAnyW_of_walk (hsel : Region.noSelect ops = true)
    (hQ : ∀ c d v a w, Q (.panic c) (a.put d v) w → Q (.panic c) a w) :
    ∀ (l : Trr) (n : Nat) (listed : Array Bool) (a : Act) (w : World), Dwn md ops listed → walkT md ops dos ends l n listed = true → walkW P ops Q true dos ends l a w → wpAnyW P md ops Q ends n listed a w
  | .nil, n, listed, a, w, _, hB, h => by
    unfold walkT at hB
    rw [Bool.and_eq_true] at hB
    have := Nat.eq_of_beq_eq_true hB.1
    subst this
    exact ⟨by simpa using hB.2, h⟩
  | .one i r, 0, _, _, _, _, hB, _ => by simp [walkT] at hB
  | .one i r, n + 1, listed, a, w, inv, hB, h => by
    unfold walkT at hB
    unfold walkW at h
    rw [Bool.and_eq_true] at hB
    cases hd : dos.contains i with
    | true =>
      have h := stepW_do hd h
      rw [hd] at hB
      simp only [if_true, decide_eq_true_eq] at hB
      have hin : i ∈ Region.ready md ops listed := by rw [hB.1]; exact List.mem_singleton.2 rfl
      refine ⟨fun h0 => (by rw [h0] at hB; cases hB.1), fun j hj => ?_⟩
      rw [hB.1] at hj
      have hji : j = i := by simpa using hj
      subst hji
      exact wpOp_mono (fun a' w' h' => ⟨h'.1, wpAnyW_of_walk hsel hQ r n _ a' w' (inv.set hin) hB.2 h'.2⟩) h
    | false =>
      unfold stepW at h
      rw [hd] at hB h
      simp only [Bool.false_eq_true, if_false, Bool.and_eq_true, Bool.and_false, Bool.not_false, Bool.and_true, Bool.true_eq_false, false_and, or_false, true_and] at hB h
      obtain ⟨oi, v, hoi, hy, h⟩ := h
      have hin : i ∈ Region.ready md ops listed := by simpa using hB.1.1.1
      cases hpu : pureO ops i with
      | true =>
        have hpk : pureK oi.op = true := by unfold pureO at hpu; rw [hoi] at hpu; exact hpu
        exact wpAnyW_first_pure hoi (Region.noSelect_spec hsel) (fun c a w => hQ c _ _ a w) n listed a w inv (Region.free_spec hoi hB.1.1.2) hin (yieldsIf_mono (fun w' _ => .inl hpk) hy)
          (wpAnyW_of_walk hsel hQ r n _ _ w (inv.set hin) hB.2 h)
      | false =>
        rw [hpu] at hB
        exact wpAnyW_first (n := 8) hoi (Region.noSelect_spec hsel) (fun c a w => hQ c _ _ a w) n listed a w inv (fun k hk hun => by
          have h0 := hB.1.2
          rw [Bool.false_or] at h0
          have := List.all_eq_true.1 h0 k hk
          rw [hun, Bool.false_or] at this
          exact this) (Region.free_spec hoi hB.1.1.2) hin (yieldsIf_mono (fun w' h => .inr h) hy)
          (wpAnyW_of_walk hsel hQ r n _ _ w (inv.set hin) hB.2 h)
  | .fork _ _ _ _, 0, _, _, _, _, hB, _ => by simp [walkT] at hB
  | .fork i r j s, n + 1, listed, a, w, inv, hB, h => by
    unfold walkT at hB
    unfold walkW at h
    simp only [Bool.and_eq_true, decide_eq_true_eq] at hB
    obtain ⟨⟨⟨⟨hr, hd1⟩, hd2⟩, hB1⟩, hB2⟩ := hB
    have hi : i ∈ Region.ready md ops listed := by rw [hr]; simp
    have hj : j ∈ Region.ready md ops listed := by rw [hr]; simp
    refine ⟨fun h0 => (by rw [h0] at hr; cases hr), fun k hk => ?_⟩
    rw [hr] at hk
    simp only [List.mem_cons, List.not_mem_nil, or_false] at hk
    rcases hk with rfl | rfl
    · exact wpOp_mono (fun a' w' h' => ⟨h'.1, wpAnyW_of_walk hsel hQ r n _ a' w' (inv.set hi) hB1 h'.2⟩) (stepW_do hd1 h.1)
    · exact wpOp_mono (fun a' w' h' => ⟨h'.1, wpAnyW_of_walk hsel hQ s n _ a' w' (inv.set hj) hB2 h'.2⟩) (stepW_do hd2 h.2)
  | .fork3 _ _ _ _ _ _, 0, _, _, _, _, hB, _ => by simp [walkT] at hB
  | .fork3 i r j s k t, n + 1, listed, a, w, inv, hB, h => by
    unfold walkT at hB
    unfold walkW at h
    simp only [Bool.and_eq_true, decide_eq_true_eq] at hB
    obtain ⟨⟨⟨⟨⟨⟨hr, hd1⟩, hd2⟩, hd3⟩, hB1⟩, hB2⟩, hB3⟩ := hB
    have hi : i ∈ Region.ready md ops listed := by rw [hr]; simp
    have hj : j ∈ Region.ready md ops listed := by rw [hr]; simp
    have hk : k ∈ Region.ready md ops listed := by rw [hr]; simp
    refine ⟨fun h0 => (by rw [h0] at hr; cases hr), fun m hm => ?_⟩
    rw [hr] at hm
    simp only [List.mem_cons, List.not_mem_nil, or_false] at hm
    rcases hm with rfl | rfl | rfl
    · exact wpOp_mono (fun a' w' h' => ⟨h'.1, wpAnyW_of_walk hsel hQ r n _ a' w' (inv.set hi) hB1 h'.2⟩) (stepW_do hd1 h.1)
    · exact wpOp_mono (fun a' w' h' => ⟨h'.1, wpAnyW_of_walk hsel hQ s n _ a' w' (inv.set hj) hB2 h'.2⟩) (stepW_do hd2 h.2.1)
    · exact wpOp_mono (fun a' w' h' => ⟨h'.1, wpAnyW_of_walk hsel hQ t n _ a' w' (inv.set hk) hB3 h'.2⟩) (stepW_do hd3 h.2.2)
  | .fork4 _ _ _ _ _ _ _ _, 0, _, _, _, _, hB, _ => by simp [walkT] at hB
  | .fork4 i r j s k t m u, n + 1, listed, a, w, inv, hB, h => by
    unfold walkT at hB
    unfold walkW at h
    simp only [Bool.and_eq_true, decide_eq_true_eq] at hB
    obtain ⟨⟨⟨⟨⟨⟨⟨⟨hr, hd1⟩, hd2⟩, hd3⟩, hd4⟩, hB1⟩, hB2⟩, hB3⟩, hB4⟩ := hB
    have hi : i ∈ Region.ready md ops listed := by rw [hr]; simp
    have hj : j ∈ Region.ready md ops listed := by rw [hr]; simp
    have hk : k ∈ Region.ready md ops listed := by rw [hr]; simp
    have hm' : m ∈ Region.ready md ops listed := by rw [hr]; simp
    refine ⟨fun h0 => (by rw [h0] at hr; cases hr), fun x hx => ?_⟩
    rw [hr] at hx
    simp only [List.mem_cons, List.not_mem_nil, or_false] at hx
    rcases hx with rfl | rfl | rfl | rfl
    · exact wpOp_mono (fun a' w' h' => ⟨h'.1, wpAnyW_of_walk hsel hQ r n _ a' w' (inv.set hi) hB1 h'.2⟩) (stepW_do hd1 h.1)
    · exact wpOp_mono (fun a' w' h' => ⟨h'.1, wpAnyW_of_walk hsel hQ s n _ a' w' (inv.set hj) hB2 h'.2⟩) (stepW_do hd2 h.2.1)
    · exact wpOp_mono (fun a' w' h' => ⟨h'.1, wpAnyW_of_walk hsel hQ t n _ a' w' (inv.set hk) hB3 h'.2⟩) (stepW_do hd3 h.2.2.1)
    · exact wpOp_mono (fun a' w' h' => ⟨h'.1, wpAnyW_of_walk hsel hQ u n _ a' w' (inv.set hm') hB4 h'.2⟩) (stepW_do hd4 h.2.2.2)

/-- All that the kernel is asked of a region and an order. -/
def orderT (ops : Array Oper) (dos ends : List Nat) (l : Trr) : Bool :=
  Region.noSelect ops && walkT .any ops dos ends l ops.size (Array.replicate ops.size false)

theorem wp_region_walk {id : Nat} {a : Act} {w : World} {l : Trr} (dos ends : List Nat) (hm : P.follows .mixedOrders = true) (hB : orderT ops dos ends l = true)
    (hQ : ∀ c d v a w, Q (.panic c) (a.put d v) w → Q (.panic c) a w)
    (h : walkW P ops Q true dos ends l a w.drew) : (Code.region id ops true).wp P Q a w := by
  unfold orderT at hB
  simp only [Bool.and_eq_true] at hB
  obtain ⟨hsel, hw⟩ := hB
  refine wp_region_any hm ?_
  have inv0 : Dwn .any ops (Array.replicate ops.size false) := ⟨by simp, fun j oj _ hl => (by rw [getD_replicate_false] at hl; cases hl)⟩
  exact wpAny_of_W _ _ _ _ (wpAnyW_of_walk hsel hQ l _ _ a w.drew inv0 hw h)

/-- A loop, by a number that falls. -/
theorem wp_loop_n {c : Code} {a : Act} {w : World} (J : Nat → Act → World → Prop) {n : Nat} (h0 : J n a w)
    (round : ∀ n a w, J n a w → c.wp P (Exit.then (fun a' w' => ∃ m, m < n ∧ J m a' w') Q) a w) : (Code.loop c).wp P Q a w := by
  classical
  have key : ∀ n a w, J n a w → ∃ m, m ≤ n ∧ J m a w ∧ ∀ k, k < m → ¬ J k a w := by
    intro n
    induction n using Nat.strongRecOn with
    | _ n ih =>
      intro a w h
      by_cases hk : ∃ k, k < n ∧ J k a w
      · obtain ⟨k, hk, hj⟩ := hk
        obtain ⟨m, hm, h1, h2⟩ := ih k hk a w hj
        exact ⟨m, by omega, h1, h2⟩
      · exact ⟨n, Nat.le_refl _, h, fun k hk' hj => hk ⟨k, hk', hj⟩⟩
  have key2 : ∀ a w, (∃ n, J n a w) → ∃ m, J m a w ∧ ∀ k, k < m → ¬ J k a w := fun a w ⟨n, h⟩ => let ⟨m, _, h1, h2⟩ := key n a w h; ⟨m, h1, h2⟩
  let μ : Act → World → Nat := fun a w => if h : ∃ n, J n a w then Classical.choose (key2 a w h) else 0
  have hμ : ∀ a w, (∃ n, J n a w) → J (μ a w) a w ∧ ∀ k, k < μ a w → ¬ J k a w := fun a w h => by
    have : μ a w = Classical.choose (key2 a w h) := dif_pos h
    rw [this]; exact Classical.choose_spec (key2 a w h)
  refine wp_loop (fun a w => ∃ n, J n a w) μ ⟨n, h0⟩ fun a w h => ?_
  refine wp_mono (round (μ a w) a w (hμ a w h).1) fun e a' w' h' => ?_
  cases e with
  | normal =>
    obtain ⟨m, hm, hj⟩ := h'
    refine ⟨⟨m, hj⟩, ?_⟩
    have h2 := hμ a' w' ⟨m, hj⟩
    rcases Nat.lt_or_ge m (μ a' w') with h3 | h3
    · exact absurd hj (h2.2 m h3)
    · exact Nat.lt_of_le_of_lt h3 hm
  | _ => exact h'
end

end Go.Proofs.Ytciciaikajdenaa

/- The judgement over a frame of abstract values and owned objects; its rules for control, and the ghost steps. -/
namespace Go.Proofs.Ytciciaikajdenaa
open Go.RowKit

/-- What stays the same in a whole function. -/
structure K0 where
  B : Base
  R : Frag
  ds : List Deferred

structure Sim (k : K0) (c : Ctx) (nt : Nat) (fr : Fr) (σ : List AObj) (A : Act) (w : World) : Prop where
  size : A.tmps.size = nt
  defers : A.defers = k.ds
  tmps : ∀ i, ARep c (fget fr i) (A.tmps.getD i undef)
  heap : Heap c σ k.R w
  calm : Calm k.B w

def Post (k : K0) (c : Ctx) (nt : Nat) (Q : Exit → Fr → List AObj → Prop) : Exit → Act → World → Prop
  | .panic ch, A, w => A.defers = k.ds ∧ ∃ c' σ, CtxExt c c' ∧ Heap c' σ k.R w ∧ Calm k.B w ∧ Q (.panic ch) [] σ
  | .outgrown, _, _ => False
  | e, A, w => ∃ c' fr σ, CtxExt c c' ∧ Sim k c' nt fr σ A w ∧ Q e fr σ

theorem Post.ext {k : K0} {c c' : Ctx} {nt : Nat} {Q : Exit → Fr → List AObj → Prop} (h : CtxExt c c') {e : Exit} {A : Act} {w : World} (p : Post k c' nt Q e A w) : Post k c nt Q e A w := by
  cases e with
  | panic _ => obtain ⟨h1, d, σ, x, y⟩ := p; exact ⟨h1, d, σ, h.trans x, y⟩
  | outgrown => exact p
  | _ => obtain ⟨d, fr, σ, x, y, z⟩ := p; exact ⟨d, fr, σ, h.trans x, y, z⟩

theorem Post.mono {k : K0} {c : Ctx} {nt : Nat} {Q Q' : Exit → Fr → List AObj → Prop} (h : ∀ e fr σ, Q e fr σ → Q' e fr σ) {e : Exit} {A : Act} {w : World} (p : Post k c nt Q e A w) : Post k c nt Q' e A w := by
  cases e with
  | panic _ => obtain ⟨h1, d, σ, x, y, z, q⟩ := p; exact ⟨h1, d, σ, x, y, z, h _ _ _ q⟩
  | outgrown => exact p
  | _ => obtain ⟨d, fr, σ, x, y, z⟩ := p; exact ⟨d, fr, σ, x, y, h _ _ _ z⟩

/-- Code. -/
structure AWk (P : Program) (nt : Nat) (c : Code) (Q : Exit → Fr → List AObj → Prop) (fr : Fr) (σ : List AObj) : Prop where
  out : ∀ k x A w, Sim k x nt fr σ A w → c.wp P (Post k x nt Q) A w

/-- The rest of a region. -/
structure AL (P : Program) (nt : Nat) (ops : Array Oper) (dr : Bool) (dos ends : List Nat) (l : Trr) (Q : Exit → Fr → List AObj → Prop) (fr : Fr) (σ : List AObj) : Prop where
  out : ∀ k x A w, Sim k x nt fr σ A w → walkW P ops (Post k x nt Q) dr dos ends l A w

def thenQ (next : Fr → List AObj → Prop) (Q : Exit → Fr → List AObj → Prop) : Exit → Fr → List AObj → Prop
  | .normal, fr, σ => next fr σ
  | e, fr, σ => Q e fr σ

def blockQ (id : Nat) (Q : Exit → Fr → List AObj → Prop) : Exit → Fr → List AObj → Prop
  | .exit id', fr, σ => if id' = id then Q .normal fr σ else Q (.exit id') fr σ
  | e, fr, σ => Q e fr σ

section
variable {P : Program} {nt : Nat} {Q Q' : Exit → Fr → List AObj → Prop} {fr : Fr} {σ : List AObj} {ops : Array Oper} {dr : Bool} {dos ends : List Nat} {l : Trr}

theorem AWk.mono {c : Code} (h : AWk P nt c Q fr σ) (q : ∀ e fr σ, Q e fr σ → Q' e fr σ) : AWk P nt c Q' fr σ :=
  ⟨fun k x A w s => wp_mono (h.out k x A w s) fun _ _ _ p => p.mono q⟩

theorem upon_mono {Q Q' : Exit → Act → World → Prop} {o : Oper} {a : Act} {next next' : Act → World → Prop} {r : Result Next} (hn : ∀ a w, next a w → next' a w) (hQ : ∀ e a w, Q e a w → Q' e a w) (h : o.upon P a next Q r) : o.upon P a next' Q' r := by
  have hl : LetsOut Q → LetsOut Q' := fun ⟨a, w, q⟩ => ⟨a, w, hQ _ _ _ q⟩
  cases r with
  | ok n w =>
    cases n
    case value v => exact hn _ _ h
    case skip => exact hn _ _ h
    case defer d => exact hn _ _ h
    case enter f args =>
      rw [Oper.upon_enter] at h ⊢
      refine Calls.mono h fun en w' q => ?_
      cases en with
      | returned v => exact hn _ _ q
      | panicked ch => exact hQ _ _ _ q
      | outgrown => exact hl q
    case row f args =>
      rw [Oper.upon_row] at h ⊢
      exact Rows.mono h fun v w' q => hn _ _ q
    all_goals exact h
  | halt x w =>
    cases x
    case panic v => exact hQ _ _ _ h
    all_goals exact h

theorem stepW_mono2 {Q Q' : Exit → Act → World → Prop} (h : ∀ e a w, Q e a w → Q' e a w) {i : Nat} {K K' : Act → World → Prop} (hk : ∀ a w, K a w → K' a w) {a : Act} {w : World} (q : stepW P ops Q dr dos ends i K a w) : stepW P ops Q' dr dos ends i K' a w := by
  have q := stepW_mono hk q
  unfold stepW at q ⊢
  refine q.imp id (fun ⟨d, e⟩ => ⟨d, ?_⟩)
  have hl : LetsOut Q → LetsOut Q' := fun ⟨a, w, q⟩ => ⟨a, w, h _ _ _ q⟩
  unfold wpOp at e ⊢
  cases ho : ops[i]? with
  | none => rw [ho] at e; exact e
  | some o =>
    rw [ho] at e
    simp only at e ⊢
    split
    · rename_i hw
      rw [if_pos hw] at e
      exact e.imp (fun e => upon_mono (fun _ _ q => q) h e) (fun ⟨p, q⟩ => ⟨p, hl q⟩)
    · rename_i hw
      rw [if_neg hw] at e
      exact e

theorem walkW_mono {Q Q' : Exit → Act → World → Prop} (h : ∀ e a w, Q e a w → Q' e a w) : ∀ {l : Trr} {a : Act} {w : World}, walkW P ops Q dr dos ends l a w → walkW P ops Q' dr dos ends l a w
  | .nil, _, _, q => h _ _ _ q
  | .one i r, a, w, q => stepW_mono2 h (fun _ _ q => walkW_mono h q) q
  | .fork i r j s, a, w, q => ⟨stepW_mono2 h (fun _ _ q => walkW_mono h q) q.1, stepW_mono2 h (fun _ _ q => walkW_mono h q) q.2⟩
  | .fork3 i r j s k t, a, w, q => ⟨stepW_mono2 h (fun _ _ q => walkW_mono h q) q.1, stepW_mono2 h (fun _ _ q => walkW_mono h q) q.2.1, stepW_mono2 h (fun _ _ q => walkW_mono h q) q.2.2⟩
  | .fork4 i r j s k t m u, a, w, q => ⟨stepW_mono2 h (fun _ _ q => walkW_mono h q) q.1, stepW_mono2 h (fun _ _ q => walkW_mono h q) q.2.1, stepW_mono2 h (fun _ _ q => walkW_mono h q) q.2.2.1, stepW_mono2 h (fun _ _ q => walkW_mono h q) q.2.2.2⟩

theorem walkW_ext {k : K0} {x x' : Ctx} (h : CtxExt x x') {a : Act} {w : World} (q : walkW P ops (Post k x' nt Q) dr dos ends l a w) : walkW P ops (Post k x nt Q) dr dos ends l a w :=
  walkW_mono (fun _ _ _ p => p.ext h) q

theorem aw_seq {a b : Code} (h : AWk P nt a (thenQ (AWk P nt b Q) Q) fr σ) : AWk P nt (.seq a b) Q fr σ := by
  refine ⟨fun k x A w s => ?_⟩
  refine wp_seq (wp_mono (h.out k x A w s) fun e A' w' p => ?_)
  cases e with
  | normal =>
    obtain ⟨d, fr', σ', hx, hs, hq⟩ := p
    exact wp_mono (hq.out k d A' w' hs) fun _ _ _ p => p.ext hx
  | _ => exact p

theorem aw_cond {c : Operand} {a b : Code} {t : Bool} (hc : aget fr c = .d (.v (.bool t))) (ht : t = true → AWk P nt a Q fr σ) (hf : t = false → AWk P nt b Q fr σ) : AWk P nt (.cond c a b) Q fr σ := by
  refine ⟨fun k x A w s => ?_⟩
  have he : A.eval c = .bool t := by
    cases c with
    | tmp i =>
      have := s.tmps i
      simp only [aget] at hc
      rw [hc] at this
      exact this.1
    | const v =>
      simp only [aget] at hc
      cases v <;> simp only [constAV] at hc <;> try cases hc
      · rfl
      · rename_i a l c
        split at hc <;> (try cases hc) <;> rename_i h <;> cases h
      · rename_i cs
        cases hq : cs.toList.all (·.oneCell') <;> rw [hq] at hc <;> cases hc
    | global g => cases hc
    | func f => cases hc
  exact wp_cond_split he (fun e => (ht e).out k x A w s) (fun e => (hf e).out k x A w s)

theorem aw_true {c : Operand} {a b : Code} (hc : aget fr c = .d (.v (.bool true))) (h : AWk P nt a Q fr σ) : AWk P nt (.cond c a b) Q fr σ := aw_cond hc (fun _ => h) (fun e => by cases e)
theorem aw_false {c : Operand} {a b : Code} (hc : aget fr c = .d (.v (.bool false))) (h : AWk P nt b Q fr σ) : AWk P nt (.cond c a b) Q fr σ := aw_cond hc (fun e => by cases e) (fun _ => h)

theorem aw_block {id : Nat} {c : Code} (h : AWk P nt c (blockQ id Q) fr σ) : AWk P nt (.block id c) Q fr σ := by
  refine ⟨fun k x A w s => ?_⟩
  refine wp_block (wp_mono (h.out k x A w s) fun e A' w' p => ?_)
  cases e with
  | exit i =>
    obtain ⟨d, fr', σ', hx, hs, hq⟩ := p
    simp only [blockQ] at hq
    simp only [Exit.inBlock]
    split at hq
    · rename_i e; rw [if_pos e]; exact ⟨d, fr', σ', hx, hs, hq⟩
    · rename_i e; rw [if_neg e]; exact ⟨d, fr', σ', hx, hs, hq⟩
  | _ => exact p

theorem aw_skip (h : Q .normal fr σ) : AWk P nt .skip Q fr σ := ⟨fun k x A w s => wp_skip ⟨x, fr, σ, .refl x, s, h⟩⟩
theorem aw_exit {id : Nat} (h : Q (.exit id) fr σ) : AWk P nt (.exit id) Q fr σ := ⟨fun k x A w s => wp_exit ⟨x, fr, σ, .refl x, s, h⟩⟩
theorem aw_ret (h : Q .ret fr σ) : AWk P nt .ret Q fr σ := ⟨fun k x A w s => wp_ret ⟨x, fr, σ, .refl x, s, h⟩⟩

theorem aw_loop {c : Code} (I : Nat → Fr → List AObj → Prop) {n : Nat} (h0 : I n fr σ)
    (round : ∀ n fr σ, I n fr σ → AWk P nt c (thenQ (fun fr' σ' => ∃ m, m < n ∧ I m fr' σ') Q) fr σ) : AWk P nt (.loop c) Q fr σ := by
  refine ⟨fun k x A w s => ?_⟩
  refine wp_loop_n (fun n a w => ∃ d fr σ, CtxExt x d ∧ Sim k d nt fr σ a w ∧ I n fr σ) ⟨x, fr, σ, .refl x, s, h0⟩ fun n a w ⟨d, fr', σ', hx, hs, hi⟩ => ?_
  refine wp_mono ((round n fr' σ' hi).out k d a w hs) fun e A' w' p => ?_
  cases e with
  | normal =>
    obtain ⟨d', fr2, σ2, hx2, hs2, m, hm, hi2⟩ := p
    exact ⟨m, hm, d', fr2, σ2, hx.trans hx2, hs2, hi2⟩
  | _ => exact Post.ext hx p

theorem aw_region {id : Nat} (h : AL P nt ops false [] [] (trOf (List.range ops.size)) Q fr σ) : AWk P nt (.region id ops false) Q fr σ :=
  ⟨fun k x A w s => wp_region (walkW_ops _ _ _ (h.out k x A w s))⟩

theorem Sim.drew {k : K0} {x : Ctx} {A : Act} {w : World} (s : Sim k x nt fr σ A w) : Sim k x nt fr σ A w.drew :=
  ⟨s.size, s.defers, s.tmps, ⟨s.heap.hF, s.heap.hR, s.heap.n, s.heap.FR, s.heap.own⟩, ⟨s.calm.os, s.calm.tape, s.calm.output⟩⟩

theorem aw_draws {id : Nat} (l : Trr) (dos ends : List Nat) (hm : P.follows .mixedOrders = true) (hB : orderT ops dos ends l = true) (h : AL P nt ops true dos ends l Q fr σ) : AWk P nt (.region id ops true) Q fr σ :=
  ⟨fun k x A w s => wp_region_walk dos ends hm hB (fun c d v a w h => ⟨by have := h.1; cases d <;> exact this, h.2⟩) (h.out k x A w.drew s.drew)⟩

theorem al_nil (h : Q .normal fr σ) : AL P nt ops dr dos ends .nil Q fr σ := ⟨fun k x A w s => ⟨x, fr, σ, .refl x, s, h⟩⟩

/-- An operation that only reads. -/
def RdOp (P : Program) (o : Oper) (fr : Fr) (σ : List AObj) (v : AV) : Prop :=
  ∀ k x nt A w, Sim k x nt fr σ A w → ∃ u, ARep x v u ∧ ∀ w', Sees o w w' → (execOp A.eval o).run P w' = .ok (.value u) w'

def fput (dst : Option Tmp) (v : AV) (fr : Fr) : Fr := match dst with
  | some t => (t, v) :: fr
  | none => fr

def dstOk (dst : Option Tmp) (nt : Nat) : Bool := match dst with
  | some t => Nat.blt t nt
  | none => true

def guardA (ops : Array Oper) (fr : Fr) (o : Oper) : Option Bool := match o.guard with
  | none => some true
  | some (j, want) => match (ops[j]?).bind (·.dst) with
    | some t => match fget fr t with
      | .d (.v (.bool b)) => some (b == want)
      | _ => none
    | none => none

theorem fget_cons_self (t : Nat) (v : AV) (fr : Fr) : fget ((t, v) :: fr) t = v := by simp [fget]
theorem fget_cons_ne {t i : Nat} (v : AV) (fr : Fr) (h : t ≠ i) : fget ((t, v) :: fr) i = fget fr i := by
  have : Nat.beq t i = false := by rw [← Bool.not_eq_true]; exact fun e => h (Nat.eq_of_beq_eq_true e)
  simp [fget, this]

theorem Sim.put {k : K0} {x : Ctx} {A : Act} {w : World} (s : Sim k x nt fr σ A w) {dst : Option Tmp} {v : AV} {u : Value} (hd : dstOk dst nt = true) (h : ARep x v u) : Sim k x nt (fput dst v fr) σ (A.put dst u) w := by
  cases dst with
  | none => exact s
  | some t =>
    have ht : t < A.tmps.size := by rw [s.size]; simpa [dstOk] using hd
    refine ⟨by simp [Act.put, s.size], s.defers, fun i => ?_, s.heap, s.calm⟩
    simp only [Act.put, fput]
    by_cases e : t = i
    · subst e
      rw [fget_cons_self]
      simpa [Array.getD, ht] using h
    · rw [fget_cons_ne _ _ e]
      have := s.tmps i
      simpa [Array.getD_eq_getD_getElem?, Array.getElem?_setIfInBounds, e] using this

theorem guardA_spec {k : K0} {x : Ctx} {A : Act} {w : World} (s : Sim k x nt fr σ A w) {o : Oper} {b : Bool} (h : guardA ops fr o = some b) : Region.wanted o (yielded ops A.tmps) = b := by
  unfold guardA at h
  unfold Region.wanted
  split at h
  · rename_i hg; rw [hg]; simpa using h
  · rename_i j want hg
    rw [hg]
    simp only
    split at h
    · rename_i t ht
      split at h
      · rename_i v hv
        have hs := s.tmps t
        rw [hv] at hs
        obtain ⟨e, _⟩ := hs
        injection h with h
        unfold yielded
        rw [ht]
        simp only [Option.bind_some]
        rw [Array.getD_eq_getD_getElem?] at e
        cases hq : A.tmps[t]? with
        | none => rw [hq] at e; simp [undef] at e
        | some q =>
          rw [hq] at e
          simp only [Option.getD_some] at e
          subst e
          simp only
          rw [← h]
          simp
      · cases h
    · cases h

theorem al_read {i : Nat} {o : Oper} {v : AV} (ho : ops[i]? = some o) (hg : guardA ops fr o = some true) (ht : dstOk o.dst nt = true) (hr : RdOp P o fr σ v)
    (h : AL P nt ops dr dos ends l Q (fput o.dst v fr) σ) : AL P nt ops dr dos ends (.one i l) Q fr σ := by
  refine ⟨fun k x A w s => ?_⟩
  obtain ⟨u, h1, h2⟩ := hr k x nt A w s
  unfold walkW stepW
  cases hd : (dr && dos.contains i) with
  | false => exact .inl ⟨rfl, o, u, ho, .inl ⟨guardA_spec s hg, h2⟩, h.out k x _ w (s.put ht h1)⟩
  | true =>
    refine .inr ⟨by rw [Bool.and_eq_true] at hd; rw [hd.1, hd.2]; rfl, ?_⟩
    have hy : YieldsIf P ops (Sees o w) o u A := .inl ⟨guardA_spec s hg, h2⟩
    exact hy.wpOp ho (Sees.refl o w) ⟨fun _ => Agree.refl w, h.out k x _ w (s.put ht h1)⟩

/-- An operation that does something. -/
def DoOp (P : Program) (nt : Nat) (o : Oper) (fr : Fr) (σ : List AObj) (keep : Bool) (next : Fr → List AObj → Prop) : Prop :=
  ∀ k x A w Q, Sim k x nt fr σ A w → o.wp P A w (fun A' w' => (keep = true → Agree w w') ∧ ∃ x' fr' σ', CtxExt x x' ∧ Sim k x' nt fr' σ' A' w' ∧ next fr' σ') Q

theorem al_do {i : Nat} {o : Oper} {keep : Bool} (ho : ops[i]? = some o) (hd : (dr && !dos.contains i) = false) (hk : (dr && !ends.contains i && !keep) = false) (hg : guardA ops fr o = some true)
    (h : DoOp P nt o fr σ keep (AL P nt ops dr dos ends l Q)) : AL P nt ops dr dos ends (.one i l) Q fr σ := by
  refine ⟨fun k x A w s => ?_⟩
  unfold walkW stepW
  refine .inr ⟨hd, ?_⟩
  have h1 := h k x A w (Post k x nt Q) s
  unfold wpOp
  simp only [ho, guardA_spec s hg, if_true]
  refine .inl ?_
  have key : ∀ A' w', ((keep = true → Agree w w') ∧ ∃ x' fr' σ', CtxExt x x' ∧ Sim k x' nt fr' σ' A' w' ∧ AL P nt ops dr dos ends l Q fr' σ') → ((dr && !ends.contains i) = true → Agree w w') ∧ walkW P ops (Post k x nt Q) dr dos ends l A' w' := by
    rintro A' w' ⟨hkeep, x', fr', σ', hx, hs, hn⟩
    refine ⟨fun hb => hkeep ?_, walkW_ext hx (hn.out k x' A' w' hs)⟩
    rw [hb] at hk
    simpa using hk
  exact upon_mono key (fun _ _ _ q => q) h1

/-- Two that do something, in either order. -/
theorem al_fork {i j : Nat} {r s : Trr} (h1 : AL P nt ops dr dos ends (.one i r) Q fr σ) (h2 : AL P nt ops dr dos ends (.one j s) Q fr σ) : AL P nt ops dr dos ends (.fork i r j s) Q fr σ :=
  ⟨fun k x A w t => ⟨h1.out k x A w t, h2.out k x A w t⟩⟩
theorem al_fork3 {i j m : Nat} {r s t : Trr} (h1 : AL P nt ops dr dos ends (.one i r) Q fr σ) (h2 : AL P nt ops dr dos ends (.one j s) Q fr σ) (h3 : AL P nt ops dr dos ends (.one m t) Q fr σ) : AL P nt ops dr dos ends (.fork3 i r j s m t) Q fr σ :=
  ⟨fun k x A w u => ⟨h1.out k x A w u, h2.out k x A w u, h3.out k x A w u⟩⟩
/-! Ghost steps. -/

/-- A change of view that the memory allows. -/
def Ghost (fr : Fr) (σ : List AObj) (fr' : Fr) (σ' : List AObj) : Prop :=
  ∀ k x nt A w, Sim k x nt fr σ A w → ∃ x', CtxExt x x' ∧ Sim k x' nt fr' σ' A w

theorem aw_ghost {c : Code} {fr' : Fr} {σ' : List AObj} (g : Ghost fr σ fr' σ') (h : AWk P nt c Q fr' σ') : AWk P nt c Q fr σ := by
  refine ⟨fun k x A w s => ?_⟩
  obtain ⟨x', hx, s'⟩ := g k x nt A w s
  exact wp_mono (h.out k x' A w s') fun _ _ _ p => p.ext hx

theorem al_ghost {fr' : Fr} {σ' : List AObj} (g : Ghost fr σ fr' σ') (h : AL P nt ops dr dos ends l Q fr' σ') : AL P nt ops dr dos ends l Q fr σ := by
  refine ⟨fun k x A w s => ?_⟩
  obtain ⟨x', hx, s'⟩ := g k x nt A w s
  exact walkW_ext hx (h.out k x' A w s')

/-- Frames that say less. -/
theorem ghost_frame {fr' : Fr} (h : ∀ i, fget fr' i = fget fr i ∨ fget fr' i = .any) : Ghost fr σ fr' σ := by
  intro k x nt A w s
  refine ⟨x, .refl x, s.size, s.defers, fun i => ?_, s.heap, s.calm⟩
  rcases h i with e | e
  · rw [e]; exact s.tmps i
  · rw [e]; exact trivial

theorem ghost_bool {t : Nat} {b : Bool} (h : fget fr t = .d (.v (.bool b))) : Ghost fr σ ((t, .d (.v (.bool b))) :: fr) σ := by
  refine ghost_frame fun i => .inl ?_
  by_cases e : t = i
  · subst e; rw [fget_cons_self, h]
  · rw [fget_cons_ne _ _ e]

theorem al_split {t : Nat} {b : Bool} (h : fget fr t = .d (.v (.bool b))) (ht : b = true → AL P nt ops dr dos ends l Q ((t, .d (.v (.bool true))) :: fr) σ)
    (hf : b = false → AL P nt ops dr dos ends l Q ((t, .d (.v (.bool false))) :: fr) σ) : AL P nt ops dr dos ends l Q fr σ := by
  refine al_ghost (ghost_bool h) ?_
  cases b
  · exact hf rfl
  · exact ht rfl
end

end Go.Proofs.Ytciciaikajdenaa

/- Owned memory: new objects, changed objects, frozen objects; calls. -/
namespace Go.Proofs.Ytciciaikajdenaa
open Go.RowKit

def Ctx.push (x : Ctx) (s : Slot) : Ctx := ⟨x.F, fun l => if l = x.n then s else x.env l, x.n + 1⟩
def Ctx.upd (x : Ctx) (l : Nat) (s : Slot) : Ctx := ⟨x.F, fun k => if k = l then s else x.env k, x.n⟩
def Ctx.frz (x : Ctx) (F : Frag) : Ctx := ⟨F, x.env, x.n⟩

theorem Ctx.push_ext (x : Ctx) (s : Slot) : CtxExt x (x.push s) := by
  refine ⟨Le.refl _, Nat.le_succ _, fun l hl => ?_, fun l hl _ => ?_⟩
  · simp [Ctx.push, Nat.ne_of_lt hl]
  · simp [Ctx.push, Nat.ne_of_lt hl]
theorem Ctx.upd_ext {x : Ctx} {l : Nat} {s : Slot} (hv : (x.env l).ver ≤ s.ver) (he : s.ver = (x.env l).ver → s.blk = (x.env l).blk ∧ s.cap = (x.env l).cap ∧ s.live = (x.env l).live) : CtxExt x (x.upd l s) := by
  refine ⟨Le.refl _, Nat.le_refl _, fun k hk => ?_, fun k hk => ?_⟩
  · simp only [Ctx.upd]; split
    · rename_i e; rw [e]; exact hv
    · exact Nat.le_refl _
  · simp only [Ctx.upd]; split
    · rename_i e; rw [e]; exact he
    · exact fun _ => ⟨rfl, rfl, rfl⟩
theorem Ctx.frz_ext {x : Ctx} {F : Frag} (h : Le x.F F) : CtxExt x (x.frz F) := ⟨h, Nat.le_refl _, fun _ _ => Nat.le_refl _, fun _ _ _ => ⟨rfl, rfl, rfl⟩⟩

theorem heap_lt {w : World} {f : Frag} (h : Le f (fun b => w.heap[b]?)) {b : Nat} {o : Obj} (e : f b = some o) : b < w.heap.size := (Array.getElem?_eq_some_iff.1 (h _ _ e)).1

theorem agree_alloc (w : World) (o : Obj) : Agree w (w.alloc o) := fun b hb => Below.heap_alloc w o b hb

theorem Calm.alloc {B : Base} {w : World} (h : Calm B w) (o : Obj) : Calm B (w.alloc o) := ⟨h.os, h.tape, h.output⟩

def oneFrag (b : Nat) (o : Obj) : Frag := fun k => if k = b then some o else none

theorem Le.agree {w w' : World} {f : Frag} (h : Le f (fun b => w.heap[b]?)) (a : Agree w w') : Le f (fun b => w'.heap[b]?) := fun b o e => a.get (h b o e)

theorem Heap.new {x : Ctx} {σ : List AObj} {R : Frag} {w : World} (h : Heap x σ R w) {s : Slot} {o : AObj} {ob : Obj} (ho : ORep (x.push s) s o (oneFrag w.heap.size ob)) : Heap (x.push s) (σ ++ [o]) R (w.alloc ob) := by
  obtain ⟨g, g1, g2, g3, g4⟩ := h.own
  have ag := agree_alloc w ob
  have out : ∀ f : Frag, Le f (fun b => w.heap[b]?) → Disj (oneFrag w.heap.size ob) f := fun f hf b => by
    by_cases e : b = w.heap.size
    · right
      cases hb : f b with
      | none => rfl
      | some o => have := heap_lt hf hb; omega
    · left; simp [oneFrag, e]
  refine ⟨h.hF.agree ag, h.hR.agree ag, by simp [Ctx.push, h.n], h.FR, fun l => if l = x.n then oneFrag w.heap.size ob else g l, fun l o' hl => ?_, fun l => ?_, fun l k hlk => ?_, fun l => ?_⟩
  · by_cases e : l = x.n
    · subst e
      rw [h.n, List.getElem?_concat_length] at hl
      injection hl with hl
      subst hl
      (try dsimp only)
      rw [if_pos rfl]
      have : (x.push s).env x.n = s := by simp [Ctx.push]
      rw [this]; exact ho
    · have hlt : l < σ.length := by
        have := (List.getElem?_eq_some_iff.1 hl).1
        simp at this
        rw [h.n] at e
        omega
      rw [List.getElem?_append_left hlt] at hl
      (try dsimp only)
      rw [if_neg e]
      have : (x.push s).env l = x.env l := by simp [Ctx.push, e]
      rw [this]
      exact (g1 l o' hl).ext (x.push_ext s)
  · (try dsimp only)
    split
    · intro b o' e
      simp only [oneFrag] at e
      split at e
      · rename_i hb; injection e with e; subst hb e; exact heap_alloc_new w ob
      · cases e
    · exact (g2 l).agree ag
  · (try dsimp only)
    split
    · rename_i e
      rw [if_neg (by omega)]
      exact out _ (g2 k)
    · (try dsimp only)
      split
      · exact (out _ (g2 l)).symm
      · exact g3 l k hlk
  · (try dsimp only)
    split
    · exact ⟨out _ h.hF, out _ h.hR⟩
    · exact g4 l

/-- An owned object changes. -/
theorem Heap.upd {x : Ctx} {σ : List AObj} {R : Frag} {w w' : World} (h : Heap x σ R w) {l : Nat} {o o' : AObj} (hl : σ[l]? = some o) {s : Slot} (hx : CtxExt x (x.upd l s))
    (hc : ∀ g0, ORep x (x.env l) o g0 → Le g0 (fun b => w.heap[b]?) → (∃ g1, ORep (x.upd l s) s o' g1 ∧ Le g1 (fun b => w'.heap[b]?) ∧ (∀ b, g1 b ≠ none → g0 b ≠ none ∨ w.heap.size ≤ b)) ∧ ∀ b, g0 b = none → b < w.heap.size → w'.heap[b]? = w.heap[b]?) : Heap (x.upd l s) (σ.set l o') R w' := by
  obtain ⟨g, g1, g2, g3, g4⟩ := h.own
  obtain ⟨⟨f, f1, f2, f3⟩, hk⟩ := hc (g l) (g1 l o hl) (g2 l)
  have keep : ∀ k : Frag, Disj (g l) k → Le k (fun b => w.heap[b]?) → Le k (fun b => w'.heap[b]?) := fun k dk hle b o e => by
    rcases dk b with d | d
    · exact (hk b d (heap_lt hle e)).trans (hle b o e)
    · rw [d] at e; cases e
  have dis : ∀ k : Frag, Disj (g l) k → Le k (fun b => w.heap[b]?) → Disj f k := fun k dk hle b => by
    cases hb : f b with
    | none => exact .inl rfl
    | some o =>
      right
      rcases f3 b (by rw [hb]; simp) with q | q
      · exact (dk b).resolve_left q
      · cases hk : k b with
        | none => rfl
        | some o => have := heap_lt hle hk; omega
  have ll : l < σ.length := (List.getElem?_eq_some_iff.1 hl).1
  refine ⟨keep _ (g4 l).1 h.hF, keep _ (g4 l).2 h.hR, by simp [Ctx.upd, h.n], h.FR, fun k => if k = l then f else g k, fun k o2 hk2 => ?_, fun k => ?_, fun k j hkj => ?_, fun k => ?_⟩
  · by_cases e : k = l
    · subst e
      rw [List.getElem?_set_self ll] at hk2
      injection hk2 with hk2
      subst hk2
      (try dsimp only)
      rw [if_pos rfl]
      have : (x.upd k s).env k = s := by simp [Ctx.upd]
      rw [this]; exact f1
    · rw [List.getElem?_set_ne (Ne.symm e)] at hk2
      (try dsimp only)
      rw [if_neg e]
      have : (x.upd l s).env k = x.env k := by simp [Ctx.upd, e]
      rw [this]
      exact (g1 k o2 hk2).ext hx
  · (try dsimp only)
    split
    · exact f2
    · rename_i e; exact keep _ (g3 l k (Ne.symm e)) (g2 k)
  · (try dsimp only)
    split
    · rename_i e
      rw [if_neg (by omega)]
      exact dis _ (g3 l j (by omega)) (g2 j)
    · rename_i e
      split
      · exact (dis _ (g3 l k (Ne.symm e)) (g2 k)).symm
      · exact g3 k j hkj
  · (try dsimp only)
    split
    · exact ⟨dis _ (g4 l).1 h.hF, dis _ (g4 l).2 h.hR⟩
    · exact g4 k

/-- An owned object becomes frozen. -/
theorem Heap.freeze {x : Ctx} {σ : List AObj} {R : Frag} {w : World} (h : Heap x σ R w) {l : Nat} {o : AObj} (hl : σ[l]? = some o) :
    ∃ f, ORep x (x.env l) o f ∧ Disj f x.F ∧ Heap (x.frz (Un x.F f)) (σ.set l .dead) R w := by
  obtain ⟨g, g1, g2, g3, g4⟩ := h.own
  refine ⟨g l, g1 l o hl, (g4 l).1, Le.un h.hF (g2 l), h.hR, by simp [Ctx.frz, h.n], ?_, fun k => if k = l then fun _ => none else g k, fun k o2 hk2 => ?_, fun k => ?_, fun k j hkj => ?_, fun k => ?_⟩
  · exact (Disj.un_right h.FR.symm (g4 l).2.symm).symm
  · by_cases e : k = l
    · subst e
      rw [List.getElem?_set_self (List.getElem?_eq_some_iff.1 hl).1] at hk2
      injection hk2 with hk2
      subst hk2
      trivial
    · rw [List.getElem?_set_ne (Ne.symm e)] at hk2
      (try dsimp only)
      rw [if_neg e]
      exact (g1 k o2 hk2).ext (Ctx.frz_ext (Le.un_left _ _))
  · (try dsimp only)
    split
    · intro b o e; cases e
    · exact g2 k
  · (try dsimp only)
    split
    · exact fun b => .inl rfl
    · (try dsimp only)
      split
      · exact fun b => .inr rfl
      · exact g3 k j hkj
  · (try dsimp only)
    split
    · exact ⟨fun b => .inl rfl, fun b => .inl rfl⟩
    · rename_i e
      exact ⟨Disj.un_right (g4 k).1 (g3 k l e), (g4 k).2⟩

/-! Calls. -/

def isGo (P : Program) (g : FuncId) : Bool := match P.funcs[g]? with
  | some fn => fn.name != "runtime.NumGoroutine" && fn.body.isSome
  | none => false

/-- A function that may write owned objects. -/
def Runs (P : Program) (f : FuncId) (args : List AV) (σ : List AObj) (post : AV → List AObj → Prop) : Prop :=
  isGo P f = true ∧ ∀ (B : Base) (R : Frag) (x : Ctx) (w : World) (vs : List Value), ALRep x args vs → Heap x σ R w → Calm B w →
    Calls P f vs.toArray w fun e w' => ∃ u v x' σ', e = .returned u ∧ CtxExt x x' ∧ ARep x' v u ∧ Heap x' σ' R w' ∧ Calm B w' ∧ post v σ'

/-- A function over frozen data. -/
def RunsP (P : Program) (f : FuncId) (args : List DV) (post : DV → Prop) : Prop :=
  isGo P f = true ∧ ∀ (B : Base) (F : Frag) (w : World) (vs : List Value), LRep F args vs → Le F (fun b => w.heap[b]?) → Calm B w →
    Calls P f vs.toArray w fun e w' => ∃ u v F', e = .returned u ∧ Le F F' ∧ DRep F' v u ∧ Le F' (fun b => w'.heap[b]?) ∧ Agree w w' ∧ (∀ b, F b = none → b < w.heap.size → F' b = none) ∧ Calm B w' ∧ post v

theorem Runs.mono {P : Program} {f : FuncId} {args : List AV} {σ : List AObj} {post post' : AV → List AObj → Prop} (h : Runs P f args σ post) (q : ∀ v σ', post v σ' → post' v σ') : Runs P f args σ post' :=
  ⟨h.1, fun B R x w vs a b c => Calls.mono (h.2 B R x w vs a b c) fun e w' ⟨u, v, x', σ', h1, h2, h3, h4, h5, h6⟩ => ⟨u, v, x', σ', h1, h2, h3, h4, h5, q _ _ h6⟩⟩
theorem RunsP.mono {P : Program} {f : FuncId} {args : List DV} {post post' : DV → Prop} (h : RunsP P f args post) (q : ∀ v, post v → post' v) : RunsP P f args post' :=
  ⟨h.1, fun B F w vs a b c => Calls.mono (h.2 B F w vs a b c) fun e w' ⟨u, v, F', h1, h2, h3, h4, h5, h6, h7, h8⟩ => ⟨u, v, F', h1, h2, h3, h4, h5, h6, h7, q _ h8⟩⟩

theorem ALRep.ofD {x : Ctx} : ∀ {ds : List DV} {us : List Value}, LRep x.F ds us → ALRep x (ds.map .d) us
  | [], _, h => h
  | _ :: _, _, ⟨u, us', e, r, q⟩ => ⟨u, us', e, r, ALRep.ofD q⟩

theorem Runs.pure {P : Program} {f : FuncId} {args : List DV} {post : DV → Prop} (h : Runs P f (args.map .d) [] fun v _ => ∃ d, v = .d d ∧ post d) : RunsP P f args post := by
  refine ⟨h.1, fun B F w vs a b c => ?_⟩
  have h0 : Heap ⟨F, fun _ => ⟨0, 0, 0, false⟩, 0⟩ [] (fun k => if F k = none then w.heap[k]? else none) w := by
    refine ⟨b, fun k o e => ?_, rfl, fun k => ?_, fun _ _ => none, (fun l o e => by simp at e), (fun l b o e => by cases e), (fun _ _ _ _ => .inl rfl), (fun _ => ⟨fun _ => .inl rfl, fun _ => .inl rfl⟩)⟩
    · split at e
      · exact e
      · cases e
    · by_cases q : F k = none
      · exact .inl q
      · right; exact if_neg q
  have hh := h.2 B (fun k => if F k = none then w.heap[k]? else none) ⟨F, fun _ => ⟨0, 0, 0, false⟩, 0⟩ w vs (ALRep.ofD a) h0 c
  refine Calls.mono hh fun e w' ⟨u, v, x', σ', h1, h2, h3, h4, h5, d, hd, h6⟩ => ?_
  subst hd
  refine ⟨u, d, x'.F, h1, h2.F, h3, h4.hF, fun k hk => ?_, fun k hk hlt => ?_, h5, h6⟩
  · have hs := Array.getElem?_eq_getElem hk
    cases q : F k with
    | some o => exact (h4.hF k o (h2.F k o q)).trans (b k o q).symm
    | none => exact (h4.hR k _ ((if_pos q).trans hs)).trans hs.symm
  · rcases h4.FR k with e | e
    · exact e
    · simp only [hk, if_true] at e
      rw [Array.getElem?_eq_getElem hlt] at e
      cases e

def frameOf : List AV → Nat → Fr
  | [], _ => []
  | a :: l, i => (i, a) :: frameOf l (i + 1)

def resA (fn : Func) (fr : Fr) : Option AV := match fn.results.toList with
  | [.tmp t] => some (fget fr t)
  | [] => some (.tup [])
  | [.tmp s, .tmp t] => some (.tup [fget fr s, fget fr t])
  | [.tmp r, .tmp s, .tmp t] => some (.tup [fget fr r, fget fr s, fget fr t])
  | _ => none

def retQ (fn : Func) (post : AV → List AObj → Prop) : Exit → Fr → List AObj → Prop
  | .normal, fr, σ => ∃ v, resA fn fr = some v ∧ post v σ
  | .ret, fr, σ => ∃ v, resA fn fr = some v ∧ post v σ
  | _, _, _ => False

theorem ALRep.len {x : Ctx} : ∀ {ds : List AV} {us : List Value}, ALRep x ds us → us.length = ds.length
  | [], _, h => by rw [h]; rfl
  | _ :: _, _, ⟨u, us', e, r, q⟩ => by rw [e]; simp [ALRep.len q]

theorem frame_rep {x : Ctx} (rest : Array Value) : ∀ {args : List AV} {vs : List Value} (pre : Array Value), ALRep x args vs → ∀ i, ARep x (fget (frameOf args pre.size) i) ((pre ++ vs.toArray ++ rest).getD i undef)
  | [], _, pre, h, i => trivial
  | a :: args, _, pre, ⟨u, us', e, r, q⟩, i => by
    subst e
    unfold frameOf
    by_cases hi : pre.size = i
    · subst hi
      rw [fget_cons_self]
      simpa [Array.getD_eq_getD_getElem?, Array.getElem?_append] using r
    · rw [fget_cons_ne _ _ hi]
      have := frame_rep rest (pre.push u) q i
      simpa using this

theorem resA_spec {P : Program} {fn : Func} {k : K0} {x : Ctx} {nt : Nat} {fr : Fr} {σ : List AObj} {A : Act} {w : World} (s : Sim k x nt fr σ A w) {v : AV} (h : resA fn fr = some v) : ∃ u, (results fn A.tmps).run P w = .ok u w ∧ ARep x v u := by
  unfold resA at h
  have hl : fn.results = fn.results.toList.toArray := by simp
  have key : ∀ (l : List ResultVar), fn.results.toList = l → fn.results = l.toArray := fun l e => by rw [hl, e]
  split at h
  · rename_i t e
    injection h with h; subst h
    exact ⟨A.tmps.getD t undef, by unfold results; rw [key _ e]; simp [Sem.run], s.tmps t⟩
  · rename_i e
    injection h with h; subst h
    exact ⟨.tuple #[], by unfold results; rw [key _ e]; simp [Sem.run], [], rfl, rfl⟩
  · rename_i r t e
    injection h with h; subst h
    exact ⟨.tuple #[A.tmps.getD r undef, A.tmps.getD t undef], by unfold results; rw [key _ e]; simp [Sem.run], _, rfl, _, _, rfl, s.tmps r, _, _, rfl, s.tmps t, rfl⟩
  · rename_i r t q e
    injection h with h; subst h
    exact ⟨.tuple #[A.tmps.getD r undef, A.tmps.getD t undef, A.tmps.getD q undef], by unfold results; rw [key _ e]; simp [Sem.run], _, rfl, _, _, rfl, s.tmps r, _, _, rfl, s.tmps t, _, _, rfl, s.tmps q, rfl⟩
  · cases h

theorem runs_enter {P : Program} {f : FuncId} {fn : Func} {c : Code} {args : List AV} {σ : List AObj} {post : AV → List AObj → Prop} (hf : P.funcs[f]? = some fn) (hb : fn.body = some c) (hg : isGo P f = true) (hn : Nat.ble args.length fn.ntmps = true)
    (h : AWk P fn.ntmps c (retQ fn post) (frameOf args 0) σ) : Runs P f args σ post := by
  refine ⟨hg, fun B R x w vs ha hh hc => ?_⟩
  refine calls_of_wp hf hb ?_
  have hl := ha.len
  have hn := Nat.le_of_ble_eq_true hn
  have s : Sim ⟨B, R, []⟩ x fn.ntmps (frameOf args 0) σ { tmps := vs.toArray ++ Array.replicate (fn.ntmps - vs.toArray.size) undef, defers := [] } w := by
    refine ⟨by simp; omega, rfl, fun i => ?_, hh, hc⟩
    have := frame_rep (Array.replicate (fn.ntmps - vs.toArray.size) undef) #[] ha i
    simpa using this
  refine wp_mono (h.out _ x _ w s) fun e A w' p => ?_
  cases e with
  | normal =>
    obtain ⟨x', fr, σ', hx, hs, v, hr, hp⟩ := p
    obtain ⟨u, h1, h2⟩ := resA_spec (P := P) hs hr
    exact ⟨hs.defers, u, h1, u, v, x', σ', rfl, hx, h2, hs.heap, hs.calm, hp⟩
  | ret =>
    obtain ⟨x', fr, σ', hx, hs, v, hr, hp⟩ := p
    obtain ⟨u, h1, h2⟩ := resA_spec (P := P) hs hr
    exact ⟨hs.defers, u, h1, u, v, x', σ', rfl, hx, h2, hs.heap, hs.calm, hp⟩
  | exit i => obtain ⟨x', fr, σ', hx, hs, hp⟩ := p; exact hp
  | goto i => obtain ⟨x', fr, σ', hx, hs, hp⟩ := p; exact hp
  | panic _ => obtain ⟨_, _, _, _, _, _, hq⟩ := p; exact hq.elim
  | outgrown => exact p.elim

end Go.Proofs.Ytciciaikajdenaa

/- Tables of types; the operations that read. -/
namespace Go.Proofs.Ytciciaikajdenaa
open Go.RowKit

/-- What is known of the types. ty: type, cells, bytes, an aggregate; fld: struct, field, offset; sl: slice type, element. -/
structure Tab where
  ty : List (Nat × Nat × Nat × Bool)
  fld : List (Nat × Nat × Nat)
  sl : List (Nat × Nat)

def okTy (P : Program) (r : Nat × Nat × Nat × Bool) : Bool := match P.info? r.1, P.underlying r.1 with
  | some i, some d => Nat.beq i.size r.2.1 && Nat.beq i.bytes r.2.2.1 && ((match d with | .struct _ | .array _ _ => true | _ => false) == r.2.2.2)
  | _, _ => false
def okFld (P : Program) (r : Nat × Nat × Nat) : Bool := match P.underlying r.1 with
  | some (.struct fs) => match fs[r.2.1]? with
    | some f => Nat.beq f.offset r.2.2 && (match P.info? f.type with | some i => !Nat.beq i.size 0 | none => false)
    | none => false
  | _ => false
def okSl (P : Program) (r : Nat × Nat) : Bool := match P.underlying r.1 with
  | some (.slice e) => Nat.beq e r.2
  | _ => false
def okTab (P : Program) (T : Tab) : Bool := T.ty.all (okTy P) && T.fld.all (okFld P) && T.sl.all (okSl P)

def find1 {α : Type} : List (Nat × α) → Nat → Option α
  | [], _ => none
  | (k, x) :: l, i => bif Nat.beq k i then some x else find1 l i
def find2 : List (Nat × Nat × Nat) → Nat → Nat → Option Nat
  | [], _, _ => none
  | (k, j, x) :: l, i, f => bif Nat.beq k i && Nat.beq j f then some x else find2 l i f

theorem find1_mem {α : Type} : ∀ {l : List (Nat × α)} {i : Nat} {x : α}, find1 l i = some x → (i, x) ∈ l
  | [], _, _, h => by cases h
  | (k, y) :: l, i, x, h => by
    unfold find1 at h
    cases e : Nat.beq k i with
    | true => rw [e] at h; injection h with h; rw [Nat.eq_of_beq_eq_true e, h]; exact List.mem_cons_self
    | false => rw [e] at h; exact List.mem_cons_of_mem _ (find1_mem h)
theorem find2_mem : ∀ {l : List (Nat × Nat × Nat)} {i f x : Nat}, find2 l i f = some x → (i, f, x) ∈ l
  | [], _, _, _, h => by cases h
  | (k, j, y) :: l, i, f, x, h => by
    unfold find2 at h
    cases e : (Nat.beq k i && Nat.beq j f) with
    | true =>
      rw [e] at h; injection h with h
      rw [Bool.and_eq_true] at e
      rw [Nat.eq_of_beq_eq_true e.1, Nat.eq_of_beq_eq_true e.2, h]; exact List.mem_cons_self
    | false => rw [e] at h; exact List.mem_cons_of_mem _ (find2_mem h)

section
variable {P : Program} {T : Tab}

structure TyIs (P : Program) (t sz bytes : Nat) (agg : Bool) : Prop where
  ex : ∃ i d, P.info? t = some i ∧ P.underlying t = some d ∧ i.size = sz ∧ i.bytes = bytes ∧ (match d with | .struct _ | .array _ _ => true | _ => false) = agg

theorem Tab.tyIs (hT : okTab P T = true) {t sz bytes : Nat} {agg : Bool} (h : find1 T.ty t = some (sz, bytes, agg)) : TyIs P t sz bytes agg := by
  unfold okTab at hT
  rw [Bool.and_eq_true, Bool.and_eq_true] at hT
  have h1 := List.all_eq_true.1 hT.1.1 _ (find1_mem h)
  unfold okTy at h1
  simp only at h1
  split at h1
  · rename_i i d e1 e2
    simp only [Bool.and_eq_true, beq_iff_eq] at h1
    exact ⟨i, d, e1, e2, Nat.eq_of_beq_eq_true h1.1.1, Nat.eq_of_beq_eq_true h1.1.2, h1.2⟩
  · cases h1

theorem Tab.fldIs (hT : okTab P T = true) {s f o : Nat} (h : find2 T.fld s f = some o) : ∃ fs fd i, P.underlying s = some (.struct fs) ∧ fs[f]? = some fd ∧ fd.offset = o ∧ P.info? fd.type = some i ∧ i.size ≠ 0 := by
  unfold okTab at hT
  rw [Bool.and_eq_true, Bool.and_eq_true] at hT
  have h1 := List.all_eq_true.1 hT.1.2 _ (find2_mem h)
  unfold okFld at h1
  simp only at h1
  split at h1
  · rename_i fs e1
    split at h1
    · rename_i fd e2
      rw [Bool.and_eq_true] at h1
      split at h1
      · rename_i i e3
        refine ⟨fs, fd, i, e1, e2, Nat.eq_of_beq_eq_true h1.1, e3, fun e => ?_⟩
        have := h1.2
        rw [e] at this
        simp at this
      · cases h1.2
    · cases h1
  · cases h1

theorem Tab.slIs (hT : okTab P T = true) {t e : Nat} (h : find1 T.sl t = some e) : P.underlying t = some (.slice e) := by
  unfold okTab at hT
  rw [Bool.and_eq_true] at hT
  have h1 := List.all_eq_true.1 hT.2 _ (find1_mem h)
  unfold okSl at h1
  simp only at h1
  split at h1
  · rename_i e' e1; rw [e1, Nat.eq_of_beq_eq_true h1]
  · cases h1

theorem TyIs.size_run {t sz bytes : Nat} {agg : Bool} (h : TyIs P t sz bytes agg) (w : World) : (sizeOf t).run P w = .ok sz w := by
  obtain ⟨i, d, e1, e2, e3, _⟩ := h.ex
  simp [sizeOf, run_typeInfo w e1, e3]
theorem TyIs.agg_run {t sz bytes : Nat} {agg : Bool} (h : TyIs P t sz bytes agg) (w : World) : (isAgg t).run P w = .ok agg w := by
  obtain ⟨i, d, e1, e2, e3, _, e4⟩ := h.ex
  unfold isAgg
  simp only [Sem.run_bind, run_underlying e2, Result.andThen_ok]
  rw [← e4]
  cases d <;> simp

variable {fr : Fr} {σ : List AObj} {o : Oper} {k : K0} {x : Ctx} {nt : Nat} {A : Act} {w : World}

theorem constAV_rep (F : Frag) : ∀ v : Value, ARep x (constAV v) v := by
  have hd : ∀ v : Value, v.oneCell' = true → DRep x.F (constDV v) v := fun v hv => by
    unfold constDV
    split
    · exact ⟨none, rfl⟩
    · exact ⟨rfl, hv⟩
  have hl : ∀ l : List Value, (∀ v ∈ l, v.oneCell' = true) → LRep x.F (l.map constDV) l := fun l => by
    induction l with
    | nil => intro _; rfl
    | cons a l ih => intro h; exact ⟨a, l, rfl, hd a (h a (by simp)), ih fun v hv => h v (by simp [hv])⟩
  intro v
  unfold constAV
  split
  · exact ⟨none, rfl⟩
  · rename_i cs
    cases hq : cs.toList.all (·.oneCell') with
    | true =>
      have h := List.all_eq_true.1 hq
      exact ⟨cs.toList, by simp, hl _ (fun v hv => h v hv), fun v hv => h v hv⟩
    | false => exact trivial
  · exact trivial
  · rename_i h1 h2 h3
    refine ⟨rfl, ?_⟩
    cases v <;> first | rfl | exact absurd rfl (h2 _) | exact absurd rfl (h3 _)

theorem Sim.arg (s : Sim k x nt fr σ A w) (a : Operand) : ARep x (aget fr a) (A.eval a) := by
  cases a with
  | tmp t => exact s.tmps t
  | const v => exact constAV_rep x.F v
  | global g => exact trivial
  | func f => exact ⟨[], [], rfl, rfl, rfl⟩

theorem rd_move {a : Operand} (ho : o.op = .move a ∨ o.op = .assign a) : RdOp P o fr σ (aget fr a) := by
  intro k x nt A w s
  refine ⟨A.eval a, s.arg a, fun w' _ => ?_⟩
  rcases ho with h | h <;> simp [execOp, h]

theorem rd_pick_t {c a b : Operand} (ho : o.op = .pick c a b) (hc : aget fr c = .d (.v (.bool true))) : RdOp P o fr σ (aget fr a) := by
  intro k x nt A w s
  have h := s.arg c
  rw [hc] at h
  refine ⟨A.eval a, s.arg a, fun w' _ => ?_⟩
  simp [execOp, ho, h.1, asBool]
theorem rd_pick_f {c a b : Operand} (ho : o.op = .pick c a b) (hc : aget fr c = .d (.v (.bool false))) : RdOp P o fr σ (aget fr b) := by
  intro k x nt A w s
  have h := s.arg c
  rw [hc] at h
  refine ⟨A.eval b, s.arg b, fun w' _ => ?_⟩
  simp [execOp, ho, h.1, asBool]

theorem CRep.drop {F : Frag} : ∀ {ds : List DV} {b off : Nat} (n : Nat), CRep F ds b off → CRep F (ds.drop n) b (off + n)
  | _, _, _, 0, h => h
  | [], _, _, _ + 1, _ => trivial
  | d :: ds, b, off, n + 1, ⟨_, h⟩ => by
    have := CRep.drop n h
    rw [show off + 1 + n = off + (n + 1) by omega] at this
    exact this

theorem CRep.get {F : Frag} : ∀ {ds : List DV} {b off n : Nat} {d : DV}, CRep F ds b off → ds[n]? = some d → ∃ u, fcell F b (off + n) = some u ∧ u.oneCell' = true ∧ DRep F d u
  | [], _, _, _, _, _, e => by simp at e
  | a :: ds, b, off, 0, d, h, e => by simp at e; subst e; exact h.1
  | a :: ds, b, off, n + 1, d, h, e => by
    have := CRep.get (n := n) h.2 (by simpa using e)
    rw [show off + 1 + n = off + (n + 1) by omega] at this
    exact this

theorem CRep.list {F : Frag} : ∀ {ds : List DV} {b off : Nat}, CRep F ds b off → ∃ us : List Value, us.length = ds.length ∧ LRep F ds us ∧ (∀ u ∈ us, u.oneCell' = true) ∧ ∀ j u, us[j]? = some u → fcell F b (off + j) = some u
  | [], _, _, _ => ⟨[], rfl, rfl, by simp, by simp⟩
  | d :: ds, b, off, ⟨⟨u, h1, h2, h3⟩, h⟩ => by
    obtain ⟨us, e, l, o, g⟩ := CRep.list h
    refine ⟨u :: us, by simp [e], ⟨u, us, rfl, h3, l⟩, ?_, ?_⟩
    · intro v hv
      rcases List.mem_cons.1 hv with rfl | hv
      · exact h2
      · exact o v hv
    · intro j v hj
      cases j with
      | zero => simp at hj; subst hj; exact h1
      | succ j =>
        have := g j v (by simpa using hj)
        rw [show off + 1 + j = off + (j + 1) by omega] at this
        exact this

theorem CRep.take {F : Frag} : ∀ {ds : List DV} {b off : Nat} (n : Nat), CRep F ds b off → CRep F (ds.take n) b off
  | _, _, _, 0, _ => by simp [CRep]
  | [], _, _, _ + 1, _ => by simp [CRep]
  | d :: ds, b, off, n + 1, ⟨h1, h⟩ => ⟨h1, CRep.take n h⟩

theorem fcell_cell {F : Frag} {w : World} (h : Le F (fun b => w.heap[b]?)) {b off : Nat} {u : Value} (e : fcell F b off = some u) : w.cell? ⟨b, off, none⟩ = some u := by
  unfold fcell at e
  cases hb : F b with
  | none => rw [hb] at e; cases e
  | some ob =>
    rw [hb] at e
    have := h b ob hb
    unfold World.cell?
    simp only at this
    rw [this]
    cases ob <;> first | exact e | cases e

theorem Addr.add_mk (b off j : Nat) : (⟨b, off, none⟩ : Addr).add j = ⟨b, off + j, none⟩ := addr_add b off j

theorem rd_fieldAddr_f (hT : okTab P T = true) {s f off : Nat} {a : Operand} {cells : List DV} (ho : o.op = .fieldAddr s a f) (hf : find2 T.fld s f = some off) (ha : aget fr a = .d (.fptr cells)) : RdOp P o fr σ (.d (.fptr (cells.drop off))) := by
  intro k x nt A w h
  obtain ⟨fs, fd, i, e1, e2, e3, e4, e5⟩ := T.fldIs hT hf
  have hr := h.arg a
  rw [ha] at hr
  obtain ⟨b, o0, e, hc⟩ := hr
  refine ⟨.pointer (some ⟨b, o0 + off, none⟩), ⟨b, o0 + off, rfl, hc.drop off⟩, fun w' _ => ?_⟩
  simp [execOp, ho, Instr.fieldAt, run_underlying e1, e2, e, Instr.sureAddr, fieldPlace, sizeOf, run_typeInfo w' e4, e5, e3, Addr.add_mk]

theorem rd_fieldAddr_p (hT : okTab P T = true) {s f off loc ver o0 : Nat} {a : Operand} (ho : o.op = .fieldAddr s a f) (hf : find2 T.fld s f = some off) (ha : aget fr a = .ptr loc ver o0) : RdOp P o fr σ (.ptr loc ver (o0 + off)) := by
  intro k x nt A w h
  obtain ⟨fs, fd, i, e1, e2, e3, e4, e5⟩ := T.fldIs hT hf
  have hr := h.arg a
  rw [ha] at hr
  obtain ⟨hl, hv, ad, e, hc⟩ := hr
  refine ⟨.pointer (some (ad.add off)), ⟨hl, hv, _, rfl, fun q => by rw [hc q, Addr.add_mk]⟩, fun w' _ => ?_⟩
  simp [execOp, ho, Instr.fieldAt, run_underlying e1, e2, e, Instr.sureAddr, fieldPlace, sizeOf, run_typeInfo w' e4, e5, e3]

/-- What is loaded. -/
def ldD (agg : Bool) (sz : Nat) (cells : List DV) : Option DV := bif agg then (bif Nat.ble sz cells.length then some (.agg (cells.take sz)) else none) else cells.head?

theorem loadVar_run {t sz bytes : Nat} {agg : Bool} (h : TyIs P t sz bytes agg) (w : World) (b off : Nat) (us : List Value) (hc : ∀ j u, us[j]? = some u → w.cell? ⟨b, off + j, none⟩ = some u) :
    (agg = true → us.length = sz → (loadVar t ⟨b, off, none⟩).run P w = .ok (.agg us.toArray) w) ∧ (agg = false → ∀ u, us[0]? = some u → (loadVar t ⟨b, off, none⟩).run P w = .ok u w) := by
  constructor
  · intro ha hl
    subst ha
    have := run_loadCells_list (P := P) w ⟨b, off, none⟩ us (fun j v hj => by rw [Addr.add_mk]; exact hc j v hj)
    unfold loadVar
    simp [h.agg_run, h.size_run, ← hl, this]
  · intro ha u hu
    subst ha
    have := hc 0 u hu
    unfold loadVar
    simp [h.agg_run]
    rw [show w.cell? ⟨b, off, none⟩ = some u from this]

theorem DRep.one {F : Frag} {d : DV} {u : Value} : DRep F d u → (match d with | .agg _ | .tup _ => true | _ => u.oneCell') = true := by
  intro h
  cases d with
  | v x => obtain ⟨e, o⟩ := h; subst e; exact o
  | nil => obtain ⟨a, e⟩ := h; subst e; rfl
  | lst sz rows => obtain ⟨a, c, e, _⟩ := h; subst e; rfl
  | fptr c => obtain ⟨a, c, e, _⟩ := h; subst e; rfl
  | clo f a b => obtain ⟨a, c, e, _⟩ := h; subst e; rfl
  | agg _ => rfl
  | tup _ => rfl

theorem rd_load_f (hT : okTab P T = true) {t sz bytes : Nat} {agg : Bool} {a : Operand} {cells : List DV} {v : DV} (ho : o.op = .load t a) (ht : find1 T.ty t = some (sz, bytes, agg)) (ha : aget fr a = .d (.fptr cells)) (hv : ldD agg sz cells = some v) : RdOp P o fr σ (.d v) := by
  intro k x nt A w h
  have hty := T.tyIs hT ht
  have hr := h.arg a
  rw [ha] at hr
  obtain ⟨b, o0, e, hc⟩ := hr
  unfold ldD at hv
  cases agg with
  | true =>
    simp only [cond_true] at hv
    cases hz : Nat.ble sz cells.length with
    | false => rw [hz] at hv; cases hv
    | true =>
      rw [hz] at hv
      injection hv with hv
      subst hv
      obtain ⟨us, e1, e2, e3, e4⟩ := (hc.take sz).list
      have hlen : us.length = sz := by rw [e1, List.length_take]; exact Nat.min_eq_left (Nat.le_of_ble_eq_true hz)
      refine ⟨.agg us.toArray, ⟨us, rfl, e2, e3⟩, fun w' ag => ?_⟩
      have ag := ag.resolve_left (by rw [ho]; exact Bool.false_ne_true)
      have := (loadVar_run hty w' b o0 us (fun j u hj => fcell_cell (h.heap.hF.agree ag) (e4 j u hj))).1 rfl hlen
      simp [execOp, ho, Instr.loadAt, e, Instr.sureAddr, this]
  | false =>
    simp only [cond_false] at hv
    cases cells with
    | nil => cases hv
    | cons d ds =>
      simp only [List.head?_cons, Option.some.injEq] at hv
      subst hv
      obtain ⟨⟨u, e1, e2, e3⟩, _⟩ := hc
      refine ⟨u, e3, fun w' ag => ?_⟩
      have ag := ag.resolve_left (by rw [ho]; exact Bool.false_ne_true)
      have := (loadVar_run hty w' b o0 [u] (fun j v hj => by
        cases j with
        | zero => simp at hj; subst hj; exact fcell_cell (h.heap.hF.agree ag) e1
        | succ j => simp at hj)).2 rfl u rfl
      simp [execOp, ho, Instr.loadAt, e, Instr.sureAddr, this]

/-- Frozen cells of a list. -/
def allD : List AV → Option (List DV)
  | [] => some []
  | .d x :: l => match allD l with
    | some ds => some (x :: ds)
    | none => none
  | _ :: _ => none

theorem allD_map : ∀ {l : List AV} {ds : List DV}, allD l = some ds → l = ds.map .d
  | [], ds, h => by cases h; rfl
  | .d x :: l, ds, h => by
    unfold allD at h
    split at h
    · rename_i ds' e; injection h with h; subst h; rw [allD_map e]; rfl
    · cases h
  | .own .. :: _, _, h => by cases h
  | .ptr .. :: _, _, h => by cases h
  | .mp .. :: _, _, h => by cases h
  | .agg .. :: _, _, h => by cases h
  | .tup .. :: _, _, h => by cases h
  | .clo .. :: _, _, h => by cases h
  | .any :: _, _, h => by cases h

def aggOf (l : List AV) : AV := match allD l with
  | some ds => .d (.agg ds)
  | none => .agg l

theorem ALRep.toD {x : Ctx} : ∀ {ds : List DV} {us : List Value}, ALRep x (ds.map .d) us → LRep x.F ds us
  | [], _, h => h
  | _ :: _, _, ⟨u, us', e, r, q⟩ => ⟨u, us', e, r, ALRep.toD q⟩

theorem aggOf_rep {l : List AV} {us : List Value} (h : ALRep x l us) (ho : ∀ u ∈ us, u.oneCell' = true) : ARep x (aggOf l) (.agg us.toArray) := by
  unfold aggOf
  split
  · rename_i ds e
    rw [allD_map e] at h
    exact ⟨us, rfl, h.toD, ho⟩
  · exact ⟨us, rfl, h, ho⟩

def ldA (agg : Bool) (sz : Nat) (cells : List AV) : Option AV := bif agg then (bif Nat.ble sz cells.length then some (aggOf (cells.take sz)) else none) else cells.head?

theorem ALRep.drop {x : Ctx} : ∀ {l : List AV} {us : List Value} (n : Nat), ALRep x l us → ALRep x (l.drop n) (us.drop n)
  | _, _, 0, h => h
  | [], _, n + 1, h => by rw [h]; simp [ALRep]
  | a :: l, _, n + 1, ⟨u, us', e, r, q⟩ => by rw [e]; exact ALRep.drop n q
theorem ALRep.take {x : Ctx} : ∀ {l : List AV} {us : List Value} (n : Nat), ALRep x l us → ALRep x (l.take n) (us.take n)
  | _, _, 0, h => by simp [ALRep]
  | [], _, n + 1, h => by rw [h]; simp [ALRep]
  | a :: l, _, n + 1, ⟨u, us', e, r, q⟩ => by rw [e]; exact ⟨u, us'.take n, rfl, r, ALRep.take n q⟩

theorem rd_load_p (hT : okTab P T = true) {t sz bytes U loc off : Nat} {agg : Bool} {a : Operand} {cells : List AV} {v : AV} (ho : o.op = .load t a) (ht : find1 T.ty t = some (sz, bytes, agg)) (ha : aget fr a = .ptr loc 0 off)
    (hs : σ[loc]? = some (.row U cells)) (hv : ldA agg sz (cells.drop off) = some v) : RdOp P o fr σ v := by
  intro k x nt A w h
  have hty := T.tyIs hT ht
  have hr := h.arg a
  rw [ha] at hr
  obtain ⟨hl, hver, ad, e, hc⟩ := hr
  obtain ⟨g, g1, g2, _⟩ := h.heap.own
  obtain ⟨hv0, us, e1, e2, e3⟩ := g1 loc _ hs
  have had := hc hv0.symm
  subst had
  have hcell : ∀ w', Agree w w' → ∀ j u, (us.drop off)[j]? = some u → w'.cell? ⟨(x.env loc).blk, off + j, none⟩ = some u := fun w' ag j u hj => by
    have := ag.get (g2 loc _ _ e1)
    unfold World.cell?
    rw [this]
    simpa [List.getElem?_drop] using hj
  have hrep := e2.drop off
  unfold ldA at hv
  cases agg with
  | true =>
    simp only [cond_true] at hv
    cases hz : Nat.ble sz (cells.drop off).length with
    | false => rw [hz] at hv; cases hv
    | true =>
      rw [hz] at hv
      injection hv with hv
      subst hv
      have hlen : ((us.drop off).take sz).length = sz := by
        rw [List.length_take, hrep.len]; exact Nat.min_eq_left (Nat.le_of_ble_eq_true hz)
      have one : ∀ u ∈ (us.drop off).take sz, u.oneCell' = true := fun u hu => e3 u (List.mem_of_mem_drop (List.mem_of_mem_take hu))
      refine ⟨.agg ((us.drop off).take sz).toArray, aggOf_rep (hrep.take sz) one, fun w' ag => ?_⟩
      have ag := ag.resolve_left (by rw [ho]; exact Bool.false_ne_true)
      have := (loadVar_run hty w' (x.env loc).blk off ((us.drop off).take sz) (fun j u hj => hcell w' ag j u (by
        rw [List.getElem?_take] at hj
        split at hj
        · exact hj
        · cases hj))).1 rfl hlen
      simp [execOp, ho, Instr.loadAt, e, Instr.sureAddr, this]
  | false =>
    simp only [cond_false] at hv
    generalize cells.drop off = cs at hv hrep
    generalize us.drop off = vs at hcell hrep
    cases cs with
    | nil => cases hv
    | cons d ds =>
      simp only [List.head?_cons, Option.some.injEq] at hv
      subst hv
      obtain ⟨u, vs', e5, r, _⟩ := hrep
      subst e5
      refine ⟨u, r, fun w' ag => ?_⟩
      have ag := ag.resolve_left (by rw [ho]; exact Bool.false_ne_true)
      have := (loadVar_run hty w' (x.env loc).blk off (u :: vs') (hcell w' ag)).2 rfl u rfl
      simp [execOp, ho, Instr.loadAt, e, Instr.sureAddr, this]
end
end Go.Proofs.Ytciciaikajdenaa

/- More operations that read: arithmetic, comparisons, lengths, elements, parts of slices. -/
namespace Go.Proofs.Ytciciaikajdenaa
open Go.RowKit

def intOp : BinOp → IntKind → Int → Int → Option Value
  | .add, k, a, b => some (.int k (k.wrap (a + b)))
  | .sub, k, a, b => some (.int k (k.wrap (a - b)))
  | .mul, k, a, b => some (.int k (k.wrap (a * b)))
  | .eql, _, a, b => some (.bool (a == b))
  | .neq, _, a, b => some (.bool (a != b))
  | .lss, _, a, b => some (.bool (decide (a < b)))
  | .leq, _, a, b => some (.bool (decide (a ≤ b)))
  | .gtr, _, a, b => some (.bool (decide (a > b)))
  | .geq, _, a, b => some (.bool (decide (a ≥ b)))
  | _, _, _, _ => none

section
variable {P : Program} {T : Tab} {fr : Fr} {σ : List AObj} {o : Oper}

theorem rd_int {op : BinOp} {t t' : TypeId} {a b : Operand} {k : IntKind} {m n : Int} {v : Value} (ho : o.op = .binOp op t a b t') (ha : aget fr a = .d (.v (.int k m))) (hb : aget fr b = .d (.v (.int k n)))
    (hv : intOp op k m n = some v) : RdOp P o fr σ (.d (.v v)) := by
  intro x c nt A w s
  have h1 := s.arg a
  have h2 := s.arg b
  rw [ha] at h1
  rw [hb] at h2
  obtain ⟨e1, _⟩ := h1
  obtain ⟨e2, _⟩ := h2
  have hone : v.oneCell' = true := by
    cases op <;> simp only [intOp] at hv <;> first | (injection hv with hv; subst hv; rfl) | cases hv
  refine ⟨v, ⟨rfl, hone⟩, fun w' _ => ?_⟩
  unfold execOp
  simp only [ho, e1, e2]
  cases op <;> simp only [intOp] at hv <;> first
    | (injection hv with hv; subst hv; simp [eqGuard, binOp, Op.intArith, Op.intCmp])
    | cases hv

theorem rd_eqv {v v' : AV} (e : v = v') (h : RdOp P o fr σ v) : RdOp P o fr σ v' := e ▸ h

theorem rd_add64 {t t' : TypeId} {a b : Operand} {m n : Int} (ho : o.op = .binOp .add t a b t') (ha : aget fr a = .d (.v (.int .i64 m))) (hb : aget fr b = .d (.v (.int .i64 n)))
    (h : -9223372036854775808 ≤ m + n ∧ m + n ≤ 9223372036854775807) : RdOp P o fr σ (.d (.v (.int .i64 (m + n)))) :=
  rd_eqv (by rw [IntWalk.i64_in _ (by omega)]) (rd_int ho ha hb rfl)
theorem rd_sub64 {t t' : TypeId} {a b : Operand} {m n : Int} (ho : o.op = .binOp .sub t a b t') (ha : aget fr a = .d (.v (.int .i64 m))) (hb : aget fr b = .d (.v (.int .i64 n)))
    (h : -9223372036854775808 ≤ m - n ∧ m - n ≤ 9223372036854775807) : RdOp P o fr σ (.d (.v (.int .i64 (m - n)))) :=
  rd_eqv (by rw [IntWalk.i64_in _ (by omega)]) (rd_int ho ha hb rfl)

theorem rd_lss_t {t t' : TypeId} {a b : Operand} {k : IntKind} {m n : Int} (ho : o.op = .binOp .lss t a b t') (ha : aget fr a = .d (.v (.int k m))) (hb : aget fr b = .d (.v (.int k n))) (h : m < n) : RdOp P o fr σ (.d (.v (.bool true))) :=
  rd_eqv (by first | (rw [decide_eq_true (by omega)]) | simp [h]) (rd_int ho ha hb rfl)
theorem rd_lss_f {t t' : TypeId} {a b : Operand} {k : IntKind} {m n : Int} (ho : o.op = .binOp .lss t a b t') (ha : aget fr a = .d (.v (.int k m))) (hb : aget fr b = .d (.v (.int k n))) (h : n ≤ m) : RdOp P o fr σ (.d (.v (.bool false))) :=
  rd_eqv (by first | (rw [decide_eq_false (by omega)]) | simp [h]) (rd_int ho ha hb rfl)
theorem rd_leq_t {t t' : TypeId} {a b : Operand} {k : IntKind} {m n : Int} (ho : o.op = .binOp .leq t a b t') (ha : aget fr a = .d (.v (.int k m))) (hb : aget fr b = .d (.v (.int k n))) (h : m ≤ n) : RdOp P o fr σ (.d (.v (.bool true))) :=
  rd_eqv (by first | (rw [decide_eq_true (by omega)]) | simp [h]) (rd_int ho ha hb rfl)
theorem rd_leq_f {t t' : TypeId} {a b : Operand} {k : IntKind} {m n : Int} (ho : o.op = .binOp .leq t a b t') (ha : aget fr a = .d (.v (.int k m))) (hb : aget fr b = .d (.v (.int k n))) (h : n < m) : RdOp P o fr σ (.d (.v (.bool false))) :=
  rd_eqv (by first | (rw [decide_eq_false (by omega)]) | simp [h]) (rd_int ho ha hb rfl)
theorem rd_gtr_t {t t' : TypeId} {a b : Operand} {k : IntKind} {m n : Int} (ho : o.op = .binOp .gtr t a b t') (ha : aget fr a = .d (.v (.int k m))) (hb : aget fr b = .d (.v (.int k n))) (h : n < m) : RdOp P o fr σ (.d (.v (.bool true))) :=
  rd_eqv (by first | (rw [decide_eq_true (by omega)]) | simp [h]) (rd_int ho ha hb rfl)
theorem rd_gtr_f {t t' : TypeId} {a b : Operand} {k : IntKind} {m n : Int} (ho : o.op = .binOp .gtr t a b t') (ha : aget fr a = .d (.v (.int k m))) (hb : aget fr b = .d (.v (.int k n))) (h : m ≤ n) : RdOp P o fr σ (.d (.v (.bool false))) :=
  rd_eqv (by first | (rw [decide_eq_false (by omega)]) | simp [h]) (rd_int ho ha hb rfl)
theorem rd_geq_t {t t' : TypeId} {a b : Operand} {k : IntKind} {m n : Int} (ho : o.op = .binOp .geq t a b t') (ha : aget fr a = .d (.v (.int k m))) (hb : aget fr b = .d (.v (.int k n))) (h : n ≤ m) : RdOp P o fr σ (.d (.v (.bool true))) :=
  rd_eqv (by first | (rw [decide_eq_true (by omega)]) | simp [h]) (rd_int ho ha hb rfl)
theorem rd_geq_f {t t' : TypeId} {a b : Operand} {k : IntKind} {m n : Int} (ho : o.op = .binOp .geq t a b t') (ha : aget fr a = .d (.v (.int k m))) (hb : aget fr b = .d (.v (.int k n))) (h : m < n) : RdOp P o fr σ (.d (.v (.bool false))) :=
  rd_eqv (by first | (rw [decide_eq_false (by omega)]) | simp [h]) (rd_int ho ha hb rfl)
theorem rd_eql_t {t t' : TypeId} {a b : Operand} {k : IntKind} {m n : Int} (ho : o.op = .binOp .eql t a b t') (ha : aget fr a = .d (.v (.int k m))) (hb : aget fr b = .d (.v (.int k n))) (h : m = n) : RdOp P o fr σ (.d (.v (.bool true))) :=
  rd_eqv (by first | (rw [decide_eq_true (by omega)]) | simp [h]) (rd_int ho ha hb rfl)
theorem rd_eql_f {t t' : TypeId} {a b : Operand} {k : IntKind} {m n : Int} (ho : o.op = .binOp .eql t a b t') (ha : aget fr a = .d (.v (.int k m))) (hb : aget fr b = .d (.v (.int k n))) (h : m ≠ n) : RdOp P o fr σ (.d (.v (.bool false))) :=
  rd_eqv (by first | (rw [decide_eq_false (by omega)]) | simp [h]) (rd_int ho ha hb rfl)
theorem rd_neq_t {t t' : TypeId} {a b : Operand} {k : IntKind} {m n : Int} (ho : o.op = .binOp .neq t a b t') (ha : aget fr a = .d (.v (.int k m))) (hb : aget fr b = .d (.v (.int k n))) (h : m ≠ n) : RdOp P o fr σ (.d (.v (.bool true))) :=
  rd_eqv (by first | (rw [decide_eq_true (by omega)]) | simp [h]) (rd_int ho ha hb rfl)
theorem rd_neq_f {t t' : TypeId} {a b : Operand} {k : IntKind} {m n : Int} (ho : o.op = .binOp .neq t a b t') (ha : aget fr a = .d (.v (.int k m))) (hb : aget fr b = .d (.v (.int k n))) (h : m = n) : RdOp P o fr σ (.d (.v (.bool false))) :=
  rd_eqv (by first | (rw [decide_eq_false (by omega)]) | simp [h]) (rd_int ho ha hb rfl)

theorem rd_str_eq {t t' : TypeId} {a b : Operand} {m n : ByteArray} (ho : o.op = .binOp .eql t a b t') (ha : aget fr a = .d (.v (.string m))) (hb : aget fr b = .d (.v (.string n))) : RdOp P o fr σ (.d (.v (.bool (decide (m = n))))) := by
  intro x c nt A w s
  have h1 := s.arg a
  have h2 := s.arg b
  rw [ha] at h1
  rw [hb] at h2
  obtain ⟨e1, _⟩ := h1
  obtain ⟨e2, _⟩ := h2
  have e3 : (m.toList == n.toList) = decide (m = n) := by
    by_cases q : m = n
    · subst q; simp
    · rw [decide_eq_false q]
      simp only [beq_eq_false_iff_ne]
      intro r
      rw [Lib.toList_data, Lib.toList_data] at r
      exact q (by rw [← Lib.mk_data m, ← Lib.mk_data n, r])
  refine ⟨.bool (decide (m = n)), ⟨rfl, rfl⟩, fun w' _ => ?_⟩
  unfold execOp
  simp only [ho, e1, e2]
  simp [eqGuard, binOp, Op.stringOp, e3]
theorem rd_str_ne {t t' : TypeId} {a b : Operand} {m n : ByteArray} (ho : o.op = .binOp .neq t a b t') (ha : aget fr a = .d (.v (.string m))) (hb : aget fr b = .d (.v (.string n))) : RdOp P o fr σ (.d (.v (.bool (!decide (m = n))))) := by
  intro x c nt A w s
  have h1 := s.arg a
  have h2 := s.arg b
  rw [ha] at h1
  rw [hb] at h2
  obtain ⟨e1, _⟩ := h1
  obtain ⟨e2, _⟩ := h2
  have e3 : (m.toList == n.toList) = decide (m = n) := by
    by_cases q : m = n
    · subst q; simp
    · rw [decide_eq_false q]
      simp only [beq_eq_false_iff_ne]
      intro r
      rw [Lib.toList_data, Lib.toList_data] at r
      exact q (by rw [← Lib.mk_data m, ← Lib.mk_data n, r])
  refine ⟨.bool (!decide (m = n)), ⟨rfl, rfl⟩, fun w' _ => ?_⟩
  unfold execOp
  simp only [ho, e1, e2]
  simp [eqGuard, binOp, Op.stringOp, e3]
theorem rd_bool_ne {t t' : TypeId} {a b : Operand} {m n : Bool} (ht : P.underlying t = some .bool) (ho : o.op = .binOp .neq t a b t') (ha : aget fr a = .d (.v (.bool m))) (hb : aget fr b = .d (.v (.bool n))) : RdOp P o fr σ (.d (.v (.bool (!(m == n))))) := by
  intro x c nt A w s
  have h1 := s.arg a
  have h2 := s.arg b
  rw [ha] at h1
  rw [hb] at h2
  obtain ⟨e1, _⟩ := h1
  obtain ⟨e2, _⟩ := h2
  refine ⟨.bool (!(m == n)), ⟨rfl, rfl⟩, fun w' _ => ?_⟩
  unfold execOp
  simp only [ho, e1, e2]
  simp only [eqGuard, binOp]
  simp [run_equal_bool w' t m n ht]

theorem rd_not {t : TypeId} {a : Operand} {m : Bool} (ho : o.op = .unOp .not t a) (ha : aget fr a = .d (.v (.bool m))) : RdOp P o fr σ (.d (.v (.bool (!m)))) := by
  intro x c nt A w s
  have h1 := s.arg a
  rw [ha] at h1
  obtain ⟨e1, _⟩ := h1
  refine ⟨.bool (!m), ⟨rfl, rfl⟩, fun w' _ => ?_⟩
  unfold execOp
  simp only [ho, e1]
  simp [Op.unary]

/-! Lengths. -/
def lenA : AV → Option Nat
  | .d (.lst _ rows) => some rows.length
  | .d .nil => some 0
  | .own _ _ _ _ len => some len
  | _ => none

theorem rd_len {t e : TypeId} {a : Operand} {n : Nat} (ho : o.op = .call { callee := .builtin .len, args := #[a], argTypes := #[t] }) (ht : P.underlying t = some (.slice e))
    (ha : lenA (aget fr a) = some n) : RdOp P o fr σ (.d (.v (.int .i64 n))) := by
  intro x c nt A w h
  have h1 := h.arg a
  refine ⟨.int .i64 n, ⟨rfl, rfl⟩, fun w' _ => ?_⟩
  have key : ∃ b c, A.eval a = .slice b n c := by
    generalize aget fr a = v at *
    unfold lenA at ha
    split at ha
    · obtain ⟨b, c, e, _⟩ := h1
      injection ha with ha
      subst ha
      exact ⟨b, c, e⟩
    · obtain ⟨b, e⟩ := h1
      injection ha with ha
      subst ha
      exact ⟨b, 0, e⟩
    · obtain ⟨_, _, b, c, e, _⟩ := h1
      injection ha with ha
      subst ha
      exact ⟨b, c, e⟩
    · cases ha
  obtain ⟨b, c, he⟩ := key
  unfold execOp
  simp [ho, resolve, invoke, builtin, Builtin.len_, run_underlying ht, he, goInt]

theorem rd_lens {t : TypeId} {a : Operand} {s : ByteArray} (ho : o.op = .call { callee := .builtin .len, args := #[a], argTypes := #[t] }) (ht : P.underlying t = some .string) (ha : aget fr a = .d (.v (.string s))) : RdOp P o fr σ (.d (.v (.int .i64 s.size))) := by
  intro x c nt A w h
  have h1 := h.arg a
  rw [ha] at h1
  obtain ⟨he, _⟩ := h1
  refine ⟨.int .i64 s.size, ⟨rfl, rfl⟩, fun w' _ => ?_⟩
  unfold execOp
  simp [ho, resolve, invoke, builtin, Builtin.len_, run_underlying ht, he, goInt]

/-! Elements. -/
theorem RRep.get {F : Frag} {sz : Nat} : ∀ {rs : List (List DV)} {b off i : Nat} {r : List DV}, RRep F sz rs b off → rs[i]? = some r → r.length = sz ∧ CRep F r b (off + i * sz)
  | [], _, _, _, _, _, e => by simp at e
  | a :: rs, b, off, 0, r, h, e => by simp at e; subst e; simpa using ⟨h.1, h.2.1⟩
  | a :: rs, b, off, i + 1, r, h, e => by
    have := RRep.get (i := i) h.2.2 (by simpa using e)
    rw [show off + sz + i * sz = off + (i + 1) * sz by rw [Nat.add_mul]; omega] at this
    exact this

theorem rd_index (hT : okTab P T = true) {t e sz bytes : Nat} {agg : Bool} {a b : Operand} {rows : List (List DV)} {row : List DV} {k : IntKind} {i : Nat} (ho : o.op = .indexAddr t a b) (ht : find1 T.sl t = some e) (he : find1 T.ty e = some (sz, bytes, agg))
    (ha : aget fr a = .d (.lst sz rows)) (hb : aget fr b = .d (.v (.int k (i : Int)))) (hr : rows[i]? = some row) : RdOp P o fr σ (.d (.fptr row)) := by
  intro x c nt A w h
  have h1 := h.arg a
  have h2 := h.arg b
  rw [ha] at h1
  rw [hb] at h2
  obtain ⟨e2, _⟩ := h2
  obtain ⟨ad, cap, e1, hc, hq⟩ := h1
  have hlt := (List.getElem?_eq_some_iff.1 hr).1
  rcases hq with hq | ⟨bl, off, rfl, hR⟩
  · subst hq; simp at hlt
  obtain ⟨_, hcr⟩ := hR.get hr
  refine ⟨.pointer (some ⟨bl, off + i * sz, none⟩), ⟨bl, _, rfl, hcr⟩, fun w' _ => ?_⟩
  unfold execOp
  simp only [ho, e1, e2]
  have hin : (0 : Int) ≤ i ∧ (i : Int) < rows.length := by omega
  simp [Instr.indexAt, asIntOf, run_underlying (T.slIs hT ht), (T.tyIs hT he).size_run, hin, Addr.add_mk, hlt]

theorem rd_index_own (hT : okTab P T = true) {t e sz bytes loc ver off len : Nat} {agg : Bool} {a b : Operand} {k : IntKind} {i : Nat} (ho : o.op = .indexAddr t a b) (ht : find1 T.sl t = some e) (he : find1 T.ty e = some (sz, bytes, agg))
    (ha : aget fr a = .own loc ver sz off len) (hb : aget fr b = .d (.v (.int k (i : Int)))) (hi : i < len) {U : TypeId} {rows : List (List DV)} (hs : σ[loc]? = some (.arr U sz ver rows)) : RdOp P o fr σ (.ptr loc ver ((off + i) * sz)) := by
  intro x0 x nt A w h
  have h1 := h.arg a
  have h2 := h.arg b
  rw [ha] at h1
  rw [hb] at h2
  obtain ⟨e2, _⟩ := h2
  obtain ⟨hl, hv, ad, cap, e1, hq⟩ := h1
  obtain ⟨g, g1, _⟩ := h.heap.own
  obtain ⟨hv2, hg⟩ := g1 loc _ hs
  obtain ⟨q1, q2, q3⟩ := hq hv2.symm
  have hlive : (x.env loc).live = true := by
    cases hlv : (x.env loc).live with
    | true => rfl
    | false => have := q3 hlv; omega
  obtain ⟨rfl, _⟩ := q2 hlive
  refine ⟨.pointer (some ⟨(x.env loc).blk, (off + i) * sz, none⟩), ⟨hl, hv, _, rfl, fun _ => rfl⟩, fun w' _ => ?_⟩
  unfold execOp
  simp only [ho, e1, e2]
  have hin : (0 : Int) ≤ i ∧ (i : Int) < len := by omega
  simp [Instr.indexAt, asIntOf, run_underlying (T.slIs hT ht), (T.tyIs hT he).size_run, hin, Addr.add_mk, hi, Nat.add_mul]

theorem FRep.get {F : Frag} {sz : Nat} : ∀ {rs : List (List DV)} {us : List Value} {i : Nat} {r : List DV}, FRep F sz rs us → rs[i]? = some r → r.length = sz ∧ LRep F r ((us.drop (i * sz)).take sz)
  | [], _, _, _, _, e => by simp at e
  | a :: rs, _, 0, r, ⟨u, us', e1, hl, l, q⟩, e => by
    simp at e; subst e e1
    have : u.length = a.length := LRep.len l
    refine ⟨hl, ?_⟩
    rw [Nat.zero_mul, List.drop_zero, ← hl, ← this, List.take_left]; exact l
  | a :: rs, _, i + 1, r, ⟨u, us', e1, hl, l, q⟩, e => by
    subst e1
    have hu : u.length = sz := by rw [LRep.len l, hl]
    obtain ⟨h1, h2⟩ := FRep.get (i := i) q (by simpa using e)
    refine ⟨h1, ?_⟩
    rw [show (i + 1) * sz = u.length + i * sz by rw [Nat.add_mul, hu]; omega, ← List.drop_drop, List.drop_left]
    exact h2
where
  LRep.len {F : Frag} : ∀ {ds : List DV} {us : List Value}, LRep F ds us → us.length = ds.length
    | [], _, h => by rw [h]; rfl
    | _ :: _, _, ⟨u, us', e, r, q⟩ => by rw [e]; simp [LRep.len q]
end
end Go.Proofs.Ytciciaikajdenaa
