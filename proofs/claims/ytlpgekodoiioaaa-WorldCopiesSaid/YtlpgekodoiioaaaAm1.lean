/- Deep frozen data (DV), values of a frame over owned objects (AV), and what it means that the model's values stand for them. No program in sight. -/
import Derived.Test.YtlpgekodoiioaaaSlApp
set_option linter.unusedSimpArgs false
set_option linter.unusedVariables false
namespace Go.Proofs.Ytlpgekodoiioaaa
open Go.RowKit

/-- Frozen data: what no one writes any more. -/
inductive DV where
  | v (x : Value)
  | nil
  | lst (sz : Nat) (rows : List (List DV))
  | fptr (cells : List DV)
  | agg (cells : List DV)
  | tup (vs : List DV)
  | clo (fn : Fn) (first captured : List DV)

/-- What a frame holds. -/
inductive AV where
  | d (x : DV)
  | own (loc ver sz off len : Nat)
  | ptr (loc ver off : Nat)
  | mp (loc : Nat)
  | agg (cells : List AV)
  | tup (vs : List AV)
  | clo (fn : Fn) (first captured : List AV)
  | any

def fcell (F : Frag) (b off : Nat) : Option Value := match F b with
  | some (.cells cs _ _) => cs[off]?
  | _ => none

theorem fcell_mono {F G : Frag} (h : Le F G) {b off : Nat} {u : Value} (e : fcell F b off = some u) : fcell G b off = some u := by
  unfold fcell at *
  cases hb : F b with
  | none => rw [hb] at e; cases e
  | some o => rw [h _ _ hb]; rw [hb] at e; exact e

mutual
def DRep (F : Frag) : DV → Value → Prop
  | .v x, u => u = x ∧ x.oneCell' = true
  | .nil, u => ∃ a, u = .slice a 0 0
  | .lst sz rows, u => ∃ a cap, u = .slice a rows.length cap ∧ rows.length ≤ cap ∧ (rows = [] ∨ ∃ b off, a = some ⟨b, off, none⟩ ∧ RRep F sz rows b off)
  | .fptr cells, u => ∃ b off, u = .pointer (some ⟨b, off, none⟩) ∧ CRep F cells b off
  | .agg cells, u => ∃ us, u = .agg us.toArray ∧ LRep F cells us ∧ ∀ x ∈ us, x.oneCell' = true
  | .tup vs, u => ∃ us, u = .tuple us.toArray ∧ LRep F vs us
  | .clo fn fs cs, u => ∃ us ws, u = .func fn us.toArray ws.toArray ∧ LRep F fs us ∧ LRep F cs ws
def LRep (F : Frag) : List DV → List Value → Prop
  | [], us => us = []
  | d :: ds, us => ∃ u us', us = u :: us' ∧ DRep F d u ∧ LRep F ds us'
def CRep (F : Frag) : List DV → Nat → Nat → Prop
  | [], _, _ => True
  | d :: ds, b, off => (∃ u, fcell F b off = some u ∧ u.oneCell' = true ∧ DRep F d u) ∧ CRep F ds b (off + 1)
def RRep (F : Frag) (sz : Nat) : List (List DV) → Nat → Nat → Prop
  | [], _, _ => True
  | r :: rs, b, off => r.length = sz ∧ CRep F r b off ∧ RRep F sz rs b (off + sz)
end

mutual
theorem DRep.mono {F G : Frag} (h : Le F G) : ∀ {d : DV} {u : Value}, DRep F d u → DRep G d u
  | .v _, _, r => r
  | .nil, _, r => r
  | .lst _ _, _, ⟨a, cap, e, l, q⟩ => ⟨a, cap, e, l, q.imp id fun ⟨b, off, e2, r⟩ => ⟨b, off, e2, RRep.mono h r⟩⟩
  | .fptr _, _, ⟨b, off, e, r⟩ => ⟨b, off, e, CRep.mono h r⟩
  | .agg _, _, ⟨us, e, r, o⟩ => ⟨us, e, LRep.mono h r, o⟩
  | .tup _, _, ⟨us, e, r⟩ => ⟨us, e, LRep.mono h r⟩
  | .clo _ _ _, _, ⟨us, ws, e, r, q⟩ => ⟨us, ws, e, LRep.mono h r, LRep.mono h q⟩
theorem LRep.mono {F G : Frag} (h : Le F G) : ∀ {ds : List DV} {us : List Value}, LRep F ds us → LRep G ds us
  | [], _, r => r
  | _ :: _, _, ⟨u, us', e, r, q⟩ => ⟨u, us', e, DRep.mono h r, LRep.mono h q⟩
theorem CRep.mono {F G : Frag} (h : Le F G) : ∀ {ds : List DV} {b off : Nat}, CRep F ds b off → CRep G ds b off
  | [], _, _, _ => trivial
  | _ :: _, _, _, ⟨⟨u, e, o, r⟩, q⟩ => ⟨⟨u, fcell_mono h e, o, DRep.mono h r⟩, CRep.mono h q⟩
theorem RRep.mono {F G : Frag} (h : Le F G) : ∀ {sz : Nat} {rs : List (List DV)} {b off : Nat}, RRep F sz rs b off → RRep G sz rs b off
  | _, [], _, _, _ => trivial
  | _, _ :: _, _, _, ⟨e, r, q⟩ => ⟨e, CRep.mono h r, RRep.mono h q⟩
end

structure Slot where
  blk : Nat
  cap : Nat
  ver : Nat
  live : Bool

structure Ctx where
  F : Frag
  env : Nat → Slot
  n : Nat

structure CtxExt (c c' : Ctx) : Prop where
  F : Le c.F c'.F
  n : c.n ≤ c'.n
  ver : ∀ l, l < c.n → (c.env l).ver ≤ (c'.env l).ver
  env : ∀ l, l < c.n → (c'.env l).ver = (c.env l).ver → (c'.env l).blk = (c.env l).blk ∧ (c'.env l).cap = (c.env l).cap ∧ (c'.env l).live = (c.env l).live

theorem CtxExt.refl (c : Ctx) : CtxExt c c := ⟨Le.refl _, Nat.le_refl _, fun _ _ => Nat.le_refl _, fun _ _ _ => ⟨rfl, rfl, rfl⟩⟩
theorem CtxExt.trans {a b c : Ctx} (h : CtxExt a b) (k : CtxExt b c) : CtxExt a c := by
  refine ⟨h.F.trans k.F, Nat.le_trans h.n k.n, fun l hl => Nat.le_trans (h.ver l hl) (k.ver l (Nat.lt_of_lt_of_le hl h.n)), fun l hl e => ?_⟩
  have h1 := h.ver l hl
  have h2 := k.ver l (Nat.lt_of_lt_of_le hl h.n)
  have e1 : (b.env l).ver = (a.env l).ver := by omega
  have e2 : (c.env l).ver = (b.env l).ver := by omega
  obtain ⟨p, q, r⟩ := h.env l hl e1
  obtain ⟨p', q', r'⟩ := k.env l (Nat.lt_of_lt_of_le hl h.n) e2
  exact ⟨p'.trans p, q'.trans q, r'.trans r⟩

mutual
def ARep (c : Ctx) : AV → Value → Prop
  | .d x, u => DRep c.F x u
  | .own loc ver sz off len, u => loc < c.n ∧ ver ≤ (c.env loc).ver ∧ ∃ a cap, u = .slice a len cap ∧ (ver = (c.env loc).ver → len ≤ cap ∧ ((c.env loc).live = true → a = some ⟨(c.env loc).blk, off * sz, none⟩ ∧ off + cap ≤ (c.env loc).cap) ∧ ((c.env loc).live = false → cap = 0))
  | .ptr loc ver off, u => loc < c.n ∧ ver ≤ (c.env loc).ver ∧ ∃ a, u = .pointer (some a) ∧ (ver = (c.env loc).ver → a = ⟨(c.env loc).blk, off, none⟩)
  | .mp loc, u => loc < c.n ∧ ∃ r, u = .map (some r) ∧ (0 = (c.env loc).ver → r = (c.env loc).blk)
  | .agg cells, u => ∃ us, u = .agg us.toArray ∧ ALRep c cells us ∧ ∀ x ∈ us, x.oneCell' = true
  | .tup vs, u => ∃ us, u = .tuple us.toArray ∧ ALRep c vs us
  | .clo fn fs cs, u => ∃ us ws, u = .func fn us.toArray ws.toArray ∧ ALRep c fs us ∧ ALRep c cs ws
  | .any, _ => True
def ALRep (c : Ctx) : List AV → List Value → Prop
  | [], us => us = []
  | d :: ds, us => ∃ u us', us = u :: us' ∧ ARep c d u ∧ ALRep c ds us'
end

mutual
theorem ARep.ext {c c' : Ctx} (h : CtxExt c c') : ∀ {d : AV} {u : Value}, ARep c d u → ARep c' d u
  | .d _, _, r => DRep.mono h.F r
  | .own loc ver sz off len, u, ⟨hl, hv, a, cap, e, r⟩ => by
    have h1 := h.ver loc hl
    refine ⟨Nat.lt_of_lt_of_le hl h.n, Nat.le_trans hv h1, a, cap, e, fun he => ?_⟩
    have e1 : ver = (c.env loc).ver := by omega
    obtain ⟨p, q, s⟩ := h.env loc hl (by omega)
    obtain ⟨r1, r2, r3⟩ := r e1
    rw [p, q, s]
    exact ⟨r1, r2, r3⟩
  | .ptr loc ver off, u, ⟨hl, hv, a, e, r⟩ => by
    have h1 := h.ver loc hl
    refine ⟨Nat.lt_of_lt_of_le hl h.n, Nat.le_trans hv h1, a, e, fun he => ?_⟩
    obtain ⟨p, q, s⟩ := h.env loc hl (by omega)
    rw [p]; exact r (by omega)
  | .mp loc, u, ⟨hl, r0, e, r⟩ => by
    have h1 := h.ver loc hl
    refine ⟨Nat.lt_of_lt_of_le hl h.n, r0, e, fun he => ?_⟩
    obtain ⟨p, q, s⟩ := h.env loc hl (by omega)
    rw [p]; exact r (by omega)
  | .agg _, _, ⟨us, e, r, o⟩ => ⟨us, e, ALRep.ext h r, o⟩
  | .tup _, _, ⟨us, e, r⟩ => ⟨us, e, ALRep.ext h r⟩
  | .clo _ _ _, _, ⟨us, ws, e, r, q⟩ => ⟨us, ws, e, ALRep.ext h r, ALRep.ext h q⟩
  | .any, _, _ => trivial
theorem ALRep.ext {c c' : Ctx} (h : CtxExt c c') : ∀ {ds : List AV} {us : List Value}, ALRep c ds us → ALRep c' ds us
  | [], _, r => r
  | _ :: _, _, ⟨u, us', e, r, q⟩ => ⟨u, us', e, ARep.ext h r, ALRep.ext h q⟩
end

/-- Owned objects. -/
inductive AObj where
  | row (T : TypeId) (cells : List AV)
  | arr (T : TypeId) (sz ver : Nat) (rows : List (List DV))
  | map (entries : List (Value × AV))
  | hp (P : Nat → HProp)
  | dead

/-- The cells of rows, flat. -/
def FRep (F : Frag) (sz : Nat) : List (List DV) → List Value → Prop
  | [], us => us = []
  | r :: rs, us => ∃ u us', us = u ++ us' ∧ r.length = sz ∧ LRep F r u ∧ FRep F sz rs us'

theorem FRep.mono {F G : Frag} (h : Le F G) {sz : Nat} : ∀ {rs : List (List DV)} {us : List Value}, FRep F sz rs us → FRep G sz rs us
  | [], _, r => r
  | _ :: _, _, ⟨u, us', e, l, r, q⟩ => ⟨u, us', e, l, LRep.mono h r, FRep.mono h q⟩

def MRep (c : Ctx) : List (Value × AV) → List MapEntry → Prop
  | [], es => es = []
  | p :: ps, es => ∃ e es', es = e :: es' ∧ e.key = p.1 ∧ ARep c p.2 e.val ∧ MRep c ps es'

theorem MRep.ext {c c' : Ctx} (h : CtxExt c c') : ∀ {ps : List (Value × AV)} {es : List MapEntry}, MRep c ps es → MRep c' ps es
  | [], _, r => r
  | _ :: _, _, ⟨e, es', e1, k, r, q⟩ => ⟨e, es', e1, k, ARep.ext h r, MRep.ext h q⟩

def ORep (c : Ctx) (s : Slot) : AObj → Frag → Prop
  | .row T cells, f => s.ver = 0 ∧ ∃ us, f s.blk = some (.cells us.toArray T (0, 0)) ∧ ALRep c cells us ∧ ∀ x ∈ us, x.oneCell' = true
  | .arr T sz ver rows, f => s.ver = ver ∧ ((s.live = false ∧ rows = []) ∨ (s.live = true ∧ ∃ us rest, f s.blk = some (.cells (us ++ rest).toArray T (0, 0)) ∧ FRep c.F sz rows us ∧ (∀ x ∈ us, x.oneCell' = true) ∧ rows.length ≤ s.cap ∧ s.cap ≤ maxLen ∧ s.cap * sz ≤ us.length + rest.length))
  | .map ps, f => s.ver = 0 ∧ ∃ es clock, f s.blk = some (.map es clock) ∧ MRep c ps es.toList
  | .hp P, f => s.ver = 0 ∧ P s.blk f
  | .dead, _ => True

theorem ORep.ext {c c' : Ctx} (h : CtxExt c c') {s : Slot} : ∀ {o : AObj} {f : Frag}, ORep c s o f → ORep c' s o f
  | .row _ _, _, ⟨e, us, r, q, o⟩ => ⟨e, us, r, ALRep.ext h q, o⟩
  | .arr _ _ _ _, _, ⟨e, r⟩ => ⟨e, r.imp id fun ⟨l, us, rest, a, b, z⟩ => ⟨l, us, rest, a, b.mono h.F, z⟩⟩
  | .map _, _, ⟨e, es, cl, r, q⟩ => ⟨e, es, cl, r, MRep.ext h q⟩
  | .hp _, _, r => r
  | .dead, _, _ => trivial

theorem ORep.le {c : Ctx} {s : Slot} {o : AObj} {f g : Frag} (hl : ∀ P, o ≠ .hp P) (r : ORep c s o f) (h : Le f g) : ORep c s o g := by
  cases o with
  | row T cells => obtain ⟨e, us, a, b⟩ := r; exact ⟨e, us, h _ _ a, b⟩
  | arr T sz ver rows => obtain ⟨e, r⟩ := r; exact ⟨e, r.imp id fun ⟨l, us, rest, a, b⟩ => ⟨l, us, rest, h _ _ a, b⟩⟩
  | map ps => obtain ⟨e, es, cl, a, b⟩ := r; exact ⟨e, es, cl, h _ _ a, b⟩
  | hp P => exact absurd rfl (hl P)
  | dead => trivial

/-- The memory: what is frozen, what is owned, and a rest that is left alone. -/
structure Heap (c : Ctx) (σ : List AObj) (R : Frag) (w : World) : Prop where
  hF : Le c.F (fun b => w.heap[b]?)
  hR : Le R (fun b => w.heap[b]?)
  n : c.n = σ.length
  FR : Disj c.F R
  own : ∃ g : Nat → Frag, (∀ l o, σ[l]? = some o → ORep c (c.env l) o (g l)) ∧ (∀ l, Le (g l) (fun b => w.heap[b]?)) ∧
    (∀ l k, l ≠ k → Disj (g l) (g k)) ∧ ∀ l, Disj (g l) c.F ∧ Disj (g l) R

/-- What a whole run leaves as it is. -/
structure Base where
  os : Os
  tape : Nat → Question → Nat
  output : Array (Nat × ByteArray)

structure Calm (B : Base) (w : World) : Prop where
  os : w.os = B.os
  tape : w.tape = B.tape
  output : w.output = B.output

/-- Frames. -/
abbrev Fr := List (Nat × AV)
def fget : Fr → Nat → AV
  | [], _ => .any
  | (k, x) :: l, i => bif Nat.beq k i then x else fget l i

def constDV : Value → DV
  | .slice none 0 0 => .nil
  | x => .v x
def constAV : Value → AV
  | .slice none 0 0 => .d .nil
  | .agg cs => bif cs.toList.all (·.oneCell') then .d (.agg (cs.toList.map constDV)) else .any
  | .tuple _ => .any
  | x => .d (.v x)

def aget (fr : Fr) : Operand → AV
  | .tmp t => fget fr t
  | .const x => constAV x
  | .global _ => .any
  | .func f => .d (.clo (.func f) [] [])

end Go.Proofs.Ytlpgekodoiioaaa
