/- append to an owned slice; ghost steps: what becomes frozen, what is adopted. -/
import Derived.Test.YtlpgekodoiioaaaAm9
set_option linter.unusedSimpArgs false
set_option linter.unusedVariables false
namespace Go.Proofs.Ytlpgekodoiioaaa
open Go.RowKit

section
variable {P : Program} {T : Tab} {nt : Nat} {fr : Fr} {σ : List AObj} {o : Oper} {next : Fr → List AObj → Prop} {keep : Bool}

def slotOf (v : Value) (ver : Nat) : Slot := match v with
  | .slice (some a) _ cap => if cap = 0 then ⟨0, 0, ver, false⟩ else ⟨a.block, cap, ver, true⟩
  | _ => ⟨0, 0, ver, false⟩

/-- An owned slice's fragment, as the separation logic has it. -/
theorem arr_own {x : Ctx} {U : TypeId} {sz ver n loc : Nat} {rows : List (List DV)} {g : Frag} {v : Value} (ho : ORep x (x.env loc) (.arr U sz ver rows) g) (hn : n = rows.length) (ha : ARep x (.own loc ver sz 0 n) v) :
    ∃ us, FRep x.F sz rows us ∧ (∀ u ∈ us, u.oneCell' = true) ∧ ownS U sz v n us g := by
  obtain ⟨hv, ho⟩ := ho
  obtain ⟨hl, _, a, cap, e, hq⟩ := ha
  obtain ⟨q1, q2, q3⟩ := hq hv.symm
  subst e hn
  rcases ho with ⟨hlive, rfl⟩ | ⟨hlive, us, rest, hb, hf, h1, hc1, hc2, hc3⟩
  · refine ⟨[], rfl, by simp, by simp, .inl ⟨⟨a, ?_⟩, rfl⟩⟩
    rw [q3 hlive]; rfl
  · obtain ⟨rfl, hcap⟩ := q2 hlive
    have hus := hf.len
    refine ⟨us, hf, h1, hus, .inr ⟨(x.env loc).blk, cap, rest, by simp, q1, Nat.le_trans (by omega) hc2, ?_, hb⟩⟩
    exact Nat.le_trans (Nat.mul_le_mul_right sz (by omega)) hc3

theorem own_arr {x : Ctx} {U : TypeId} {sz ver n : Nat} {rows : List (List DV)} {us : List Value} {g : Frag} {v : Value} (hf : FRep x.F sz rows us) (h1 : ∀ u ∈ us, u.oneCell' = true) (hn : n = rows.length) (ho : ownS U sz v n us g) :
    ORep x (slotOf v ver) (.arr U sz ver rows) g ∧ ∃ a cap, v = .slice a n cap ∧ n ≤ cap ∧ ((slotOf v ver).live = true → a = some ⟨(slotOf v ver).blk, 0, none⟩ ∧ cap = (slotOf v ver).cap) ∧ ((slotOf v ver).live = false → cap = 0) ∧ (slotOf v ver).ver = ver := by
  obtain ⟨hl, ho⟩ := ho
  subst hn
  rcases ho with ⟨⟨a, rfl⟩, h0⟩ | ⟨b, cap, rest, rfl, hc1, hc2, hc3, hb⟩
  · have hr : rows = [] := List.eq_nil_of_length_eq_zero h0
    subst hr
    have hs : slotOf (.slice a 0 0) ver = ⟨0, 0, ver, false⟩ := by cases a <;> simp [slotOf]
    rw [hs]
    exact ⟨⟨rfl, .inl ⟨rfl, rfl⟩⟩, a, 0, rfl, Nat.le_refl _, (fun h => by cases h), (fun _ => rfl), rfl⟩
  · by_cases hc : cap = 0
    · have hs : slotOf (.slice (some ⟨b, 0, none⟩) rows.length cap) ver = ⟨0, 0, ver, false⟩ := by simp [slotOf, hc]
      have hr : rows = [] := List.eq_nil_of_length_eq_zero (by omega)
      rw [hs]
      exact ⟨⟨rfl, .inl ⟨rfl, hr⟩⟩, _, cap, rfl, hc1, (fun h => by cases h), (fun _ => hc), rfl⟩
    · have hs : slotOf (.slice (some ⟨b, 0, none⟩) rows.length cap) ver = ⟨b, cap, ver, true⟩ := by simp [slotOf, hc]
      rw [hs]
      exact ⟨⟨rfl, .inr ⟨rfl, us, rest, hb, hf, h1, hc1, hc2, hc3⟩⟩, _, cap, rfl, hc1, (fun _ => ⟨rfl, rfl⟩), (fun h => by cases h), rfl⟩

/-- What is appended: frozen rows. -/
def srcRows (sz : Nat) : AV → Option (List (List DV))
  | .d (.lst s rows) => bif Nat.beq s sz then some rows else none
  | .d .nil => some []
  | _ => none

theorem src_rd {x : Ctx} {v : AV} {u : Value} {w : World} {sz : Nat} {rows : List (List DV)} (hF : Le x.F (fun b => w.heap[b]?)) (h : ARep x v u) (hs : srcRows sz v = some rows) :
    ∃ us, rd w sz u rows.length us ∧ FRep x.F sz rows us ∧ ∀ y ∈ us, y.oneCell' = true := by
  unfold srcRows at hs
  split at hs
  · rename_i s rows'
    cases hq : Nat.beq s sz with
    | false => rw [hq] at hs; cases hs
    | true =>
      rw [hq] at hs
      have hq := Nat.eq_of_beq_eq_true hq
      subst hq
      injection hs with hs
      subst hs
      obtain ⟨a, cap, e, hc, hr⟩ := h
      subst e
      rcases hr with rfl | ⟨b, off, rfl, hr⟩
      · exact ⟨[], ⟨by simp, .inl ⟨⟨_, _, rfl⟩, rfl⟩⟩, rfl, by simp⟩
      · obtain ⟨us, h1, h2, h3⟩ := hr.flat
        refine ⟨us, ⟨h1.len, .inr ⟨b, off, cap, rfl, hc, fun hp => ?_, fun j u hj => fcell_cell hF (h3 j u hj)⟩⟩, h1, h2⟩
        have := fcell_cell hF (h3 0 us[0] (by rw [List.getElem?_eq_getElem hp]))
        unfold World.cell? at this
        split at this
        · rename_i hh; exact (Array.getElem?_eq_some_iff.1 hh).1
        · cases this
  · injection hs with hs
    subst hs
    obtain ⟨a, e⟩ := h
    subst e
    exact ⟨[], ⟨by simp, .inl ⟨⟨_, _, rfl⟩, rfl⟩⟩, rfl, by simp⟩
  · cases hs

theorem append_core {w : World} {U : TypeId} {t ty : TypeId} {sz n m : Nat} {v xv : Value} {us news : List Value} {g : Frag} (hg : Le g (fun b => w.heap[b]?)) (ho : ownS U sz v n us g)
    (ht : P.underlying t = some (.slice U)) {bytes : Nat} {agg : Bool} (hty : TyIs P U sz bytes agg) {z : List Value} (hz : ZIs P U z) (hzl : z.length = sz) (hx : rd w sz xv m news) (h1 : ∀ u ∈ news, u.oneCell' = true)
    (h63 : n + m ≤ maxLen) (hbytes : (n + m) * bytes ≤ 140737488355328) :
    ∃ v' w', (Builtin.append_ #[t, t] ty #[v, xv]).run P w = .ok v' w' ∧ w'.os = w.os ∧ w'.tape = w.tape ∧ w'.output = w.output ∧
      (∃ f, ownS U sz v' (n + m) (us ++ news) f ∧ Le f (fun b => w'.heap[b]?) ∧ ∀ b, f b ≠ none → g b ≠ none ∨ w.heap.size ≤ b) ∧ ∀ b, g b = none → b < w.heap.size → w'.heap[b]? = w.heap[b]? := by
  let W0 : World := { w with heap := #[] }
  let rest : Frag := fun b => if g b = none then w.heap[b]? else none
  have hnp : ∀ w' : World, newPart W0 w' = fun b => w'.heap[b]? := fun w' => by funext b; simp [newPart, W0]
  have hrest : Le rest (fun b => w.heap[b]?) := fun b ob e => by
    simp only [rest] at e
    split at e
    · exact e
    · cases e
  have hdis : Disj g rest := fun b => by
    by_cases q : g b = none
    · exact .inl q
    · right; simp [rest, q]
  have st : St W0 w [ownS U sz v n us, fun f => f = rest] := by
    refine ⟨rfl, rfl, rfl, Nat.zero_le _, fun k hk => absurd hk (Nat.not_lt_zero _), ?_⟩
    rw [hnp]
    exact ⟨g, rest, ho, ⟨rest, fun _ => none, rfl, trivial, fun b => .inr rfl, Le.refl _, (fun b o e => by cases e)⟩, hdis, hg, hrest⟩
  obtain ⟨i, d, e1, e2, e3, e4, e5⟩ := hty.ex
  obtain ⟨i', zv, z1, z2, z3⟩ := hz.ex
  rw [e1] at z1
  injection z1 with z1
  subst z1
  have hzs : zv.cells.size = sz := by rw [← hzl, ← z3]; simp
  obtain ⟨v', w', hr, h2, h3⟩ := st.append (P := P) (ty := ty) ht e1 z2 e3 e4 hzs hx h1 h63 hbytes
  refine ⟨v', w', hr, h2.os, h2.tape, h2.output, ?_⟩
  have hsep := h2.sep
  rw [hnp] at hsep
  obtain ⟨f, f2, p, ⟨f3, f4, p3, _, _, l3, _⟩, d1, l1, l2⟩ := hsep
  subst p3
  have hle : Le rest (fun b => w'.heap[b]?) := l3.trans l2
  have hfd : Disj f rest := d1.le (Le.refl _) l3
  refine ⟨⟨f, p, l1, fun b hb => ?_⟩, fun b hb hlt => ?_⟩
  · by_cases q : g b = none
    · right
      have := (hfd b).resolve_left hb
      simp only [rest, q, if_true] at this
      exact Nat.le_of_not_lt fun hlt => by rw [Array.getElem?_eq_getElem hlt] at this; cases this
    · exact .inl q
  · have hs := Array.getElem?_eq_getElem hlt
    rw [hs]
    exact hle b _ (by simp only [rest, hb, if_true]; exact hs)

/-- append to an owned slice. -/
theorem do_append (hT : okTab P T = true) {t sz bytes loc ver : Nat} {agg : Bool} {a b : Operand} {U : TypeId} {rows rows2 : List (List DV)} {n : Nat} (ho : o.op = .call { callee := .builtin .append, args := #[a, b], argTypes := #[t, t] }) (ht : dstOk o.dst nt = true)
    (hs : find1 T.sl t = some U) (he : find1 T.ty U = some (sz, bytes, agg)) {z : List Value} (hz : ZIs P U z) (hzl : Nat.beq z.length sz = true) (ha : aget fr a = .own loc ver sz 0 n) (hl : σ[loc]? = some (.arr U sz ver rows)) (hn : n = rows.length) (hb : srcRows sz (aget fr b) = some rows2)
    (h63 : rows.length + rows2.length ≤ maxLen) (hbytes : (rows.length + rows2.length) * bytes ≤ 140737488355328)
    (hnx : next (fput o.dst (.own loc (ver + 1) sz 0 (rows.length + rows2.length)) fr) (σ.set loc (.arr U sz (ver + 1) (rows ++ rows2)))) : DoOp P nt o fr σ false next := by
  refine do_value ht (fun v σ' => v = .own loc (ver + 1) sz 0 (rows.length + rows2.length) ∧ σ' = σ.set loc (.arr U sz (ver + 1) (rows ++ rows2))) (fun v σ' ⟨a, b⟩ => a ▸ b ▸ hnx) fun k x A w s => ?_
  have hzl := Nat.eq_of_beq_eq_true hzl
  have hty := T.tyIs hT he
  have hra := s.arg a
  rw [ha] at hra
  obtain ⟨news, hx, hf2, h1⟩ := src_rd s.heap.hF (s.arg b) hb
  obtain ⟨g, g1, g2, g3, g4⟩ := s.heap.own
  have core : ∀ g0, ORep x (x.env loc) (.arr U sz ver rows) g0 → Le g0 (fun b => w.heap[b]?) → ∃ us v' w', FRep x.F sz rows us ∧ (∀ u ∈ us, u.oneCell' = true) ∧ (Builtin.append_ #[t, t] o.type #[A.eval a, A.eval b]).run P w = .ok v' w' ∧ w'.os = w.os ∧ w'.tape = w.tape ∧ w'.output = w.output ∧
      (∃ f, ownS U sz v' (n + rows2.length) (us ++ news) f ∧ Le f (fun b => w'.heap[b]?) ∧ ∀ b, f b ≠ none → g0 b ≠ none ∨ w.heap.size ≤ b) ∧ ∀ b, g0 b = none → b < w.heap.size → w'.heap[b]? = w.heap[b]? := fun g0 hg0 hle => by
    obtain ⟨us, f1, f2, f3⟩ := arr_own hg0 hn hra
    obtain ⟨v', w', c⟩ := append_core (ty := o.type) hle f3 (T.slIs hT hs) hty hz hzl hx h1 (by rw [hn]; exact h63) (by rw [hn]; exact hbytes)
    exact ⟨us, v', w', f1, f2, c⟩
  obtain ⟨us, v', w', f1, f2, hrun, c1, c2, c3, ⟨f, p, p1, p2⟩, c5⟩ := core (g loc) (g1 loc _ hl) (g2 loc)
  have hlen : n + rows2.length = (rows ++ rows2).length := by rw [hn]; simp
  have one : ∀ u ∈ us ++ news, u.oneCell' = true := fun u hu => (List.mem_append.1 hu).elim (f2 u) (h1 u)
  obtain ⟨_, ad, cap, ev, hcap, hlv, hdd, hver⟩ := own_arr (x := x) (ver := ver + 1) (f1.append hf2) one hlen p
  have hev : (x.env loc).ver = ver := (g1 loc _ hl).1
  have hxe : CtxExt x (x.upd loc (slotOf v' (ver + 1))) := Ctx.upd_ext (by rw [hver]; omega) fun q => by omega
  have hslot : (x.upd loc (slotOf v' (ver + 1))).env loc = slotOf v' (ver + 1) := by simp [Ctx.upd]
  refine ⟨v', w', _, _, _, ?_, hxe, ?_, s.heap.upd hl hxe (o' := .arr U sz (ver + 1) (rows ++ rows2)) fun g0 hg0 hle => ?_, ⟨c1.trans s.calm.os, c2.trans s.calm.tape, c3.trans s.calm.output⟩, (fun h => by cases h), rfl, rfl⟩
  · unfold execOp
    simp [ho, resolve, invoke, builtin, hrun]
  · refine ⟨hra.1, by rw [hslot, hver]; exact Nat.le_refl _, ad, cap, by rw [ev, hn], fun _ => ⟨by rw [← hn]; exact hcap, fun q => ?_, fun q => hdd (hslot ▸ q)⟩⟩
    rw [hslot] at q ⊢
    obtain ⟨q1, q2⟩ := hlv q
    rw [q1, q2]
    simp
  · obtain ⟨us', v2, w2, f1', f2', hrun', _, _, _, ⟨f', p', p1', p2'⟩, c5'⟩ := core g0 hg0 hle
    rw [hrun] at hrun'
    injection hrun' with e1 e2
    subst e1 e2
    have one' : ∀ u ∈ us' ++ news, u.oneCell' = true := fun u hu => (List.mem_append.1 hu).elim (f2' u) (h1 u)
    obtain ⟨q, _⟩ := own_arr (x := x) (ver := ver + 1) (f1'.append hf2) one' hlen p'
    exact ⟨⟨f', q.ext hxe, p1', p2'⟩, c5'⟩

/-! What becomes frozen. -/

/-- A view of an owned object as frozen data. -/
def asD (σ : List AObj) : AV → Nat → DV → Prop
  | .own loc ver sz off len, l, d => loc = l ∧ ∃ U rows, σ[l]? = some (.arr U sz ver rows) ∧ d = .lst sz ((rows.drop off).take len) ∧ off + len ≤ rows.length
  | .ptr loc ver off, l, d => loc = l ∧ ver = 0 ∧ ∃ U cells ds, σ[l]? = some (.row U cells) ∧ allD cells = some ds ∧ d = .fptr (ds.drop off)
  | _, _, _ => False

theorem FRep.drop {F : Frag} {sz : Nat} : ∀ {rs : List (List DV)} {us : List Value} (n : Nat), FRep F sz rs us → FRep F sz (rs.drop n) (us.drop (n * sz))
  | _, _, 0, h => by simpa using h
  | [], _, n + 1, h => by rw [h]; simp [FRep]
  | r :: rs, _, n + 1, ⟨u, us', e, hl, l, q⟩ => by
    subst e
    have hu : u.length = sz := by rw [l.len, hl]
    rw [show (n + 1) * sz = u.length + n * sz by rw [Nat.add_mul, hu]; omega, List.drop_length_add_append]
    exact FRep.drop n q
theorem FRep.take {F : Frag} {sz : Nat} : ∀ {rs : List (List DV)} {us : List Value} (n : Nat), FRep F sz rs us → FRep F sz (rs.take n) (us.take (n * sz))
  | _, _, 0, h => by simp [FRep]
  | [], _, n + 1, h => by rw [h]; simp [FRep]
  | r :: rs, _, n + 1, ⟨u, us', e, hl, l, q⟩ => by
    subst e
    have hu : u.length = sz := by rw [l.len, hl]
    refine ⟨u, us'.take (n * sz), ?_, hl, l, FRep.take n q⟩
    rw [show (n + 1) * sz = u.length + n * sz by rw [Nat.add_mul, hu]; omega, List.take_length_add_append]

theorem asD_rep {x : Ctx} {v : AV} {u : Value} {l : Nat} {d : DV} {ob : AObj} {f : Frag} (hv : ARep x v u) (ha : asD σ v l d) (hl : σ[l]? = some ob) (ho : ORep x (x.env l) ob f) (hd : Disj f x.F) : DRep (Un x.F f) d u := by
  have hc : ∀ {b off : Nat} {T : TypeId} {cs : List Value}, f b = some (.cells cs.toArray T (0, 0)) → ∀ j y, (cs.drop off)[j]? = some y → fcell (Un x.F f) b (off + j) = some y := fun {b off T cs} hb j y hj => by
    have hn : x.F b = none := (hd b).resolve_left (by rw [hb]; simp)
    simp only [fcell, Un, hn, hb]
    simpa [List.getElem?_drop] using hj
  cases v with
  | own loc ver sz off len =>
    obtain ⟨rfl, U, rows, hs, rfl, hle⟩ := ha
    rw [hl] at hs
    injection hs with hs
    subst hs
    obtain ⟨hv1, hor⟩ := ho
    obtain ⟨_, _, a, cap, e, hq⟩ := hv
    obtain ⟨q1, q2, q3⟩ := hq hv1.symm
    subst e
    have hlen : ((rows.drop off).take len).length = len := by simp; omega
    rcases hor with ⟨hlive, rfl⟩ | ⟨hlive, us, rest, hb, hf, h1, _⟩
    · have h0 : len = 0 := by simpa using hlen.symm
      subst h0
      exact ⟨a, cap, by simp, by simp, .inl (by simp)⟩
    · obtain ⟨rfl, hcap⟩ := q2 hlive
      refine ⟨_, cap, by rw [hlen], by rw [hlen]; exact q1, .inr ⟨_, _, rfl, ?_⟩⟩
      have hf2 := ((hf.drop off).take len).mono (Le.un_left x.F f)
      refine RRep.of_flat hf2 (fun y hy => h1 y (List.mem_of_mem_drop (List.mem_of_mem_take hy))) fun j y hj => ?_
      refine hc hb j y ?_
      rw [List.getElem?_take] at hj
      split at hj
      · rw [List.getElem?_drop] at hj ⊢
        have hlt := (List.getElem?_eq_some_iff.1 hj).1
        rw [List.getElem?_append_left hlt]; exact hj
      · cases hj
  | ptr loc ver off =>
    obtain ⟨rfl, rfl, U, cells, ds, hs, hds, rfl⟩ := ha
    rw [hl] at hs
    injection hs with hs
    subst hs
    obtain ⟨hv1, us, hb, hr, h1⟩ := ho
    obtain ⟨_, _, a, e, hq⟩ := hv
    have := hq hv1.symm
    subst this e
    rw [allD_map hds] at hr
    have hr := hr.toD
    refine ⟨_, _, rfl, ?_⟩
    have hd2 : LRep (Un x.F f) (ds.drop off) (us.drop off) := by
      have : ∀ (n : Nat) {ds : List DV} {us : List Value}, LRep x.F ds us → LRep x.F (ds.drop n) (us.drop n) := fun n => by
        induction n with
        | zero => intro ds us h; exact h
        | succ n ih =>
          intro ds us h
          cases ds with
          | nil => rw [h]; simp [LRep]
          | cons d ds => obtain ⟨u, us', e, _, q⟩ := h; subst e; exact ih q
      exact (this off hr).mono (Le.un_left _ _)
    exact CRep.of_list hd2 (fun y hy => h1 y (List.mem_of_mem_drop hy)) (hc hb)
  | d _ => exact ha.elim
  | mp _ => exact ha.elim
  | agg _ => exact ha.elim
  | tup _ => exact ha.elim
  | clo _ _ _ => exact ha.elim
  | any => exact ha.elim

/-- An owned object becomes frozen: the temporaries of a list see it so. -/
theorem ghost_freeze {ts : List (Nat × DV)} {l : Nat} {ob : AObj} (hl : σ[l]? = some ob) (h : ∀ p ∈ ts, asD σ (fget fr p.1) l p.2) : Ghost fr σ (ts.map (fun p => (p.1, AV.d p.2)) ++ fr) (σ.set l .dead) := by
  intro k x nt A w s
  obtain ⟨f, ho, hd, hh⟩ := s.heap.freeze hl
  have hx : CtxExt x (x.frz (Un x.F f)) := Ctx.frz_ext (Le.un_left _ _)
  refine ⟨_, hx, s.size, s.defers, ?_, hh, s.calm⟩
  clear hh
  induction ts with
  | nil => exact fun i => (s.tmps i).ext hx
  | cons p ts ih =>
    have ih := ih fun q hq => h q (by simp [hq])
    intro i
    rw [List.map_cons, List.cons_append]
    by_cases e : p.1 = i
    · subst e
      rw [fget_cons_self]
      exact asD_rep (s.tmps p.1) (h p (by simp)) hl ho hd
    · rw [fget_cons_ne _ _ e]; exact ih i

/-- A nil slice becomes an owned one. -/
theorem ghost_adopt {t : Nat} (U sz : Nat) (h : fget fr t = .d .nil) : Ghost fr σ ((t, .own σ.length 0 sz 0 0) :: fr) (σ ++ [.arr U sz 0 []]) := by
  intro k x nt A w s
  have hh := s.heap
  obtain ⟨g, g1, g2, g3, g4⟩ := hh.own
  have hx := x.push_ext ⟨0, 0, 0, false⟩
  refine ⟨_, hx, s.size, s.defers, fun i => ?_, ⟨hh.hF, hh.hR, by simp [Ctx.push, hh.n], hh.FR, fun l => if l = x.n then fun _ => none else g l, fun l o' hl => ?_, fun l => ?_, fun l k hlk => ?_, fun l => ?_⟩, s.calm⟩
  · by_cases e : t = i
    · subst e
      rw [fget_cons_self]
      have := s.tmps t
      rw [h] at this
      obtain ⟨a, ha⟩ := this
      rw [ha]
      refine ⟨by simp [Ctx.push, hh.n], by simp, a, 0, rfl, fun _ => ⟨Nat.le_refl _, fun q => ?_, fun _ => rfl⟩⟩
      simp [Ctx.push, hh.n] at q
    · rw [fget_cons_ne _ _ e]; exact (s.tmps i).ext hx
  · by_cases e : l = x.n
    · subst e
      rw [hh.n, List.getElem?_concat_length] at hl
      injection hl with hl
      subst hl
      exact ⟨by simp [Ctx.push], .inl ⟨by simp [Ctx.push], rfl⟩⟩
    · have hlt : l < σ.length := by
        have := (List.getElem?_eq_some_iff.1 hl).1
        simp at this
        have := hh.n
        omega
      rw [List.getElem?_append_left hlt] at hl
      (try dsimp only)
      rw [if_neg e]
      have : (x.push ⟨0, 0, 0, false⟩).env l = x.env l := by simp [Ctx.push, e]
      rw [this]
      exact (g1 l o' hl).ext hx
  · (try dsimp only)
    split
    · intro b o e; cases e
    · exact g2 l
  · (try dsimp only)
    split
    · exact fun b => .inl rfl
    · split
      · exact fun b => .inr rfl
      · exact g3 l k hlk
  · (try dsimp only)
    split
    · exact ⟨fun b => .inl rfl, fun b => .inl rfl⟩
    · exact g4 l
end
end Go.Proofs.Ytlpgekodoiioaaa
