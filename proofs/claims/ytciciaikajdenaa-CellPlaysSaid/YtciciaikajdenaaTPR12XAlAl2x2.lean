/- XAlAl2: Al, Al2 in one. -/
import Derived.Recover
import Derived.Test.YtciciaikajdenaaTPR12Agx2
set_option linter.unusedSimpArgs false
set_option linter.unusedVariables false
/- Al: a slice that is written out, owned. -/
namespace Go.Proofs.Ytciciaikajdenaa
open Go.RowKit

section
variable {P : Program} {T : Tab} {Z : TabZ} {nt : Nat} {Q : Exit → Fr → List AObj → Prop} {fr : Fr} {σ : List AObj} {ops : Array Oper} {dr : Bool} {dos ends : List Nat} {l : Trr} {o : Oper} {i d : Nat} {next : Fr → List AObj → Prop} {keep : Bool}
variable {ty : TypeId} {pos : String} {aft : Array Edge} {gd : Option (Nat × Bool)}

theorem do_litO (hT : okTab P T = true) {t e sz bytes len : Nat} {agg : Bool} {parts : Array (Nat × Operand)} {rows : List (List DV)} (ho : o.op = .buildSlice t len parts) (ht : dstOk o.dst nt = true) (hs : find1 T.sl t = some e) (he : find1 T.ty e = some (sz, bytes, agg)) {z : List Value} (hz : ZIs P e z)
    (hr : litRows sz (parts.toList.map fun p => (p.1, aget fr p.2)) 0 = some rows) (hl : Nat.beq parts.size len = true) (hb : Nat.ble (len * sz) 16777216 = true) (hlb : Nat.ble len 16777216 = true) (h : next (fput o.dst (.own σ.length 0 sz 0 rows.length) fr) (σ ++ [.arr e sz 0 rows])) : DoOp P nt o fr σ keep next := by
  refine do_value ht (fun v σ' => v = .own σ.length 0 sz 0 rows.length ∧ σ' = σ ++ [.arr e sz 0 rows]) (fun v σ' ⟨a, b⟩ => a ▸ b ▸ h) fun k x A w s => ?_
  obtain ⟨i, zv, e1, e2, e3⟩ := hz.ex
  have hl := Nat.eq_of_beq_eq_true hl
  have hb := Nat.le_of_ble_eq_true hb
  have hlb := Nat.le_of_ble_eq_true hlb
  have hrl : ∀ (l : List (Nat × AV)) (i : Nat) (rs : List (List DV)), litRows sz l i = some rs → rs.length = l.length := fun l => by
    induction l with
    | nil => intro i rs h; cases h; rfl
    | cons p l ih =>
      intro i rs h
      unfold litRows at h
      split at h
      · rename_i ds rs' _ hrs
        cases hc : (Nat.beq p.1 i && Nat.beq ds.length sz && oneA p.2) <;> rw [hc] at h <;> cases h
        simp [ih _ _ hrs]
      · cases h
  have hlen := hrl _ _ _ hr
  simp only [List.length_map, Array.length_toList] at hlen
  have hsz := (T.tyIs hT he).size_run w
  generalize hza : ((Array.range (len * sz)).map fun j => (if len * sz = 0 then (#[] : Array Value) else zv.cells)[j % (if len * sz = 0 then (#[] : Array Value) else zv.cells).size]!) = za
  have hzs : za.toList.length = parts.toList.length * sz := by rw [← hza]; simp [hl]
  obtain ⟨us, q1, q2, q3⟩ := fill_lit (x := x) sz (parts.toList.map fun p => (p.1, aget fr p.2)) (parts.toList.map fun p => (p.1, A.eval p.2)) 0 rows [] za.toList (by simp) (fun j p q hp hq => by
    simp only [List.getElem?_map, Option.map_eq_some_iff] at hp hq
    obtain ⟨y, hy, rfl⟩ := hp
    obtain ⟨y', hy', rfl⟩ := hq
    rw [hy] at hy'
    injection hy' with hy'
    subst hy'
    exact ⟨rfl, s.arg y.2⟩) hr (by simp) (by simpa using hzs)
  simp only [List.nil_append, Array.toArray_toList] at q1
  have hx := x.push_ext ⟨w.heap.size, rows.length, 0, true⟩
  refine ⟨.slice (some ⟨w.heap.size, 0, none⟩) rows.length rows.length, w.alloc (.cells us.toArray e), x.push ⟨w.heap.size, rows.length, 0, true⟩, _, _, ?_, hx, ?_, s.heap.new ?_, s.calm.alloc _, fun _ => agree_alloc _ _, rfl, rfl⟩
  · unfold execOp
    have hm : (parts.map fun p => (p.1, A.eval p.2)).toList = parts.toList.map fun p => (p.1, A.eval p.2) := by simp
    have hnot : ¬ (16777216 < len * sz) := by omega
    simp only [ho, Instr.buildSlice, Sem.run_bind, run_underlying (T.slIs hT hs), Result.andThen_ok, hsz]
    by_cases h0 : len * sz = 0
    · rw [if_pos h0] at hza
      simp [hnot, h0, hm] at q1 hza ⊢
      subst hza
      simp [q1, newRow, hlen, hl]
    · rw [if_neg h0] at hza
      simp [hnot, h0, hm, zeroValue, run_typeInfo w e1, e2] at q1 hza ⊢
      rw [hza]
      simp [q1, newRow, hlen, hl]
  · refine ⟨by simp [Ctx.push, s.heap.n], by simp, _, rows.length, rfl, fun _ => ⟨Nat.le_refl _, fun _ => ?_, fun q => ?_⟩⟩
    · simp [Ctx.push, s.heap.n]
    · simp [Ctx.push, s.heap.n] at q
  · refine ⟨rfl, .inr ⟨rfl, us, [], ?_, q2.mono hx.F, q3, Nat.le_refl _, by show rows.length ≤ maxLen; unfold maxLen; omega, ?_⟩⟩
    · simp [oneFrag]
    · rw [q2.len]; simp
/-- A slice that is written out is owned. -/
theorem s_litO (hT : okTab P T = true) (hZ : okTabZ P Z = true) {t e sz bytes len m : Nat} {agg : Bool} {parts : Array (Nat × Operand)} {rows : List (List DV)} {z : List Value} (hp : (dr && !dos.contains i) = false) (hg : guardB ops fr gd = some true) (hk : (dr && !ends.contains i && !true) = false) (ht : Nat.blt d nt = true) (hs : find1 T.sl t = some e) (he : find1 T.ty e = some (sz, bytes, agg)) (hz : find1 Z.zs e = some z)
    (hr : litRows sz (parts.toList.map fun p => (p.1, aget fr p.2)) 0 = some rows) (hl : Nat.beq parts.size len = true) (hb : Nat.ble (len * sz) 16777216 = true) (hlb : Nat.ble len 16777216 = true) (hm : rows.length = m)
    (h : ∀ loc σ', Fresh σ loc (.arr e sz 0 rows) σ' → AL P nt ops dr dos ends l Q ((d, .own loc 0 sz 0 m) :: fr) σ') : ALo P nt ops dr dos ends i ⟨some d, .buildSlice t len parts, ty, pos, aft, gd⟩ l Q fr σ := by
  subst hm
  refine ⟨fun ho => s_do (keep := true) ho hp hg hk ?_⟩
  exact do_litO hT rfl ht hs he (TabZ.z hZ hz) hr hl hb hlb (h _ _ (fresh_app _ _))

/-- An owned slice in a row's cell becomes frozen. -/
theorem ghost_freezeC {loc j t locC U sz ver n : Nat} {cells : List AV} {rows : List (List DV)} (hl : σ[loc]? = some (.row t cells)) (hj : cells[j]? = some (.own locC ver sz 0 n)) (hC : σ[locC]? = some (.arr U sz ver rows)) (hn : n = rows.length) :
    Ghost fr σ fr ((σ.set locC .dead).set loc (.row t (cells.set j (.d (.lst sz rows))))) := by
  intro k x nt A w s
  have hne : locC ≠ loc := fun e => by rw [e, hl] at hC; cases hC
  obtain ⟨f, ho, hd, hh⟩ := s.heap.freeze hC
  have hx : CtxExt x (x.frz (Un x.F f)) := Ctx.frz_ext (Le.un_left _ _)
  have hl2 : (σ.set locC .dead)[loc]? = some (.row t cells) := by rw [List.getElem?_set_ne hne]; exact hl
  have hx2 : CtxExt (x.frz (Un x.F f)) ((x.frz (Un x.F f)).upd loc ((x.frz (Un x.F f)).env loc)) := Ctx.upd_ext (Nat.le_refl _) fun _ => ⟨rfl, rfl, rfl⟩
  refine ⟨_, hx.trans hx2, s.size, s.defers, fun i => (s.tmps i).ext (hx.trans hx2), hh.upd hl2 hx2 fun g0 hg0 hle => ⟨⟨g0, ?_, hle, fun b hb => .inl hb⟩, fun b _ _ => rfl⟩, s.calm⟩
  obtain ⟨hv, us, h1, h2, h3⟩ := hg0
  refine ⟨hv, us, h1, ?_, h3⟩
  have key : ∀ u, ARep x (.own locC ver sz 0 n) u → DRep (Un x.F f) (.lst sz rows) u := fun u hu => asD_rep hu ⟨rfl, U, rows, hC, by simp [hn], by omega⟩ hC ho hd
  clear h1 h3 hl hl2 hh
  have h2' : ALRep (x.frz (Un x.F f)) cells us := h2
  clear h2
  induction cells generalizing us j with
  | nil => simp at hj
  | cons c cs ih =>
    obtain ⟨u, us', e3, r, q⟩ := h2'
    cases j with
    | zero =>
      simp at hj
      subst hj
      exact ⟨u, us', e3, key u r, q.ext hx2⟩
    | succ j => exact ⟨u, us', e3, r.ext hx2, ih (by simpa using hj) _ q⟩
structure FrzC (σ : List AObj) (loc : Nat) (t : TypeId) (c : List AV) (L : Nat) (σ' : List AObj) : Prop where
  row : σ'[loc]? = some (.row t c)
  keep' : ∀ k o, σ[k]? = some o → k ≠ loc → k ≠ L → σ'[k]? = some o
theorem frzC {loc j t locC U sz ver : Nat} {cells : List AV} {rows : List (List DV)} (hl : σ[loc]? = some (.row t cells)) (hC : σ[locC]? = some (.arr U sz ver rows)) : FrzC σ loc t (cells.set j (.d (.lst sz rows))) locC ((σ.set locC .dead).set loc (.row t (cells.set j (.d (.lst sz rows))))) :=
  ⟨by rw [List.getElem?_set_self (by simp; exact (List.getElem?_eq_some_iff.1 hl).1)], fun k o e h1 h2 => by rw [List.getElem?_set_ne (Ne.symm h1), List.getElem?_set_ne (Ne.symm h2)]; exact e⟩
theorem w_freezeC {c : Code} (loc j : Nat) {t locC U sz ver n : Nat} {cells : List AV} {rows : List (List DV)} (hl : σ[loc]? = some (.row t cells)) (hj : cells[j]? = some (.own locC ver sz 0 n)) (hC : σ[locC]? = some (.arr U sz ver rows)) (hn : n = rows.length)
    (h : ∀ σ', FrzC σ loc t (cells.set j (.d (.lst sz rows))) locC σ' → AWk P nt c Q fr σ') : AWk P nt c Q fr σ :=
  aw_ghost (ghost_freezeC hl hj hC hn) (h _ (frzC hl hC))
end
end Go.Proofs.Ytciciaikajdenaa

/- Al2: a field of a struct that stands in no memory. -/
namespace Go.Proofs.Ytciciaikajdenaa
open Go.RowKit

section
variable {P : Program} {T : Tab} {Z : TabZ} {nt : Nat} {Q : Exit → Fr → List AObj → Prop} {fr : Fr} {σ : List AObj} {ops : Array Oper} {dr : Bool} {dos ends : List Nat} {l : Trr} {o : Oper} {i d : Nat}
variable {ty : TypeId} {pos : String} {aft : Array Edge} {gd : Option (Nat × Bool)}
end
end Go.Proofs.Ytciciaikajdenaa
/- Ap: panics in the abstract walk: a function that panics; a call of it; a function that defers a closure that recovers. -/
set_option linter.unusedSimpArgs false
set_option linter.unusedVariables false
namespace Go.Proofs.Ytciciaikajdenaa
open Go.RowKit

/-- What a panic is, that nothing has recovered yet. -/
def chainOf (v : Value) : List PanicEntry := [{ v := v, recovered := false }]

/-- A function that does not come back: it panics. -/
def RunsE (P : Program) (f : FuncId) (args : List AV) (σ : List AObj) (pan : Value → List AObj → Prop) : Prop :=
  isGo P f = true ∧ ∀ (B : Base) (R : Frag) (x : Ctx) (w : World) (vs : List Value), ALRep x args vs → Heap x σ R w → Calm B w →
    Calls P f vs.toArray w fun e w' => ∃ pv x' σ', e = .panicked (chainOf pv) ∧ CtxExt x x' ∧ Heap x' σ' R w' ∧ Calm B w' ∧ pan pv σ'

theorem RunsE.mono {P : Program} {f : FuncId} {args : List AV} {σ : List AObj} {pan pan' : Value → List AObj → Prop} (h : RunsE P f args σ pan) (q : ∀ v σ', pan v σ' → pan' v σ') : RunsE P f args σ pan' :=
  ⟨h.1, fun B R x w vs a b c => Calls.mono (h.2 B R x w vs a b c) fun e w' ⟨pv, x', σ', h1, h2, h3, h4, h5⟩ => ⟨pv, x', σ', h1, h2, h3, h4, q _ _ h5⟩⟩

/-- How code ends that panics. -/
def panQ (pan : Value → List AObj → Prop) : Exit → Fr → List AObj → Prop
  | .panic ch, _, σ => ∃ pv, ch = chainOf pv ∧ pan pv σ
  | _, _, _ => False

section
variable {P : Program} {T : Tab} {nt : Nat} {Q : Exit → Fr → List AObj → Prop} {fr : Fr} {σ : List AObj} {ops : Array Oper} {dr : Bool} {dos ends : List Nat} {l : Trr} {o : Oper} {i d : Nat}
variable {ty : TypeId} {pos : String} {aft : Array Edge} {gd : Option (Nat × Bool)}

theorem runs_enterE {f : FuncId} {fn : Func} {c : Code} {args : List AV} {pan : Value → List AObj → Prop} (hf : P.funcs[f]? = some fn) (hb : fn.body = some c) (hg : isGo P f = true) (hn : Nat.ble args.length fn.ntmps = true)
    (h : AWk P fn.ntmps c (panQ pan) (frameOf args 0) σ) : RunsE P f args σ pan := by
  refine ⟨hg, fun B R x w vs ha hh hc => ?_⟩
  refine calls_of_wp hf hb ?_
  have hl := ha.len
  have hn := Nat.le_of_ble_eq_true hn
  have s : Sim ⟨B, R, []⟩ x fn.ntmps (frameOf args 0) σ { tmps := vs.toArray ++ Array.replicate (fn.ntmps - vs.toArray.size) undef, defers := [] } w := by
    refine ⟨by simp; omega, rfl, fun i => ?_, hh, hc⟩
    have := frame_rep (Array.replicate (fn.ntmps - vs.toArray.size) undef) #[] ha i
    simpa using this
  refine wp_mono (h.out _ x _ w s) fun e A w' p => ?_
  cases e with
  | normal => obtain ⟨x', fr, σ', hx, hs, hp⟩ := p; exact hp.elim
  | ret => obtain ⟨x', fr, σ', hx, hs, hp⟩ := p; exact hp.elim
  | exit i => obtain ⟨x', fr, σ', hx, hs, hp⟩ := p; exact hp.elim
  | goto i => obtain ⟨x', fr, σ', hx, hs, hp⟩ := p; exact hp.elim
  | panic ch =>
    obtain ⟨hd, x', σ', hx, hh', hc', pv, rfl, hp⟩ := p
    exact ⟨hd, pv, x', σ', rfl, hx, hh', hc', hp⟩
  | outgrown => exact p.elim
theorem enterE {f : FuncId} {fn : Func} {c : Code} {args : List AV} {pan : Value → List AObj → Prop} (nt : Nat) {fr : Fr} (hf : P.funcs[f]? = some fn) (hb : fn.body = some c) (hg : isGo P f = true) (hnt : Nat.beq fn.ntmps nt = true) (hn : Nat.ble args.length nt = true)
    (hfr : seqL (frameOf args 0) some = some fr) (h : AWk P nt c (panQ pan) fr σ) : RunsE P f args σ pan := by
  have e := Nat.eq_of_beq_eq_true hnt
  subst e
  rw [seqL_eq] at hfr
  injection hfr with hfr
  subst hfr
  exact runs_enterE hf hb hg hn h

/-- An operation that panics. -/
def PanOp (P : Program) (nt : Nat) (o : Oper) (fr : Fr) (σ : List AObj) (Q : Exit → Fr → List AObj → Prop) : Prop :=
  ∀ k x A w next, Sim k x nt fr σ A w → o.wp P A w next (Post k x nt Q)
theorem al_pan {i : Nat} {o : Oper} (ho : ops[i]? = some o) (hd : (dr && !dos.contains i) = false) (hg : guardA ops fr o = some true) (h : PanOp P nt o fr σ Q) : AL P nt ops dr dos ends (.one i l) Q fr σ := by
  refine ⟨fun k x A w s => ?_⟩
  unfold walkW stepW
  refine .inr ⟨hd, ?_⟩
  unfold wpOp
  simp only [ho, guardA_spec s hg, if_true]
  exact .inl (h k x A w _ s)
theorem do_callE {g : FuncId} {fs cs : List AV} {f : Operand} {args : Array Operand} {tys : Array TypeId} {pan : Value → List AObj → Prop} (ho : o.op = .call { callee := .value f, args := args, argTypes := tys })
    (hf : cloOf (aget fr f) = some (g, fs, cs)) (hr : RunsE P g (fs ++ args.toList.map (aget fr) ++ cs) σ pan) (hn : ∀ v σ', pan v σ' → Q (.panic (chainOf v)) [] σ') : PanOp P nt o fr σ Q := by
  intro k x A w next s
  obtain ⟨vs, h1, h2⟩ := call_run s hr.1 ho hf
  unfold Oper.wp
  rw [h1, Oper.upon_enter]
  refine Calls.mono (hr.2 k.B k.R x w vs h2 s.heap s.calm) fun e w' ⟨pv, x', σ', e1, e2, e3, e4, e5⟩ => ?_
  subst e1
  exact ⟨s.defers, x', σ', e2, e3, e4, hn pv σ' e5⟩
theorem s_callE {g : FuncId} {fs cs as : List AV} {d : Option Nat} {f : Operand} {args : Array Operand} {tys : Array TypeId} {pan : Value → List AObj → Prop} (hp : (dr && !dos.contains i) = false) (hg : guardB ops fr gd = some true) (hf : cloOf (aget fr f) = some (g, fs, cs)) (has : seqL (fs ++ args.toList.map (aget fr) ++ cs) some = some as) (hr : RunsE P g as σ pan) (h : ∀ v σ', pan v σ' → Q (.panic (chainOf v)) [] σ') : ALo P nt ops dr dos ends i ⟨d, .call { callee := .value f, args := args, argTypes := tys }, ty, pos, aft, gd⟩ l Q fr σ := by
  refine ⟨fun ho => al_pan ho hp (guardB_eq hg) ?_⟩
  simp only [seqL_eq, Option.some.injEq] at has
  subst has
  exact do_callE rfl hf hr h

/-- A function of numbers that does nothing but panic. -/
theorem RunsE.of_calls {f : FuncId} {args : List DV} {vals : List Value} {pan : Value → List AObj → Prop} {pv : Value} (hg : isGo P f = true) (ha : ∀ F us, LRep F args us → us = vals) (hc : ∀ w, Calls P f vals.toArray w fun e w' => e = .panicked (chainOf pv) ∧ w' = w) (hp : pan pv σ) : RunsE P f (args.map .d) σ pan :=
  ⟨hg, fun B R x w vs h1 h2 h3 => by
    rw [ha _ _ h1.toD]
    exact Calls.mono (hc w) fun e w' ⟨e1, e2⟩ => by subst e2; exact ⟨pv, x, σ, e1, .refl x, h2, h3, hp⟩⟩
end
end Go.Proofs.Ytciciaikajdenaa
