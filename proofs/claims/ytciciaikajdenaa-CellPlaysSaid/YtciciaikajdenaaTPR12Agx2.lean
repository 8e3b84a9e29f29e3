/- Ag: a slice against nil, structs against structs, cap, made slices, results in cells, a walk over a map. -/
import Derived.Laws.StructEq
import Derived.Laws.MakeOwn
import Derived.Maps.RangeRun
import Derived.Test.YtciciaikajdenaaTPR12Af
set_option linter.unusedSimpArgs false
set_option linter.unusedVariables false
namespace Go.Proofs.Ytciciaikajdenaa
open Go.RowKit

section
variable {P : Program} {T : Tab} {Z : TabZ} {nt : Nat} {Q : Exit → Fr → List AObj → Prop} {fr : Fr} {σ : List AObj} {ops : Array Oper} {dr : Bool} {dos ends : List Nat} {l : Trr} {o : Oper} {i d : Nat} {next : Fr → List AObj → Prop} {keep : Bool}
variable {ty : TypeId} {pos : String} {aft : Array Edge} {gd : Option (Nat × Bool)}

/-- Structs of plain cells. -/
theorem plain_rep {F : Frag} : ∀ {vs us : List Value}, LRep F (vs.map .v) us → us = vs
  | [], _, h => h
  | a :: vs, _, ⟨u, us', e, r, q⟩ => by rw [e, r.1, plain_rep q]

theorem rd_aggNe {t t' : Nat} {a b : Operand} {xs ys : List Value} {r : Bool} (ho : o.op = .binOp .neq t a b t') (hm : P.eqGuardType P.depth t = false) (ha : aget fr a = .d (.agg (xs.map .v))) (hb : aget fr b = .d (.agg (ys.map .v)))
    (he : ∀ w, (Op.equalIn 10000 t (.agg xs.toArray) (.agg ys.toArray)).run P w = .ok r w) : RdOp P o fr σ (.d (.v (.bool (!r)))) := by
  intro k x nt A w s
  have h1 := s.arg a
  have h2 := s.arg b
  rw [ha] at h1
  rw [hb] at h2
  obtain ⟨us, e1, q1, _⟩ := h1
  obtain ⟨vs, e2, q2, _⟩ := h2
  have := plain_rep q1
  have := plain_rep q2
  subst us vs
  refine ⟨.bool (!r), ⟨rfl, rfl⟩, fun w' _ => ?_⟩
  unfold execOp
  simp only [ho, e1, e2]
  simp [run_eqGuard_agg _ _ _ _ _ _ _ hm, run_neq_struct, he]

/-! Results, some of which stand in cells. -/
def resV (T : Tab) (fr : Fr) (σ : List AObj) : ResultVar → AV → Prop
  | .tmp t, v => fget fr t = v
  | .cell a t, v => ∃ sz bytes agg, find1 T.ty t = some (sz, bytes, agg) ∧ ((∃ loc off U cells, fget fr a = .ptr loc 0 off ∧ σ[loc]? = some (.row U cells) ∧ ldA agg sz (cells.drop off) = some v) ∨ ∃ cells d, fget fr a = .d (.fptr cells) ∧ ldD agg sz cells = some d ∧ v = .d d)
def resVL (T : Tab) (fr : Fr) (σ : List AObj) : List ResultVar → List AV → Prop
  | [], vs => vs = []
  | r :: rs, vs => ∃ v vs', vs = v :: vs' ∧ resV T fr σ r v ∧ resVL T fr σ rs vs'
def tupOf (l : List AV) : AV := match allD l with
  | some ds => .d (.tup ds)
  | none => .tup l
def resB (T : Tab) (fn : Func) (fr : Fr) (σ : List AObj) (v : AV) : Prop :=
  ∃ rs vs, fn.results.toList = rs ∧ resVL T fr σ rs vs ∧ (match rs with
    | [_] => ∃ x, vs = [x] ∧ v = x
    | [_, _] => v = tupOf vs
    | [_, _, _] => v = tupOf vs
    | _ => False)

theorem tupOf_rep {x : Ctx} {l : List AV} {us : List Value} (h : ALRep x l us) : ARep x (tupOf l) (.tuple us.toArray) := by
  unfold tupOf
  split
  · rename_i ds e
    rw [allD_map e] at h
    exact ⟨us, rfl, h.toD⟩
  · exact ⟨us, rfl, h⟩

def rvRun (A : Act) : ResultVar → Sem Value
  | .tmp t => pure (A.tmps.getD t undef)
  | .cell a t => do loadVar t (← asAddr (A.tmps.getD a undef))

theorem resV_run (hT : okTab P T = true) {k : K0} {x : Ctx} {A : Act} {w : World} (s : Sim k x nt fr σ A w) {r : ResultVar} {v : AV} (h : resV T fr σ r v) :
    ∃ u, (rvRun A r).run P w = .ok u w ∧ ARep x v u := by
  cases r with
  | tmp t =>
    have h : fget fr t = v := h
    exact ⟨_, by simp [rvRun], h ▸ s.tmps t⟩
  | cell a t =>
    obtain ⟨sz, bytes, agg, hty, h⟩ := h
    have key : RdOp P ⟨none, .load t (.tmp a), 0, "", #[], none⟩ fr σ v := by
      rcases h with ⟨loc, off, U, cells, h1, h2, h3⟩ | ⟨cells, d, h1, h2, rfl⟩
      · exact rd_load_p hT rfl hty h1 h2 h3
      · exact rd_load_f hT rfl hty h1 h2
    obtain ⟨u, hu, hr⟩ := key k x nt A w s
    refine ⟨u, ?_, hu⟩
    have hr := hr w (Sees.refl _ w)
    have hs : ∃ q, A.tmps.getD a undef = .pointer (some q) := by
      have h0 := s.tmps a
      rcases h with ⟨loc, off, U, cells, h1, h2, h3⟩ | ⟨cells, d, h1, h2, rfl⟩
      · rw [h1] at h0
        obtain ⟨_, _, q, e, _⟩ := h0
        exact ⟨q, e⟩
      · rw [h1] at h0
        obtain ⟨b, off, e, _⟩ := h0
        exact ⟨_, e⟩
    obtain ⟨q, hq⟩ := hs
    have he : A.eval (.tmp a) = .pointer (some q) := hq
    unfold execOp at hr
    simp only [he] at hr
    have : (loadVar t q).run P w = .ok u w := by
      simp only [Instr.loadAt, Instr.sureAddr, Sem.run_bind, Sem.run_pure, Result.andThen_ok] at hr
      cases hc : (loadVar t q).run P w with
      | ok v w1 =>
        rw [hc] at hr
        simp [Result.andThen] at hr
        rw [hr.1, hr.2]
      | halt y w1 =>
        rw [hc] at hr
        simp [Result.andThen] at hr
    simp [rvRun, hq, asAddr, this]

theorem resB_spec (hT : okTab P T = true) {fn : Func} {k : K0} {x : Ctx} {A : Act} {w : World} (s : Sim k x nt fr σ A w) {v : AV} (h : resB T fn fr σ v) : ∃ u, (results fn A.tmps).run P w = .ok u w ∧ ARep x v u := by
  obtain ⟨rs, vs, hrs, h1, h2⟩ := h
  have hres : results fn A.tmps = (do
      let vs ← fn.results.mapM (rvRun A)
      pure (if h : vs.size = 1 then vs[0] else .tuple vs)) := rfl
  have hl : fn.results = rs.toArray := by rw [← hrs]
  rw [hres, hl]
  match rs, h2 with
  | [r], ⟨y, e, e0⟩ =>
    subst e0
    obtain ⟨v1, vs', e1, q1, q2⟩ := h1
    have q2 : vs' = [] := q2
    subst q2 e
    injection e1 with e1
    subst e1
    obtain ⟨u1, r1, p1⟩ := resV_run hT s q1
    exact ⟨u1, by simp [r1], p1⟩
  | [r, r'], e =>
    have e : v = tupOf vs := e
    obtain ⟨v1, vs', e1, q1, v2, vs'', e2, q2, q3⟩ := h1
    have q3 : vs'' = [] := q3
    subst q3 e2 e1 e
    obtain ⟨u1, r1, p1⟩ := resV_run hT s q1
    obtain ⟨u2, r2, p2⟩ := resV_run hT s q2
    exact ⟨.tuple #[u1, u2], by simp [r1, r2], tupOf_rep ⟨_, _, rfl, p1, _, _, rfl, p2, rfl⟩⟩
  | [r, r', r''], e =>
    have e : v = tupOf vs := e
    obtain ⟨v1, vs', e1, q1, v2, vs'', e2, q2, v3, vs3, e3, q3, q4⟩ := h1
    have q4 : vs3 = [] := q4
    subst q4 e3 e2 e1 e
    obtain ⟨u1, r1, p1⟩ := resV_run hT s q1
    obtain ⟨u2, r2, p2⟩ := resV_run hT s q2
    obtain ⟨u3, r3, p3⟩ := resV_run hT s q3
    exact ⟨.tuple #[u1, u2, u3], by simp [r1, r2, r3], tupOf_rep ⟨_, _, rfl, p1, _, _, rfl, p2, _, _, rfl, p3, rfl⟩⟩
  | [], e => exact e.elim
  | _ :: _ :: _ :: _ :: _, e => exact e.elim

def retQB (T : Tab) (fn : Func) (post : AV → List AObj → Prop) : Exit → Fr → List AObj → Prop
  | .normal, fr, σ => ∃ v, resB T fn fr σ v ∧ post v σ
  | .ret, fr, σ => ∃ v, resB T fn fr σ v ∧ post v σ
  | _, _, _ => False

theorem runs_enterB {f : FuncId} {fn : Func} {c : Code} {args : List AV} {post : AV → List AObj → Prop} (hT : okTab P T = true) (hf : P.funcs[f]? = some fn) (hb : fn.body = some c) (hg : isGo P f = true) (hn : Nat.ble args.length fn.ntmps = true)
    (h : AWk P fn.ntmps c (retQB T fn post) (frameOf args 0) σ) : Runs P f args σ post := by
  refine ⟨hg, fun B R x w vs ha hh hc => ?_⟩
  refine calls_of_wp hf hb ?_
  have hl := ha.len
  have hn := Nat.le_of_ble_eq_true hn
  have s : Sim ⟨B, R, []⟩ x fn.ntmps (frameOf args 0) σ { tmps := vs.toArray ++ Array.replicate (fn.ntmps - vs.toArray.size) undef, defers := [] } w := by
    refine ⟨by simp; omega, rfl, fun i => ?_, hh, hc⟩
    have := frame_rep (Array.replicate (fn.ntmps - vs.toArray.size) undef) #[] ha i
    simpa using this
  refine wp_mono (h.out _ x _ w s) fun e A w' p => ?_
  cases e with
  | normal =>
    obtain ⟨x', fr, σ', hx, hs, v, hr, hp⟩ := p
    obtain ⟨u, h1, h2⟩ := resB_spec hT hs hr
    exact ⟨hs.defers, u, h1, u, v, x', σ', rfl, hx, h2, hs.heap, hs.calm, hp⟩
  | ret =>
    obtain ⟨x', fr, σ', hx, hs, v, hr, hp⟩ := p
    obtain ⟨u, h1, h2⟩ := resB_spec hT hs hr
    exact ⟨hs.defers, u, h1, u, v, x', σ', rfl, hx, h2, hs.heap, hs.calm, hp⟩
  | exit i => obtain ⟨x', fr, σ', hx, hs, hp⟩ := p; exact hp
  | goto i => obtain ⟨x', fr, σ', hx, hs, hp⟩ := p; exact hp
  | panic _ => obtain ⟨_, _, _, _, _, _, hq⟩ := p; exact hq.elim
  | outgrown => exact p.elim

/-- A function's body. -/
theorem enterB {f : FuncId} {fn : Func} {c : Code} {args : List AV} {post : AV → List AObj → Prop} (nt : Nat) {fr : Fr} (hT : okTab P T = true) (hf : P.funcs[f]? = some fn) (hb : fn.body = some c) (hg : isGo P f = true) (hnt : Nat.beq fn.ntmps nt = true) (hn : Nat.ble args.length nt = true)
    (hfr : seqL (frameOf args 0) some = some fr) (h : AWk P nt c (retQB T fn post) fr σ) : Runs P f args σ post := by
  have e := Nat.eq_of_beq_eq_true hnt
  subst e
  rw [seqL_eq] at hfr
  injection hfr with hfr
  subst hfr
  exact runs_enterB hT hf hb hg hn h
theorem enterPB {f : FuncId} {fn : Func} {c : Code} {args : List DV} {post : DV → Prop} (nt : Nat) {fr : Fr} (hT : okTab P T = true) (hf : P.funcs[f]? = some fn) (hb : fn.body = some c) (hg : isGo P f = true) (hnt : Nat.beq fn.ntmps nt = true) (hn : Nat.ble (args.map AV.d).length nt = true)
    (hfr : seqL (frameOf (args.map AV.d) 0) some = some fr) (h : AWk P nt c (retQB T fn fun v _ => ∃ d, v = .d d ∧ post d) fr []) : RunsP P f args post := Runs.pure (enterB nt hT hf hb hg hnt hn hfr h)

/-- Back from a function: one result, two, three. -/
theorem q_retB {fn : Func} {post : AV → List AObj → Prop} {v : AV} (e : resB T fn fr σ v) (h : post v σ) : retQB T fn post .ret fr σ := ⟨v, e, h⟩
theorem resV_t {t : Nat} {v : AV} (h : fget fr t = v) : resV T fr σ (.tmp t) v := h
theorem resV_c {a t sz bytes loc off U : Nat} {agg : Bool} {cells : List AV} {v : AV} (hy : find1 T.ty t = some (sz, bytes, agg)) (hp : fget fr a = .ptr loc 0 off) (hs : σ[loc]? = some (.row U cells)) (hv : ldAO agg sz off cells = some v) : resV T fr σ (.cell a t) v :=
  ⟨sz, bytes, agg, hy, .inl ⟨loc, off, U, cells, hp, hs, ldAO_eq hv⟩⟩
theorem resB_1 {fn : Func} {r : ResultVar} {v : AV} (e : fn.results.toList = [r]) (h : resV T fr σ r v) : resB T fn fr σ v := ⟨_, _, e, ⟨v, [], rfl, h, rfl⟩, v, rfl, rfl⟩
theorem resB_2 {fn : Func} {r r' : ResultVar} {v v' q : AV} (e : fn.results.toList = [r, r']) (h : resV T fr σ r v) (h' : resV T fr σ r' v') (hq : tupOf [v, v'] = q) : resB T fn fr σ q :=
  ⟨_, _, e, ⟨_, _, rfl, h, _, _, rfl, h', rfl⟩, hq.symm⟩
theorem resB_3 {fn : Func} {r r' r'' : ResultVar} {v v' v'' q : AV} (e : fn.results.toList = [r, r', r'']) (h : resV T fr σ r v) (h' : resV T fr σ r' v') (h'' : resV T fr σ r'' v'') (hq : tupOf [v, v', v''] = q) : resB T fn fr σ q :=
  ⟨_, _, e, ⟨_, _, rfl, h, _, _, rfl, h', _, _, rfl, h'', rfl⟩, hq.symm⟩

/-! A walk over a map. -/

theorem MRep.get {x : Ctx} : ∀ {ps : List (Value × AV)} {es : List MapEntry} {i : Nat} {e : MapEntry}, MRep x ps es → es[i]? = some e → ∃ p, ps[i]? = some p ∧ e.key = p.1 ∧ ARep x p.2 e.val
  | [], _, _, _, h, he => by rw [show _ = _ from h] at he; simp at he
  | p :: ps, _, 0, e, ⟨e1, es', h1, h2, h3, h4⟩, he => by subst h1; simp at he; subst he; exact ⟨p, rfl, h2, h3⟩
  | p :: ps, _, i + 1, e, ⟨e1, es', h1, h2, h3, h4⟩, he => by subst h1; simpa using MRep.get (i := i) h4 (by simpa using he)
theorem MRep.len {x : Ctx} : ∀ {ps : List (Value × AV)} {es : List MapEntry}, MRep x ps es → es.length = ps.length
  | [], _, h => by rw [show _ = _ from h]; rfl
  | _ :: _, _, ⟨_, _, h1, _, _, h4⟩ => by rw [h1]; simp [MRep.len h4]

end
end Go.Proofs.Ytciciaikajdenaa
/- Ah, Ai, Aj: in one. -/
set_option linter.unusedSimpArgs false
set_option linter.unusedVariables false
/- Ah: contracts made weaker, arguments that say more, owned results frozen. -/
namespace Go.Proofs.Ytciciaikajdenaa
open Go.RowKit

section
variable {P : Program} {nt : Nat} {Q : Exit → Fr → List AObj → Prop} {fr : Fr} {σ : List AObj}
end

section
variable {P : Program} {f : FuncId} {args args' : List DV}

theorem RunsP.wkA {post : DV → Prop} (h : RunsP P f args post) (hw : WkL args' args) : RunsP P f args' post :=
  ⟨h.1, fun B F w vs a b c => h.2 B F w vs (hw.rep a) b c⟩

end
/-! A skipped operation leaves 'undef': the empty tuple. -/
section
variable {P : Program} {nt : Nat} {Q : Exit → Fr → List AObj → Prop} {fr : Fr} {σ : List AObj} {ops : Array Oper} {dr : Bool} {dos ends : List Nat} {l : Trr} {i d : Nat} {o : Oper}
variable {dst : Option Tmp} {op : Op} {ty : TypeId} {pos : String} {aft : Array Edge} {gd : Option (Nat × Bool)}
theorem al_skipU (ho : ops[i]? = some o) (ht : dstOk o.dst nt = true) (hw : ∀ k x A w, Sim k x nt fr σ A w → Region.wanted o (yielded ops A.tmps) = false)
    (h : AL P nt ops dr dos ends l Q (fput o.dst (.tup []) fr) σ) : AL P nt ops dr dos ends (.one i l) Q fr σ := by
  refine ⟨fun k x A w s => ?_⟩
  have hu : ARep x (.tup []) undef := ⟨[], rfl, rfl⟩
  unfold walkW stepW
  cases hd : (dr && dos.contains i) with
  | false => exact .inl ⟨rfl, o, undef, ho, .inr ⟨hw k x A w s, rfl⟩, h.out k x _ w (s.put ht hu)⟩
  | true =>
    refine .inr ⟨by rw [Bool.and_eq_true] at hd; rw [hd.1, hd.2]; rfl, ?_⟩
    unfold wpOp
    simp only [ho, hw k x A w s]
    exact ⟨fun _ => Agree.refl w, h.out k x _ w (s.put ht hu)⟩
theorem s_skipV {j : Nat} {w : Bool} (hg : guardB ops fr (some (j, w)) = some false) (ht : Nat.blt d nt = true) (h : AL P nt ops dr dos ends l Q ((d, .tup []) :: fr) σ) : ALo P nt ops dr dos ends i ⟨some d, op, ty, pos, aft, some (j, w)⟩ l Q fr σ :=
  ⟨fun ho => al_skipU ho ht (fun k x A w s => guardA_spec s (guardB_eq hg)) h⟩
theorem s_skipU {j t : Nat} {w : Bool} (hj : guardT ops (some (j, w)) = some t) (hu : fget fr t = .tup []) (ht : Nat.blt d nt = true) (h : AL P nt ops dr dos ends l Q ((d, .tup []) :: fr) σ) : ALo P nt ops dr dos ends i ⟨some d, op, ty, pos, aft, some (j, w)⟩ l Q fr σ :=
  ⟨fun ho => al_skipU ho ht (fun k x A w2 s => by
    have h1 := s.tmps t
    rw [hu] at h1
    obtain ⟨us, e, e2⟩ := h1
    have e2 : us = [] := e2
    subst e2
    unfold Region.wanted yielded
    have hj : (ops[j]?).bind (·.dst) = some t := hj
    simp only [hj, Option.bind_some]
    rw [Array.getD_eq_getD_getElem?] at e
    cases hq : A.tmps[t]? with
    | none => rfl
    | some q => rw [hq] at e; simp only [Option.getD_some] at e; subst e; rfl) h⟩
end

section
variable {P : Program} {nt : Nat} {Q : Exit → Fr → List AObj → Prop} {fr : Fr} {σ : List AObj} {ops : Array Oper} {dr : Bool} {dos ends : List Nat} {l : Trr} {i d : Nat} {o : Oper}
variable {dst : Option Tmp} {op : Op} {ty : TypeId} {pos : String} {aft : Array Edge} {gd : Option (Nat × Bool)}
theorem rd_min {t t2 : TypeId} {a b : Operand} {k k' : IntKind} {m n : Int} (ho : o.op = .call { callee := .builtin .min, args := #[a, b], argTypes := #[t, t2] }) (ha : aget fr a = .d (.v (.int k m))) (hb : aget fr b = .d (.v (.int k' n))) : RdOp P o fr σ (.d (.v (.int k (if n < m then n else m)))) := by
  intro x c nt A w s
  have k1 := s.arg a
  have k2 := s.arg b
  rw [ha] at k1
  rw [hb] at k2
  obtain ⟨e1, _⟩ := k1
  obtain ⟨e2, _⟩ := k2
  refine ⟨.int k (if n < m then n else m), ⟨rfl, rfl⟩, fun w' _ => ?_⟩
  unfold execOp
  simp [ho, resolve, invoke, builtin, e1, e2, run_min_int2]
theorem rd_max {t t2 : TypeId} {a b : Operand} {k k' : IntKind} {m n : Int} (ho : o.op = .call { callee := .builtin .max, args := #[a, b], argTypes := #[t, t2] }) (ha : aget fr a = .d (.v (.int k m))) (hb : aget fr b = .d (.v (.int k' n))) : RdOp P o fr σ (.d (.v (.int k (if n > m then n else m)))) := by
  intro x c nt A w s
  have k1 := s.arg a
  have k2 := s.arg b
  rw [ha] at k1
  rw [hb] at k2
  obtain ⟨e1, _⟩ := k1
  obtain ⟨e2, _⟩ := k2
  refine ⟨.int k (if n > m then n else m), ⟨rfl, rfl⟩, fun w' _ => ?_⟩
  unfold execOp
  simp [ho, resolve, invoke, builtin, e1, e2, run_max_int2]
theorem s_min {t t2 : TypeId} {a b : Operand} {k k' : IntKind} {m n : Int} (hp : dr = dr) (hg : guardB ops fr gd = some true) (ht : Nat.blt d nt = true) (ha : aget fr a = .d (.v (.int k m))) (hb : aget fr b = .d (.v (.int k' n))) (h : AL P nt ops dr dos ends l Q ((d, .d (.v (.int k (if n < m then n else m)))) :: fr) σ) : ALo P nt ops dr dos ends i ⟨some d, .call { callee := .builtin .min, args := #[a, b], argTypes := #[t, t2] }, ty, pos, aft, gd⟩ l Q fr σ :=
  ⟨fun ho => s_read ho hp hg ht (rd_min rfl ha hb) h⟩
theorem s_max {t t2 : TypeId} {a b : Operand} {k k' : IntKind} {m n : Int} (hp : dr = dr) (hg : guardB ops fr gd = some true) (ht : Nat.blt d nt = true) (ha : aget fr a = .d (.v (.int k m))) (hb : aget fr b = .d (.v (.int k' n))) (h : AL P nt ops dr dos ends l Q ((d, .d (.v (.int k (if n > m then n else m)))) :: fr) σ) : ALo P nt ops dr dos ends i ⟨some d, .call { callee := .builtin .max, args := #[a, b], argTypes := #[t, t2] }, ty, pos, aft, gd⟩ l Q fr σ :=
  ⟨fun ho => s_read ho hp hg ht (rd_max rfl ha hb) h⟩
end

section
variable {P : Program} {nt : Nat} {Q : Exit → Fr → List AObj → Prop} {fr : Fr} {σ σ' : List AObj} {ops : Array Oper} {dr : Bool} {dos ends : List Nat} {l : Trr} {i d : Nat} {o : Oper} {next : Fr → List AObj → Prop} {keep : Bool}
variable {dst : Option Tmp} {op : Op} {ty : TypeId} {pos : String} {aft : Array Edge} {gd : Option (Nat × Bool)}
theorem allD_mapd : ∀ l : List DV, allD (l.map AV.d) = some l
  | [] => rfl
  | a :: l => by simp [allD, allD_mapd l]

/-- A box that no one writes: frozen from the start. -/
theorem do_boxZ {t : TypeId} {a : Operand} {cs : List DV} (ho : o.op = .box t a) (ht : dstOk o.dst nt = true) (h1 : oneA (aget fr a) = true) (hc : allD (cellsA (aget fr a)) = some cs) (hn : next (fput o.dst (.d (.fptr cs)) fr) σ) : DoOp P nt o fr σ keep next := by
  refine do_value ht (fun v σ' => v = .d (.fptr cs) ∧ σ' = σ) (fun v σ' ⟨a, b⟩ => a ▸ b ▸ hn) fun k x A w s => ?_
  obtain ⟨r1, r2⟩ := cellsA_rep (s.arg a) h1
  rw [allD_map hc] at r1
  have r1 := r1.toD
  refine ⟨.pointer (some ⟨w.heap.size, 0, none⟩), w.alloc (.cells (A.eval a).cells.toList.toArray t), x.frz (Un x.F (oneFrag w.heap.size (.cells (A.eval a).cells.toList.toArray t))), _, _, ?_, Ctx.frz_ext (Le.un_left _ _), ?_, frz_new s.heap _, s.calm.alloc _, fun _ => agree_alloc _ _, rfl, rfl⟩
  · unfold execOp
    simp [ho, Instr.box, newVar, newRow]
  · refine ⟨_, _, rfl, CRep.of_list (r1.mono (Le.un_left _ _)) r2 fun j u hj => ?_⟩
    have hn : x.F w.heap.size = none := by
      cases hb : x.F w.heap.size with
      | none => rfl
      | some ob => have := heap_lt s.heap.hF hb; omega
    simp only [Ctx.frz, fcell, Un, hn, oneFrag, if_true]
    simpa using hj
theorem s_boxZ {t : TypeId} {a : Operand} {cs : List DV} (hp : (dr && !dos.contains i) = false) (hg : guardB ops fr gd = some true) (hk : (dr && !ends.contains i && !true) = false) (ht : Nat.blt d nt = true) (h1 : oneA (aget fr a) = true) (hc : allD (cellsA (aget fr a)) = some cs) (h : AL P nt ops dr dos ends l Q ((d, .d (.fptr cs)) :: fr) σ) : ALo P nt ops dr dos ends i ⟨some d, .box t a, ty, pos, aft, gd⟩ l Q fr σ := by
  refine ⟨fun ho => s_do (keep := true) ho hp hg hk ?_⟩
  exact do_boxZ (o := ⟨some d, .box t a, ty, pos, aft, gd⟩) rfl ht h1 hc h
end
/-! What comes behind a region, as a letter: a step costs what its postcondition weighs. -/
section
variable {P : Program} {nt : Nat} {Q : Exit → Fr → List AObj → Prop} {fr : Fr} {σ : List AObj} {ops : Array Oper}
end
end Go.Proofs.Ytciciaikajdenaa

/- Ai: comparisons that part the way in two. -/
namespace Go.Proofs.Ytciciaikajdenaa
open Go.RowKit

section
variable {P : Program} {T : Tab} {Z : TabZ} {nt : Nat} {Q : Exit → Fr → List AObj → Prop} {fr : Fr} {σ : List AObj} {ops : Array Oper} {dr : Bool} {dos ends : List Nat} {l : Trr} {i d : Nat}
variable {ty : TypeId} {pos : String} {aft : Array Edge} {gd : Option (Nat × Bool)}
end
end Go.Proofs.Ytciciaikajdenaa

/- Aj: rows that become frozen pointers; what a run keeps of the objects that were there. -/
namespace Go.Proofs.Ytciciaikajdenaa
open Go.RowKit

section
variable {P : Program} {T : Tab} {Z : TabZ} {nt : Nat} {Q : Exit → Fr → List AObj → Prop} {next : Fr → List AObj → Prop} {fr : Fr} {σ σ' : List AObj} {ops : Array Oper} {dr : Bool} {dos ends : List Nat} {l : Trr} {i d : Nat} {o : Oper} {v : AV}
theorem freezeP (t : Nat) {loc U : Nat} {cells : List AV} {ds : List DV} (ht : fget fr t = .ptr loc 0 0) (hl : σ[loc]? = some (.row U cells)) (hd : allD cells = some ds) : Ghost fr σ ((t, .d (.fptr ds)) :: fr) (σ.set loc .dead) :=
  ghost_freeze (ts := [(t, .fptr ds)]) hl fun p hp => by
    simp at hp
    subst hp
    rw [ht]
    exact ⟨rfl, rfl, U, cells, ds, hl, hd, by simp⟩
theorem s_freezeP (t : Nat) {loc U : Nat} {cells : List AV} {ds : List DV} (ht : fget fr t = .ptr loc 0 0) (hl : σ[loc]? = some (.row U cells)) (hd : allD cells = some ds) (h : ∀ σ', Chg σ loc .dead σ' → AL P nt ops dr dos ends l Q ((t, .d (.fptr ds)) :: fr) σ') : AL P nt ops dr dos ends l Q fr σ :=
  al_ghost (freezeP t ht hl hd) (h _ (chg_set hl))
end

section
variable {P : Program} {nt : Nat} {Q : Exit → Fr → List AObj → Prop} {fr : Fr} {σ : List AObj} {ops : Array Oper} {dr : Bool} {dos ends : List Nat} {l : Trr} {i : Nat} {o : Oper}
end

/-- A result of which less is said. -/
theorem Runs.weakR {P : Program} {f : FuncId} {args : List AV} {σ : List AObj} {y : DV} {post : List AObj → Prop} (h : Runs P f args σ (fun v σ' => ∃ x, v = .d x ∧ Wk x y ∧ post σ')) : Runs P f args σ (fun v σ' => v = .d y ∧ post σ') :=
  ⟨h.1, fun B R x w vs a b c => Calls.mono (h.2 B R x w vs a b c) fun e w' ⟨u, v, x', σ', h1, h2, h3, h4, h5, z, h6, h7, h8⟩ => ⟨u, .d y, x', σ', h1, h2, by subst h6; exact h7 x'.F u h3, h4, h5, rfl, h8⟩⟩

/-- The objects of p that were there are there, as they were. -/
def KeptP (p : Nat → Prop) (σ σ' : List AObj) : Prop := ∀ k o, p k → σ[k]? = some o → σ'[k]? = some o
/-- What is at loc was not there; or is none of p. -/
def OutP (p : Nat → Prop) (σ : List AObj) (loc : Nat) : Prop := ∀ o, p loc → σ[loc]? ≠ some o
section
variable {p : Nat → Prop} {σ0 σ σ' σ2 : List AObj} {loc : Nat} {o : AObj}
theorem KeptP.refl (p : Nat → Prop) (σ : List AObj) : KeptP p σ σ := fun _ _ _ h => h
theorem KeptP.trans (h : KeptP p σ σ') (k : KeptP p σ' σ2) : KeptP p σ σ2 := fun n o hp e => k n o hp (h n o hp e)
theorem KeptP.fresh (h : KeptP p σ0 σ) (hc : Fresh σ loc o σ') : KeptP p σ0 σ' := fun n o' hp e => hc.keep (h n o' hp e)
theorem KeptP.out (h : KeptP p σ0 σ) (hc : Fresh σ loc o σ') : OutP p σ0 loc := fun o' hp e => hc.ne (h loc o' hp e) rfl
theorem KeptP.chg (h : KeptP p σ0 σ) (n : OutP p σ0 loc) (hc : Chg σ loc o σ') : KeptP p σ0 σ' := fun k o' hp e => by
  refine hc.keep ?_ (h k o' hp e)
  intro hk
  subst hk
  exact n o' hp e
theorem KeptP.of {q : Nat → Prop} (h : KeptP p σ0 σ) (hq : ∀ k, q k → p k) : KeptP q σ0 σ := fun k o hk e => h k o (hq k hk) e
theorem KeptP.all (h : KeptP (fun _ => True) σ0 σ) {k : Nat} {o : AObj} (e : σ0[k]? = some o) : σ[k]? = some o := h k o trivial e
theorem KeptP.adopt {t L U sz : Nat} {c : List AV} (h : KeptP p σ0 σ) (n : OutP p σ0 loc) (hc : AdoptC σ loc t c L U sz σ') : KeptP p σ0 σ' ∧ OutP p σ0 L :=
  ⟨fun k o' hp e => hc.keep (fun hk => by subst hk; exact n o' hp e) (h k o' hp e), fun o' hp e => hc.fresh L o' (h L o' hp e) rfl⟩
end
section
variable {P : Program} {nt : Nat} {Q : Exit → Fr → List AObj → Prop} {fr : Fr} {σ : List AObj}
theorem w_adoptC {c : Code} (loc j U sz : Nat) {t : TypeId} {cells : List AV} (hl : σ[loc]? = some (.row t cells)) (hj : cells[j]? = some (.d .nil))
    (h : ∀ L σ', AdoptC σ loc t (cells.set j (.own L 0 sz 0 0)) L U sz σ' → AWk P nt c Q fr σ') : AWk P nt c Q fr σ := by
  refine aw_ghost (ghost_adopt_cell (U := U) (sz := sz) hl hj) (h σ.length _ ?_)
  have hlt := (List.getElem?_eq_some_iff.1 hl).1
  refine ⟨?_, ?_, by omega, fun k o e hk => ?_, fun k o e => ?_⟩
  · rw [List.getElem?_set_self (by simp; omega)]
  · rw [List.getElem?_set_ne (by omega)]; simp
  · rw [List.getElem?_set_ne (Ne.symm hk), List.getElem?_append_left (List.getElem?_eq_some_iff.1 e).1]; exact e
  · have := (List.getElem?_eq_some_iff.1 e).1; omega
end
theorem wrap64 {z : Int} (h1 : -9223372036854775808 ≤ z) (h2 : z ≤ 9223372036854775807) : IntKind.wrap .i64 z = z := by
  rw [IntKind.wrap_i64]; omega
end Go.Proofs.Ytciciaikajdenaa
