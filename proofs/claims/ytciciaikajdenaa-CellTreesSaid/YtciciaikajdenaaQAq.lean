/- Aq: functions that come back or panic; numbers of any kind. -/
import Derived.WideLaws
import Derived.Test.YtciciaikajdenaaQXAhAiAj
import Derived.Test.YtciciaikajdenaaQAf
set_option linter.unusedSimpArgs false
set_option linter.unusedVariables false
namespace Go.Proofs.Ytciciaikajdenaa
open Go.RowKit

/-- A function that comes back, or panics. -/
def RunsX (P : Program) (f : FuncId) (args : List AV) (σ : List AObj) (post : AV → List AObj → Prop) (pan : Value → List AObj → Prop) : Prop :=
  isGo P f = true ∧ ∀ (B : Base) (R : Frag) (x : Ctx) (w : World) (vs : List Value), ALRep x args vs → Heap x σ R w → Calm B w →
    Calls P f vs.toArray w fun e w' => (∃ u v x' σ', e = .returned u ∧ CtxExt x x' ∧ ARep x' v u ∧ Heap x' σ' R w' ∧ Calm B w' ∧ post v σ') ∨
      ∃ pv x' σ', e = .panicked (chainOf pv) ∧ CtxExt x x' ∧ Heap x' σ' R w' ∧ Calm B w' ∧ pan pv σ'

section
variable {P : Program} {f : FuncId} {args : List AV} {σ : List AObj} {post post' : AV → List AObj → Prop} {pan pan' : Value → List AObj → Prop}
theorem RunsX.mono (h : RunsX P f args σ post pan) (q : ∀ v σ', post v σ' → post' v σ') (q2 : ∀ v σ', pan v σ' → pan' v σ') : RunsX P f args σ post' pan' :=
  ⟨h.1, fun B R x w vs a b c => Calls.mono (h.2 B R x w vs a b c) fun e w' h => h.imp (fun ⟨u, v, x', σ', h1, h2, h3, h4, h5, h6⟩ => ⟨u, v, x', σ', h1, h2, h3, h4, h5, q _ _ h6⟩) fun ⟨pv, x', σ', h1, h2, h3, h4, h5⟩ => ⟨pv, x', σ', h1, h2, h3, h4, q2 _ _ h5⟩⟩
theorem RunsX.runs (h : RunsX P f args σ post pan) (q : ∀ v σ', ¬ pan v σ') : Runs P f args σ post :=
  ⟨h.1, fun B R x w vs a b c => Calls.mono (h.2 B R x w vs a b c) fun e w' h => h.elim id fun ⟨pv, x', σ', _, _, _, _, h5⟩ => absurd h5 (q _ _)⟩
theorem RunsX.bad (h : RunsX P f args σ post pan) (q : ∀ v σ', ¬ post v σ') : RunsE P f args σ pan :=
  ⟨h.1, fun B R x w vs a b c => Calls.mono (h.2 B R x w vs a b c) fun e w' h => h.elim (fun ⟨u, v, x', σ', _, _, _, _, _, h6⟩ => absurd h6 (q _ _)) id⟩
theorem Runs.x (h : Runs P f args σ post) : RunsX P f args σ post pan :=
  ⟨h.1, fun B R x w vs a b c => Calls.mono (h.2 B R x w vs a b c) fun e w' h => .inl h⟩
theorem RunsE.x (h : RunsE P f args σ pan) : RunsX P f args σ post pan :=
  ⟨h.1, fun B R x w vs a b c => Calls.mono (h.2 B R x w vs a b c) fun e w' h => .inr h⟩
end

/-- How code ends that comes back or panics. -/
def retX (T : Tab) (fn : Func) (post : AV → List AObj → Prop) (pan : Value → List AObj → Prop) : Exit → Fr → List AObj → Prop
  | .normal, fr, σ => ∃ v, resB T fn fr σ v ∧ post v σ
  | .ret, fr, σ => ∃ v, resB T fn fr σ v ∧ post v σ
  | .panic ch, _, σ => ∃ pv, ch = chainOf pv ∧ pan pv σ
  | _, _, _ => False

section
variable {P : Program} {T : Tab} {nt : Nat} {Q : Exit → Fr → List AObj → Prop} {fr : Fr} {σ : List AObj} {ops : Array Oper} {dr : Bool} {dos ends : List Nat} {l : Trr} {o : Oper} {i d : Nat}
variable {ty : TypeId} {pos : String} {aft : Array Edge} {gd : Option (Nat × Bool)}
theorem q_then_p {n : Fr → List AObj → Prop} {ch : List PanicEntry} (h : Q (.panic ch) fr σ) : thenQ n Q (.panic ch) fr σ := h
theorem q_blk_p {j : Nat} {ch : List PanicEntry} (h : Q (.panic ch) fr σ) : blockQ j Q (.panic ch) fr σ := h
theorem q_retX {fn : Func} {post : AV → List AObj → Prop} {pan : Value → List AObj → Prop} {v : AV} (e : resB T fn fr σ v) (h : post v σ) : retX T fn post pan .ret fr σ := ⟨v, e, h⟩
theorem q_endX {fn : Func} {post : AV → List AObj → Prop} {pan : Value → List AObj → Prop} {v : AV} (e : resB T fn fr σ v) (h : post v σ) : retX T fn post pan .normal fr σ := ⟨v, e, h⟩
theorem q_panX {fn : Func} {post : AV → List AObj → Prop} {pan : Value → List AObj → Prop} {pv : Value} (h : pan pv σ) : retX T fn post pan (.panic (chainOf pv)) fr σ := ⟨pv, rfl, h⟩
theorem pan_q {pan : Value → List AObj → Prop} {pv : Value} (h : pan pv σ) : panQ pan (.panic (chainOf pv)) fr σ := ⟨pv, rfl, h⟩

theorem runs_enterX {f : FuncId} {fn : Func} {c : Code} {args : List AV} {post : AV → List AObj → Prop} {pan : Value → List AObj → Prop} (hT : okTab P T = true) (hf : P.funcs[f]? = some fn) (hb : fn.body = some c) (hg : isGo P f = true) (hn : Nat.ble args.length fn.ntmps = true)
    (h : AWk P fn.ntmps c (retX T fn post pan) (frameOf args 0) σ) : RunsX P f args σ post pan := by
  refine ⟨hg, fun B R x w vs ha hh hc => ?_⟩
  refine calls_of_wp hf hb ?_
  have hl := ha.len
  have hn := Nat.le_of_ble_eq_true hn
  have s : Sim ⟨B, R, []⟩ x fn.ntmps (frameOf args 0) σ { tmps := vs.toArray ++ Array.replicate (fn.ntmps - vs.toArray.size) undef, defers := [] } w := by
    refine ⟨by simp; omega, rfl, fun i => ?_, hh, hc⟩
    have := frame_rep (Array.replicate (fn.ntmps - vs.toArray.size) undef) #[] ha i
    simpa using this
  refine wp_mono (h.out _ x _ w s) fun e A w' p => ?_
  cases e with
  | normal =>
    obtain ⟨x', fr, σ', hx, hs, v, hr, hp⟩ := p
    obtain ⟨u, h1, h2⟩ := resB_spec hT hs hr
    exact ⟨hs.defers, u, h1, .inl ⟨u, v, x', σ', rfl, hx, h2, hs.heap, hs.calm, hp⟩⟩
  | ret =>
    obtain ⟨x', fr, σ', hx, hs, v, hr, hp⟩ := p
    obtain ⟨u, h1, h2⟩ := resB_spec hT hs hr
    exact ⟨hs.defers, u, h1, .inl ⟨u, v, x', σ', rfl, hx, h2, hs.heap, hs.calm, hp⟩⟩
  | exit i => obtain ⟨x', fr, σ', hx, hs, hp⟩ := p; exact hp.elim
  | goto i => obtain ⟨x', fr, σ', hx, hs, hp⟩ := p; exact hp.elim
  | panic ch =>
    obtain ⟨hd, x', σ', hx, hh', hc', pv, rfl, hp⟩ := p
    exact ⟨hd, .inr ⟨pv, x', σ', rfl, hx, hh', hc', hp⟩⟩
  | outgrown => exact p.elim
theorem enterX {f : FuncId} {fn : Func} {c : Code} {args : List AV} {post : AV → List AObj → Prop} {pan : Value → List AObj → Prop} (nt : Nat) {fr : Fr} (hT : okTab P T = true) (hf : P.funcs[f]? = some fn) (hb : fn.body = some c) (hg : isGo P f = true) (hnt : Nat.beq fn.ntmps nt = true) (hn : Nat.ble args.length nt = true)
    (hfr : seqL (frameOf args 0) some = some fr) (h : AWk P nt c (retX T fn post pan) fr σ) : RunsX P f args σ post pan := by
  have e := Nat.eq_of_beq_eq_true hnt
  subst e
  rw [seqL_eq] at hfr
  injection hfr with hfr
  subst hfr
  exact runs_enterX hT hf hb hg hn h

/-- An operation that does something, or panics. -/
def DoOpX (P : Program) (nt : Nat) (o : Oper) (fr : Fr) (σ : List AObj) (next : Fr → List AObj → Prop) (Q : Exit → Fr → List AObj → Prop) : Prop :=
  ∀ k x A w, Sim k x nt fr σ A w → o.wp P A w (fun A' w' => ∃ x' fr' σ', CtxExt x x' ∧ Sim k x' nt fr' σ' A' w' ∧ next fr' σ') (Post k x nt Q)
theorem al_doX {i : Nat} {o : Oper} (ho : ops[i]? = some o) (hd : (dr && !dos.contains i) = false) (hk : (dr && !ends.contains i) = false) (hg : guardA ops fr o = some true)
    (h : DoOpX P nt o fr σ (AL P nt ops dr dos ends l Q) Q) : AL P nt ops dr dos ends (.one i l) Q fr σ := by
  refine ⟨fun k x A w s => ?_⟩
  unfold walkW stepW
  refine .inr ⟨hd, ?_⟩
  have h1 := h k x A w s
  unfold wpOp
  simp only [ho, guardA_spec s hg, if_true]
  refine .inl ?_
  have key : ∀ A' w', (∃ x' fr' σ', CtxExt x x' ∧ Sim k x' nt fr' σ' A' w' ∧ AL P nt ops dr dos ends l Q fr' σ') → ((dr && !ends.contains i) = true → Agree w w') ∧ walkW P ops (Post k x nt Q) dr dos ends l A' w' := by
    rintro A' w' ⟨x', fr', σ', hx, hs, hn⟩
    refine ⟨fun hb => ?_, walkW_ext hx (hn.out k x' A' w' hs)⟩
    rw [hb] at hk
    cases hk
  exact upon_mono key (fun _ _ _ q => q) h1
theorem do_callX {g : FuncId} {fs cs : List AV} {f : Operand} {args : Array Operand} {tys : Array TypeId} {post : AV → List AObj → Prop} {pan : Value → List AObj → Prop} {next : Fr → List AObj → Prop} (ho : o.op = .call { callee := .value f, args := args, argTypes := tys })
    (hf : cloOf (aget fr f) = some (g, fs, cs)) (ht : dstOk o.dst nt = true) (hr : RunsX P g (fs ++ args.toList.map (aget fr) ++ cs) σ post pan) (hn : ∀ v σ', post v σ' → next (fput o.dst v fr) σ') (hp : ∀ v σ', pan v σ' → Q (.panic (chainOf v)) [] σ') : DoOpX P nt o fr σ next Q := by
  intro k x A w s
  obtain ⟨vs, h1, h2⟩ := call_run s hr.1 ho hf
  unfold Oper.wp
  rw [h1, Oper.upon_enter]
  refine Calls.mono (hr.2 k.B k.R x w vs h2 s.heap s.calm) fun e w' h => ?_
  rcases h with ⟨u, v, x', σ', e1, e2, e3, e4, e5, e6⟩ | ⟨pv, x', σ', e1, e2, e3, e4, e5⟩
  · subst e1
    exact ⟨x', _, σ', e2, (s.to e2 e4 e5).put ht e3, hn v σ' e6⟩
  · subst e1
    exact ⟨s.defers, x', σ', e2, e3, e4, hp pv σ' e5⟩
theorem s_callX {g : FuncId} {fs cs as : List AV} {f : Operand} {args : Array Operand} {tys : Array TypeId} {post : AV → List AObj → Prop} {pan : Value → List AObj → Prop} (hp : (dr && !dos.contains i) = false) (hg : guardB ops fr gd = some true) (hk : (dr && !ends.contains i) = false) (ht : Nat.blt d nt = true) (hf : cloOf (aget fr f) = some (g, fs, cs)) (has : seqL (fs ++ args.toList.map (aget fr) ++ cs) some = some as) (hr : RunsX P g as σ post pan) (h : ∀ v σ', post v σ' → AL P nt ops dr dos ends l Q ((d, v) :: fr) σ') (h2 : ∀ v σ', pan v σ' → Q (.panic (chainOf v)) [] σ') : ALo P nt ops dr dos ends i ⟨some d, .call { callee := .value f, args := args, argTypes := tys }, ty, pos, aft, gd⟩ l Q fr σ := by
  refine ⟨fun ho => al_doX ho hp hk (guardB_eq hg) ?_⟩
  simp only [seqL_eq, Option.some.injEq] at has
  subst has
  exact do_callX rfl hf ht hr h h2
/-- A sum, a difference, of any kind of number. -/
theorem s_addK (r : Int) {k : IntKind} {t t' : TypeId} {a b : Operand} {m n : Int} (hp : dr = dr) (hg : guardB ops fr gd = some true) (ht : Nat.blt d nt = true) (ha : aget fr a = .d (.v (.int k m))) (hb : aget fr b = .d (.v (.int k n))) (hv : k.wrap (m + n) = r) (h : AL P nt ops dr dos ends l Q ((d, .d (.v (.int k r))) :: fr) σ) : ALo P nt ops dr dos ends i ⟨some d, .binOp .add t a b t', ty, pos, aft, gd⟩ l Q fr σ := by
  subst hv
  exact ⟨fun ho => s_read ho hp hg ht (rd_int rfl ha hb rfl) h⟩
theorem s_subK (r : Int) {k : IntKind} {t t' : TypeId} {a b : Operand} {m n : Int} (hp : dr = dr) (hg : guardB ops fr gd = some true) (ht : Nat.blt d nt = true) (ha : aget fr a = .d (.v (.int k m))) (hb : aget fr b = .d (.v (.int k n))) (hv : k.wrap (m - n) = r) (h : AL P nt ops dr dos ends l Q ((d, .d (.v (.int k r))) :: fr) σ) : ALo P nt ops dr dos ends i ⟨some d, .binOp .sub t a b t', ty, pos, aft, gd⟩ l Q fr σ := by
  subst hv
  exact ⟨fun ho => s_read ho hp hg ht (rd_int rfl ha hb rfl) h⟩
theorem wrapU8 {z : Int} (h1 : 0 ≤ z) (h2 : z ≤ 255) : IntKind.wrap .u8 z = z := by
  unfold IntKind.wrap
  simp [IntKind.bits, IntKind.signed]
  omega
end
end Go.Proofs.Ytciciaikajdenaa
/- Ar: comparisons with nil, a type assertion that holds; a function that defers a closure. -/
set_option linter.unusedSimpArgs false
set_option linter.unusedVariables false
namespace Go.Proofs.Ytciciaikajdenaa
open Go.RowKit

section
variable {P : Program} {T : Tab} {nt : Nat} {Q : Exit → Fr → List AObj → Prop} {fr : Fr} {σ : List AObj} {ops : Array Oper} {dr : Bool} {dos ends : List Nat} {l : Trr} {o : Oper} {i d : Nat}
variable {ty : TypeId} {pos : String} {aft : Array Edge} {gd : Option (Nat × Bool)}

theorem rd_held {t t' u : TypeId} {a : Operand} {x : Value} (hu : P.underlying t = some (.interface (P.methodsAt t))) (ho : o.op = .binOp .eql t a (.const .nilIface) t') (ha : aget fr a = .d (.v (.iface u x))) : RdOp P o fr σ (.d (.v (.bool false))) := by
  intro k c nt A w s
  have h1 := s.arg a
  rw [ha] at h1
  obtain ⟨e1, _⟩ := h1
  refine ⟨_, ⟨rfl, rfl⟩, fun w' _ => ?_⟩
  unfold execOp
  have e2 : A.eval (.const .nilIface) = .nilIface := rfl
  simp [ho, e1, e2, eqGuard, run_eql_held_nil (P := P) w' t u x hu]
theorem rd_nils {t t' : TypeId} {a : Operand} (hu : P.underlying t = some (.interface (P.methodsAt t))) (ho : o.op = .binOp .eql t a (.const .nilIface) t') (ha : aget fr a = .d (.v .nilIface)) : RdOp P o fr σ (.d (.v (.bool true))) := by
  intro k c nt A w s
  have h1 := s.arg a
  rw [ha] at h1
  obtain ⟨e1, _⟩ := h1
  refine ⟨_, ⟨rfl, rfl⟩, fun w' _ => ?_⟩
  unfold execOp
  have e2 : A.eval (.const .nilIface) = .nilIface := rfl
  simp [ho, e1, e2, eqGuard, run_eql_nil_nil (P := P) w' t hu]
theorem run_ptr_nil (w : World) {t e : TypeId} (ad : Addr) (hu : P.underlying t = some (.pointer e)) : (binOp .eql t (.pointer (some ad)) (.pointer none)).run P w = .ok (.bool false) w := by
  have h : ∀ d : Nat, (Op.equalIn (d + 1) t (.pointer (some ad)) (.pointer none)).run P w = .ok false w := fun d => by simp [Op.equalIn, run_underlying hu]
  simp only [binOp]
  simp [Op.equal, Op.maxDepth, h 9999]
theorem run_nil_nil (w : World) {t e : TypeId} (hu : P.underlying t = some (.pointer e)) : (binOp .eql t (.pointer none) (.pointer none)).run P w = .ok (.bool true) w := by
  have h : ∀ d : Nat, (Op.equalIn (d + 1) t (.pointer none) (.pointer none)).run P w = .ok true w := fun d => by simp [Op.equalIn, run_underlying hu]
  simp only [binOp]
  simp [Op.equal, Op.maxDepth, h 9999]
theorem rd_ptrNil {t t' : TypeId} {a : Operand} {loc ver off : Nat} (ho : o.op = .binOp .eql t a (.const (.pointer none)) t') (hu : ∃ e, P.underlying t = some (.pointer e)) (ha : aget fr a = .ptr loc ver off) : RdOp P o fr σ (.d (.v (.bool false))) := by
  intro k c nt A w s
  have h1 := s.arg a
  rw [ha] at h1
  obtain ⟨_, _, ad, e1, _⟩ := h1
  obtain ⟨e, hu⟩ := hu
  refine ⟨_, ⟨rfl, rfl⟩, fun w' _ => ?_⟩
  unfold execOp
  have e2 : A.eval (.const (.pointer none)) = .pointer none := rfl
  simp [ho, e1, e2, eqGuard, run_ptr_nil (P := P) w' ad hu]
theorem rd_ptrNil2 {t t' : TypeId} {a : Operand} (ho : o.op = .binOp .eql t a (.const (.pointer none)) t') (hu : ∃ e, P.underlying t = some (.pointer e)) (ha : aget fr a = .d (.v (.pointer none))) : RdOp P o fr σ (.d (.v (.bool true))) := by
  intro k c nt A w s
  have h1 := s.arg a
  rw [ha] at h1
  obtain ⟨e1, _⟩ := h1
  obtain ⟨e, hu⟩ := hu
  refine ⟨_, ⟨rfl, rfl⟩, fun w' _ => ?_⟩
  unfold execOp
  have e2 : A.eval (.const (.pointer none)) = .pointer none := rfl
  simp [ho, e1, e2, eqGuard, run_nil_nil (P := P) w' hu]
theorem rd_assertOk {t u : TypeId} {a : Operand} {cs : List DV} {x : Value} (hu : (match P.underlying u with | some (.interface _) => false | some _ => true | none => false) = true) (ho : o.op = .typeAssert a t u true) (ha : aget fr a = .d (.v (.iface u x))) (hx : ∀ F, DRep F (.agg cs) x) : RdOp P o fr σ (.d (.tup [.agg cs, .v (.bool true)])) := by
  intro k c nt A w s
  have h1 := s.arg a
  rw [ha] at h1
  obtain ⟨e1, _⟩ := h1
  refine ⟨.tuple #[x, .bool true], ⟨[x, .bool true], rfl, _, _, rfl, hx _, _, _, rfl, ⟨rfl, rfl⟩, rfl⟩, fun w' _ => ?_⟩
  unfold execOp
  cases hu2 : P.underlying u with
  | none => rw [hu2] at hu; cases hu
  | some dd =>
    rw [hu2] at hu
    cases dd with
    | interface ms => cases hu
    | _ => simp [ho, e1, Instr.typeAssert, run_underlying hu2]
theorem s_held {t t' u : TypeId} {a : Operand} {x : Value} (hu : P.underlying t = some (.interface (P.methodsAt t))) (hp : dr = dr) (hg : guardB ops fr gd = some true) (ht : Nat.blt d nt = true) (ha : aget fr a = .d (.v (.iface u x))) (h : AL P nt ops dr dos ends l Q ((d, .d (.v (.bool false))) :: fr) σ) : ALo P nt ops dr dos ends i ⟨some d, .binOp .eql t a (.const .nilIface) t', ty, pos, aft, gd⟩ l Q fr σ :=
  ⟨fun ho => s_read ho hp hg ht (rd_held hu rfl ha) h⟩
theorem s_nils {t t' : TypeId} {a : Operand} (hu : P.underlying t = some (.interface (P.methodsAt t))) (hp : dr = dr) (hg : guardB ops fr gd = some true) (ht : Nat.blt d nt = true) (ha : aget fr a = .d (.v .nilIface)) (h : AL P nt ops dr dos ends l Q ((d, .d (.v (.bool true))) :: fr) σ) : ALo P nt ops dr dos ends i ⟨some d, .binOp .eql t a (.const .nilIface) t', ty, pos, aft, gd⟩ l Q fr σ :=
  ⟨fun ho => s_read ho hp hg ht (rd_nils hu rfl ha) h⟩
theorem s_ptrNil {t t' : TypeId} {a : Operand} {loc ver off : Nat} (hu : ∃ e, P.underlying t = some (.pointer e)) (hp : dr = dr) (hg : guardB ops fr gd = some true) (ht : Nat.blt d nt = true) (ha : aget fr a = .ptr loc ver off) (h : AL P nt ops dr dos ends l Q ((d, .d (.v (.bool false))) :: fr) σ) : ALo P nt ops dr dos ends i ⟨some d, .binOp .eql t a (.const (.pointer none)) t', ty, pos, aft, gd⟩ l Q fr σ :=
  ⟨fun ho => s_read ho hp hg ht (rd_ptrNil rfl hu ha) h⟩
theorem s_ptrNil2 {t t' : TypeId} {a : Operand} (hu : ∃ e, P.underlying t = some (.pointer e)) (hp : dr = dr) (hg : guardB ops fr gd = some true) (ht : Nat.blt d nt = true) (ha : aget fr a = .d (.v (.pointer none))) (h : AL P nt ops dr dos ends l Q ((d, .d (.v (.bool true))) :: fr) σ) : ALo P nt ops dr dos ends i ⟨some d, .binOp .eql t a (.const (.pointer none)) t', ty, pos, aft, gd⟩ l Q fr σ :=
  ⟨fun ho => s_read ho hp hg ht (rd_ptrNil2 rfl hu ha) h⟩
theorem s_assertOk {t u : TypeId} {a : Operand} {cs : List DV} {x : Value} (hu : (match P.underlying u with | some (.interface _) => false | some _ => true | none => false) = true) (hp : dr = dr) (hg : guardB ops fr gd = some true) (ht : Nat.blt d nt = true) (ha : aget fr a = .d (.v (.iface u x))) (hx : ∀ F, DRep F (.agg cs) x) (h : AL P nt ops dr dos ends l Q ((d, .d (.tup [.agg cs, .v (.bool true)])) :: fr) σ) : ALo P nt ops dr dos ends i ⟨some d, .typeAssert a t u true, ty, pos, aft, gd⟩ l Q fr σ :=
  ⟨fun ho => s_read ho hp hg ht (rd_assertOk hu rfl ha hx) h⟩

/-! A function that defers a closure. -/

/-- Where code goes on, of a frame in hand. -/
def nextQ (N : Fr → List AObj → Prop) : Exit → Fr → List AObj → Prop
  | .normal, fr, σ => N fr σ
  | _, _, _ => False
/-- A first part is walked, the rest stands by itself. -/
theorem wp_first {a b : Code} {N : Fr → List AObj → Prop} {k : K0} {x : Ctx} {A : Act} {w : World} {QW : Exit → Act → World → Prop} (s : Sim k x nt fr σ A w) (h : AWk P nt a (nextQ N) fr σ)
    (hb : ∀ x' fr' σ' A' w', CtxExt x x' → Sim k x' nt fr' σ' A' w' → N fr' σ' → b.wp P QW A' w') : (Code.seq a b).wp P QW A w := by
  refine wp_seq (wp_mono (h.out k x A w s) fun e A' w' p => ?_)
  cases e with
  | normal =>
    obtain ⟨x', fr', σ', hx, hs, hq⟩ := p
    exact hb x' fr' σ' A' w' hx hs hq
  | ret => obtain ⟨_, _, _, _, _, hq⟩ := p; exact hq.elim
  | exit i => obtain ⟨_, _, _, _, _, hq⟩ := p; exact hq.elim
  | goto i => obtain ⟨_, _, _, _, _, hq⟩ := p; exact hq.elim
  | panic ch => obtain ⟨_, _, _, _, _, _, hq⟩ := p; exact hq.elim
  | outgrown => exact p.elim

theorem wpOps_one {QW : Exit → Act → World → Prop} {rest : List Nat} {A : Act} {w : World} (ho : ops[i]? = some o) (hg : o.guard = none) (h : o.wp P A w (wpOps P ops QW rest) QW) : wpOps P ops QW (i :: rest) A w := by
  unfold wpOps
  rw [ho]
  simp only
  rw [if_pos (by simp [Region.wanted, hg])]
  exact .inl h
/-- The region that defers. -/
theorem wp_defers {id g : Nat} {b : Code} {k : K0} {x : Ctx} {A : Act} {w : World} {QW : Exit → Act → World → Prop} {t9 a4 a5 l4 l5 : Nat} {ty1 ty2 : TypeId} {p1 p2 : String} {af1 af2 : Array Edge} (s : Sim k x nt fr σ A w) (h9 : t9 < nt) (h4 : fget fr a4 = .ptr l4 0 0) (h5 : fget fr a5 = .ptr l5 0 0)
    (hb : ∀ (A' : Act) (q4 q5 : Addr) (d : Deferred), d.target = .fn (.func g) #[.pointer (some q4), .pointer (some q5)] → d.args = #[] → ARep x (.ptr l4 0 0) (.pointer (some q4)) → ARep x (.ptr l5 0 0) (.pointer (some q5)) → Sim ⟨k.B, k.R, d :: k.ds⟩ x nt ((t9, .any) :: fr) σ A' w → b.wp P QW A' w) :
    (Code.seq (.region id #[⟨some t9, .makeFunc (.func g) #[] #[.tmp a4, .tmp a5], ty1, p1, af1, none⟩, ⟨none, .defer { callee := .value (.tmp t9), args := #[], argTypes := #[] }, ty2, p2, af2, none⟩] false) b).wp P QW A w := by
  have r4 := s.tmps a4
  have r5 := s.tmps a5
  rw [h4] at r4
  rw [h5] at r5
  have r4' := r4
  have r5' := r5
  obtain ⟨_, _, q4, e4, _⟩ := r4
  obtain ⟨_, _, q5, e5, _⟩ := r5
  rw [e4] at r4'
  rw [e5] at r5'
  have hmf : ∀ (fn : Fn) (first cap : Array Value) (w : World), (Instr.makeFunc fn first cap).run P w = .ok (.func fn first cap) w := fun _ _ _ _ => rfl
  have hsz : t9 < A.tmps.size := by rw [s.size]; exact h9
  have e4' : A.eval (.tmp a4) = .pointer (some q4) := e4
  have e5' : A.eval (.tmp a5) = .pointer (some q5) := e5
  have hget : (A.tmps.setIfInBounds t9 (.func (.func g) #[] #[.pointer (some q4), .pointer (some q5)])).getD t9 undef = .func (.func g) #[] #[.pointer (some q4), .pointer (some q5)] := by
    simp [Array.getD_eq_getD_getElem?, hsz]
  have run1 : (execOp A.eval ⟨some t9, .makeFunc (.func g) #[] #[.tmp a4, .tmp a5], ty1, p1, af1, none⟩).run P w = .ok (.value (.func (.func g) #[] #[.pointer (some q4), .pointer (some q5)])) w := by
    unfold execOp
    simp [hmf, e4', e5']
  have run2 : (execOp (A.put (some t9) (.func (.func g) #[] #[.pointer (some q4), .pointer (some q5)])).eval ⟨none, .defer { callee := .value (.tmp t9), args := #[], argTypes := #[] }, ty2, p2, af2, none⟩).run P w = .ok (.defer { target := .fn (.func g) #[.pointer (some q4), .pointer (some q5)], args := #[] }) w := by
    have e9 : (A.put (some t9) (.func (.func g) #[] #[.pointer (some q4), .pointer (some q5)])).eval (.tmp t9) = .func (.func g) #[] #[.pointer (some q4), .pointer (some q5)] := hget
    unfold execOp
    simp [resolve, e9, Deferred.ofValue]
  refine wp_seq (wp_region ?_)
  change wpOps P _ _ [0, 1] _ _
  refine wpOps_one (o := ⟨some t9, .makeFunc (.func g) #[] #[.tmp a4, .tmp a5], ty1, p1, af1, none⟩) rfl rfl ?_
  unfold Oper.wp
  rw [run1, Oper.upon_value]
  refine wpOps_one (o := ⟨none, .defer { callee := .value (.tmp t9), args := #[], argTypes := #[] }, ty2, p2, af2, none⟩) rfl rfl ?_
  unfold Oper.wp
  rw [run2, Oper.upon_defer]
  refine hb { tmps := A.tmps.setIfInBounds t9 (.func (.func g) #[] #[.pointer (some q4), .pointer (some q5)]), defers := { target := .fn (.func g) #[.pointer (some q4), .pointer (some q5)], args := #[] } :: A.defers } q4 q5 _ rfl rfl r4' r5' ⟨by simp [s.size], by rw [s.defers], fun i => ?_, s.heap, s.calm⟩
  by_cases e : t9 = i
  · subst e; rw [fget_cons_self]; exact trivial
  · rw [fget_cons_ne _ _ e]
    have := s.tmps i
    simpa [Array.getD_eq_getD_getElem?, Array.getElem?_setIfInBounds, e] using this

/-! What a region does not write, stays. -/
theorem put_keep {A : Act} {dst : Option Tmp} {t : Nat} {v : Value} (h : dst ≠ some t) : (A.put dst v).tmps[t]? = A.tmps[t]? := by
  cases dst with
  | none => rfl
  | some s =>
    have : s ≠ t := fun e => h (by rw [e])
    simp [Act.put, Array.getElem?_setIfInBounds, this]
theorem upon_keep {A : Act} {t : Nat} {v0 : Option Value} {QW QW' : Exit → Act → World → Prop} (ht : o.dst ≠ some t) (hA : A.tmps[t]? = v0) {next next' : Act → World → Prop} (hn : ∀ a w, a.tmps[t]? = v0 → next a w → next' a w) (hQ : ∀ e a w, (e = .outgrown ∨ a.tmps[t]? = v0) → QW e a w → QW' e a w) {r : Result Next} (h : o.upon P A next QW r) : o.upon P A next' QW' r := by
  have hl : LetsOut QW → LetsOut QW' := fun ⟨a, w, q⟩ => ⟨a, w, hQ _ _ _ (.inl rfl) q⟩
  cases r with
  | ok n w =>
    cases n
    case value v => exact hn _ _ (by rw [put_keep ht, hA]) h
    case skip => exact hn _ _ (by rw [put_keep ht, hA]) h
    case defer d => exact hn _ _ (by rw [put_keep ht]; exact hA) h
    case enter f args =>
      rw [Oper.upon_enter] at h ⊢
      refine Calls.mono h fun en w' q => ?_
      cases en with
      | returned v => exact hn _ _ (by rw [put_keep ht, hA]) q
      | panicked ch => exact hQ _ _ _ (.inr hA) q
      | outgrown => exact hl q
    case row f args =>
      rw [Oper.upon_row] at h ⊢
      exact Rows.mono h fun v w' q => hn _ _ (by rw [put_keep ht, hA]) q
    all_goals exact h
  | halt x w =>
    cases x
    case panic v => exact hQ _ _ _ (.inr hA) h
    all_goals exact h
theorem wpOps_keep {t : Nat} {v0 : Option Value} {QW : Exit → Act → World → Prop} (hd : ∀ (i : Nat) (o : Oper), ops[i]? = some o → o.dst ≠ some t) : ∀ (l : List Nat) (A : Act) (w : World), A.tmps[t]? = v0 → wpOps P ops QW l A w → wpOps P ops (fun e a w => QW e a w ∧ (e = .outgrown ∨ a.tmps[t]? = v0)) l A w
  | [], A, w, hA, h => ⟨h, .inr hA⟩
  | i :: rest, A, w, hA, h => by
    unfold wpOps at h ⊢
    cases ho : ops[i]? with
    | none => rw [ho] at h; exact wpOps_keep hd rest A w hA h
    | some o =>
      rw [ho] at h
      simp only at h ⊢
      have hdo := hd i o ho
      split
      · rename_i hw
        rw [if_pos hw] at h
        rcases h with h | ⟨h1, a, w', h2⟩
        · exact .inl (upon_keep hdo hA (fun a w ha q => wpOps_keep hd rest a w ha q) (fun e a w he q => ⟨q, he⟩) h)
        · exact .inr ⟨h1, a, w', h2, .inl rfl⟩
      · rename_i hw
        rw [if_neg hw] at h
        exact wpOps_keep hd rest _ w (by rw [put_keep hdo, hA]) h
end
end Go.Proofs.Ytciciaikajdenaa
/- As: a slice compared with nil, of which it is not said whether it is; the length of a map. -/
set_option linter.unusedSimpArgs false
set_option linter.unusedVariables false
namespace Go.Proofs.Ytciciaikajdenaa
open Go.RowKit

section
variable {P : Program} {T : Tab} {nt : Nat} {Q : Exit → Fr → List AObj → Prop} {fr : Fr} {σ : List AObj} {ops : Array Oper} {dr : Bool} {dos ends : List Nat} {l : Trr} {o : Oper} {i d : Nat}
variable {ty : TypeId} {pos : String} {aft : Array Edge} {gd : Option (Nat × Bool)}
theorem run_slice_nil (w : World) {t e : TypeId} {a : Option Addr} (hu : P.underlying t = some (.slice e)) : (binOp .eql t (.slice a 0 0) (.slice none 0 0)).run P w = .ok (.bool a.isNone) w := by
  have h : ∀ d : Nat, (Op.equalIn (d + 1) t (.slice a 0 0) (.slice none 0 0)).run P w = .ok a.isNone w := fun d => by cases a <;> simp [Op.equalIn, run_underlying hu]
  simp only [binOp]
  simp [Op.equal, Op.maxDepth, h 9999]
theorem s_nilSl {t t' e : TypeId} {a : Operand} (hu : P.underlying t = some (.slice e)) (hp : (dr && !dos.contains i) = false) (hg : guardB ops fr gd = some true) (hk : (dr && !ends.contains i && !true) = false) (ht : Nat.blt d nt = true) (ha : aget fr a = .d .nil)
    (h : ∀ b : Bool, AL P nt ops dr dos ends l Q ((d, .d (.v (.bool b))) :: fr) σ) : ALo P nt ops dr dos ends i ⟨some d, .binOp .eql t a (.const (.slice none 0 0)) t', ty, pos, aft, gd⟩ l Q fr σ := by
  refine ⟨fun ho => s_do (keep := true) ho hp hg hk ?_⟩
  refine do_value (o := ⟨some d, .binOp .eql t a (.const (.slice none 0 0)) t', ty, pos, aft, gd⟩) ht (fun v σ' => ∃ b : Bool, v = .d (.v (.bool b)) ∧ σ' = σ) (fun v σ' ⟨b, e1, e2⟩ => e1 ▸ e2 ▸ h b) fun k x A w s => ?_
  have h1 := s.arg a
  rw [ha] at h1
  obtain ⟨ad, e1⟩ := h1
  have e2 : A.eval (.const (.slice none 0 0)) = .slice none 0 0 := rfl
  refine ⟨.bool ad.isNone, w, x, .d (.v (.bool ad.isNone)), σ, ?_, .refl x, ⟨rfl, rfl⟩, s.heap, s.calm, fun _ => Agree.refl w, ad.isNone, rfl, rfl⟩
  unfold execOp
  simp [e1, e2, eqGuard, run_slice_nil w hu]
theorem s_lenM {mt kt et loc : Nat} {a : Operand} {ps : List (Value × AV)} (hm : P.underlying mt = some (.map kt et)) (hp : (dr && !dos.contains i) = false) (hg : guardB ops fr gd = some true) (hk : (dr && !ends.contains i && !true) = false) (ht : Nat.blt d nt = true) (ha : aget fr a = .mp loc) (hl : σ[loc]? = some (.map ps)) (h : AL P nt ops dr dos ends l Q ((d, .d (.v (.int .i64 ps.length))) :: fr) σ) : ALo P nt ops dr dos ends i ⟨some d, .call { callee := .builtin .len, args := #[a], argTypes := #[mt] }, ty, pos, aft, gd⟩ l Q fr σ := by
  refine ⟨fun ho => s_do (keep := true) ho hp hg hk ?_⟩
  refine do_value (o := ⟨some d, .call { callee := .builtin .len, args := #[a], argTypes := #[mt] }, ty, pos, aft, gd⟩) ht (fun v σ' => v = .d (.v (.int .i64 ps.length)) ∧ σ' = σ) (fun v σ' ⟨e1, e2⟩ => e1 ▸ e2 ▸ h) fun k x A w s => ?_
  have hra := s.arg a
  rw [ha] at hra
  obtain ⟨hlt, r, e, hc⟩ := hra
  obtain ⟨g, g1, g2, g3, g4⟩ := s.heap.own
  obtain ⟨hver, es, m1, m2, m3⟩ := g1 loc _ hl
  have hr := hc hver.symm
  subst hr
  have hlen : es.size = ps.length := by rw [← m2.len]; simp
  have hget : w.heap[(x.env loc).blk]? = some (.map es es.size) := g2 loc _ _ m1
  have hgo := obj_run (P := P) hget
  refine ⟨.int .i64 ps.length, w, x, .d (.v (.int .i64 ps.length)), σ, ?_, .refl x, ⟨rfl, rfl⟩, s.heap, s.calm, fun _ => Agree.refl w, rfl, rfl⟩
  have hb : (Builtin.len_ #[mt] ty #[.map (some (x.env loc).blk)]).run P w = .ok (.int .i64 ps.length) w := by
    unfold Builtin.len_
    simp [run_underlying hm, hgo, goInt, hlen]
  unfold execOp
  simp [resolve, e, invoke, builtin, hb]
end
end Go.Proofs.Ytciciaikajdenaa
