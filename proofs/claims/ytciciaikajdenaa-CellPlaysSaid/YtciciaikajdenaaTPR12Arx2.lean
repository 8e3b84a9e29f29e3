/- Ar: comparisons with nil, a type assertion that holds; a function that defers a closure. -/
import Derived.WideLaws
import Derived.Test.YtciciaikajdenaaTPR12N2x2
import Derived.Test.YtciciaikajdenaaTPR12N10
set_option linter.unusedSimpArgs false
set_option linter.unusedVariables false
namespace Go.Proofs.Ytciciaikajdenaa
open Go.RowKit

section
variable {P : Program} {T : Tab} {nt : Nat} {Q : Exit → Fr → List AObj → Prop} {fr : Fr} {σ : List AObj} {ops : Array Oper} {dr : Bool} {dos ends : List Nat} {l : Trr} {o : Oper} {i d : Nat}
variable {ty : TypeId} {pos : String} {aft : Array Edge} {gd : Option (Nat × Bool)}

theorem rd_held {t t' u : TypeId} {a : Operand} {x : Value} (hu : P.underlying t = some (.interface (P.methodsAt t))) (ho : o.op = .binOp .eql t a (.const .nilIface) t') (ha : aget fr a = .d (.v (.iface u x))) : RdOp P o fr σ (.d (.v (.bool false))) := by
  intro k c nt A w s
  have h1 := s.arg a
  rw [ha] at h1
  obtain ⟨e1, _⟩ := h1
  refine ⟨_, ⟨rfl, rfl⟩, fun w' _ => ?_⟩
  unfold execOp
  have e2 : A.eval (.const .nilIface) = .nilIface := rfl
  simp [ho, e1, e2, eqGuard, run_eql_held_nil (P := P) w' t u x hu]
theorem rd_nils {t t' : TypeId} {a : Operand} (hu : P.underlying t = some (.interface (P.methodsAt t))) (ho : o.op = .binOp .eql t a (.const .nilIface) t') (ha : aget fr a = .d (.v .nilIface)) : RdOp P o fr σ (.d (.v (.bool true))) := by
  intro k c nt A w s
  have h1 := s.arg a
  rw [ha] at h1
  obtain ⟨e1, _⟩ := h1
  refine ⟨_, ⟨rfl, rfl⟩, fun w' _ => ?_⟩
  unfold execOp
  have e2 : A.eval (.const .nilIface) = .nilIface := rfl
  simp [ho, e1, e2, eqGuard, run_eql_nil_nil (P := P) w' t hu]
theorem run_ptr_nil (w : World) {t e : TypeId} (ad : Addr) (hu : P.underlying t = some (.pointer e)) : (binOp .eql t (.pointer (some ad)) (.pointer none)).run P w = .ok (.bool false) w := by
  have h : ∀ d : Nat, (Op.equalIn (d + 1) t (.pointer (some ad)) (.pointer none)).run P w = .ok false w := fun d => by simp [Op.equalIn, run_underlying hu]
  simp only [binOp]
  simp [Op.equal, Op.maxDepth, h 9999]
theorem run_nil_nil (w : World) {t e : TypeId} (hu : P.underlying t = some (.pointer e)) : (binOp .eql t (.pointer none) (.pointer none)).run P w = .ok (.bool true) w := by
  have h : ∀ d : Nat, (Op.equalIn (d + 1) t (.pointer none) (.pointer none)).run P w = .ok true w := fun d => by simp [Op.equalIn, run_underlying hu]
  simp only [binOp]
  simp [Op.equal, Op.maxDepth, h 9999]
theorem rd_ptrNil {t t' : TypeId} {a : Operand} {loc ver off : Nat} (ho : o.op = .binOp .eql t a (.const (.pointer none)) t') (hu : ∃ e, P.underlying t = some (.pointer e)) (ha : aget fr a = .ptr loc ver off) : RdOp P o fr σ (.d (.v (.bool false))) := by
  intro k c nt A w s
  have h1 := s.arg a
  rw [ha] at h1
  obtain ⟨_, _, ad, e1, _⟩ := h1
  obtain ⟨e, hu⟩ := hu
  refine ⟨_, ⟨rfl, rfl⟩, fun w' _ => ?_⟩
  unfold execOp
  have e2 : A.eval (.const (.pointer none)) = .pointer none := rfl
  simp [ho, e1, e2, eqGuard, run_ptr_nil (P := P) w' ad hu]
theorem rd_ptrNil2 {t t' : TypeId} {a : Operand} (ho : o.op = .binOp .eql t a (.const (.pointer none)) t') (hu : ∃ e, P.underlying t = some (.pointer e)) (ha : aget fr a = .d (.v (.pointer none))) : RdOp P o fr σ (.d (.v (.bool true))) := by
  intro k c nt A w s
  have h1 := s.arg a
  rw [ha] at h1
  obtain ⟨e1, _⟩ := h1
  obtain ⟨e, hu⟩ := hu
  refine ⟨_, ⟨rfl, rfl⟩, fun w' _ => ?_⟩
  unfold execOp
  have e2 : A.eval (.const (.pointer none)) = .pointer none := rfl
  simp [ho, e1, e2, eqGuard, run_nil_nil (P := P) w' hu]
theorem rd_assertOk {t u : TypeId} {a : Operand} {cs : List DV} {x : Value} (hu : (match P.underlying u with | some (.interface _) => false | some _ => true | none => false) = true) (ho : o.op = .typeAssert a t u true) (ha : aget fr a = .d (.v (.iface u x))) (hx : ∀ F, DRep F (.agg cs) x) : RdOp P o fr σ (.d (.tup [.agg cs, .v (.bool true)])) := by
  intro k c nt A w s
  have h1 := s.arg a
  rw [ha] at h1
  obtain ⟨e1, _⟩ := h1
  refine ⟨.tuple #[x, .bool true], ⟨[x, .bool true], rfl, _, _, rfl, hx _, _, _, rfl, ⟨rfl, rfl⟩, rfl⟩, fun w' _ => ?_⟩
  unfold execOp
  cases hu2 : P.underlying u with
  | none => rw [hu2] at hu; cases hu
  | some dd =>
    rw [hu2] at hu
    cases dd with
    | interface ms => cases hu
    | _ => simp [ho, e1, Instr.typeAssert, run_underlying hu2]
theorem s_held {t t' u : TypeId} {a : Operand} {x : Value} (hu : P.underlying t = some (.interface (P.methodsAt t))) (hp : dr = dr) (hg : guardB ops fr gd = some true) (ht : Nat.blt d nt = true) (ha : aget fr a = .d (.v (.iface u x))) (h : AL P nt ops dr dos ends l Q ((d, .d (.v (.bool false))) :: fr) σ) : ALo P nt ops dr dos ends i ⟨some d, .binOp .eql t a (.const .nilIface) t', ty, pos, aft, gd⟩ l Q fr σ :=
  ⟨fun ho => s_read ho hp hg ht (rd_held hu rfl ha) h⟩
theorem s_nils {t t' : TypeId} {a : Operand} (hu : P.underlying t = some (.interface (P.methodsAt t))) (hp : dr = dr) (hg : guardB ops fr gd = some true) (ht : Nat.blt d nt = true) (ha : aget fr a = .d (.v .nilIface)) (h : AL P nt ops dr dos ends l Q ((d, .d (.v (.bool true))) :: fr) σ) : ALo P nt ops dr dos ends i ⟨some d, .binOp .eql t a (.const .nilIface) t', ty, pos, aft, gd⟩ l Q fr σ :=
  ⟨fun ho => s_read ho hp hg ht (rd_nils hu rfl ha) h⟩
theorem s_ptrNil {t t' : TypeId} {a : Operand} {loc ver off : Nat} (hu : ∃ e, P.underlying t = some (.pointer e)) (hp : dr = dr) (hg : guardB ops fr gd = some true) (ht : Nat.blt d nt = true) (ha : aget fr a = .ptr loc ver off) (h : AL P nt ops dr dos ends l Q ((d, .d (.v (.bool false))) :: fr) σ) : ALo P nt ops dr dos ends i ⟨some d, .binOp .eql t a (.const (.pointer none)) t', ty, pos, aft, gd⟩ l Q fr σ :=
  ⟨fun ho => s_read ho hp hg ht (rd_ptrNil rfl hu ha) h⟩
theorem s_ptrNil2 {t t' : TypeId} {a : Operand} (hu : ∃ e, P.underlying t = some (.pointer e)) (hp : dr = dr) (hg : guardB ops fr gd = some true) (ht : Nat.blt d nt = true) (ha : aget fr a = .d (.v (.pointer none))) (h : AL P nt ops dr dos ends l Q ((d, .d (.v (.bool true))) :: fr) σ) : ALo P nt ops dr dos ends i ⟨some d, .binOp .eql t a (.const (.pointer none)) t', ty, pos, aft, gd⟩ l Q fr σ :=
  ⟨fun ho => s_read ho hp hg ht (rd_ptrNil2 rfl hu ha) h⟩
theorem s_assertOk {t u : TypeId} {a : Operand} {cs : List DV} {x : Value} (hu : (match P.underlying u with | some (.interface _) => false | some _ => true | none => false) = true) (hp : dr = dr) (hg : guardB ops fr gd = some true) (ht : Nat.blt d nt = true) (ha : aget fr a = .d (.v (.iface u x))) (hx : ∀ F, DRep F (.agg cs) x) (h : AL P nt ops dr dos ends l Q ((d, .d (.tup [.agg cs, .v (.bool true)])) :: fr) σ) : ALo P nt ops dr dos ends i ⟨some d, .typeAssert a t u true, ty, pos, aft, gd⟩ l Q fr σ :=
  ⟨fun ho => s_read ho hp hg ht (rd_assertOk hu rfl ha hx) h⟩

/-! A function that defers a closure. -/

/-- Where code goes on, of a frame in hand. -/
def nextQ (N : Fr → List AObj → Prop) : Exit → Fr → List AObj → Prop
  | .normal, fr, σ => N fr σ
  | _, _, _ => False
/-- A first part is walked, the rest stands by itself. -/
theorem wp_first {a b : Code} {N : Fr → List AObj → Prop} {k : K0} {x : Ctx} {A : Act} {w : World} {QW : Exit → Act → World → Prop} (s : Sim k x nt fr σ A w) (h : AWk P nt a (nextQ N) fr σ)
    (hb : ∀ x' fr' σ' A' w', CtxExt x x' → Sim k x' nt fr' σ' A' w' → N fr' σ' → b.wp P QW A' w') : (Code.seq a b).wp P QW A w := by
  refine wp_seq (wp_mono (h.out k x A w s) fun e A' w' p => ?_)
  cases e with
  | normal =>
    obtain ⟨x', fr', σ', hx, hs, hq⟩ := p
    exact hb x' fr' σ' A' w' hx hs hq
  | ret => obtain ⟨_, _, _, _, _, hq⟩ := p; exact hq.elim
  | exit i => obtain ⟨_, _, _, _, _, hq⟩ := p; exact hq.elim
  | goto i => obtain ⟨_, _, _, _, _, hq⟩ := p; exact hq.elim
  | panic ch => obtain ⟨_, _, _, _, _, _, hq⟩ := p; exact hq.elim
  | outgrown => exact p.elim

theorem wpOps_one {QW : Exit → Act → World → Prop} {rest : List Nat} {A : Act} {w : World} (ho : ops[i]? = some o) (hg : o.guard = none) (h : o.wp P A w (wpOps P ops QW rest) QW) : wpOps P ops QW (i :: rest) A w := by
  unfold wpOps
  rw [ho]
  simp only
  rw [if_pos (by simp [Region.wanted, hg])]
  exact .inl h
/-- The region that defers. -/
theorem wp_defers {id g : Nat} {b : Code} {k : K0} {x : Ctx} {A : Act} {w : World} {QW : Exit → Act → World → Prop} {t9 a4 a5 l4 l5 : Nat} {ty1 ty2 : TypeId} {p1 p2 : String} {af1 af2 : Array Edge} (s : Sim k x nt fr σ A w) (h9 : t9 < nt) (h4 : fget fr a4 = .ptr l4 0 0) (h5 : fget fr a5 = .ptr l5 0 0)
    (hb : ∀ (A' : Act) (q4 q5 : Addr) (d : Deferred), d.target = .fn (.func g) #[.pointer (some q4), .pointer (some q5)] → d.args = #[] → ARep x (.ptr l4 0 0) (.pointer (some q4)) → ARep x (.ptr l5 0 0) (.pointer (some q5)) → Sim ⟨k.B, k.R, d :: k.ds⟩ x nt ((t9, .any) :: fr) σ A' w → b.wp P QW A' w) :
    (Code.seq (.region id #[⟨some t9, .makeFunc (.func g) #[] #[.tmp a4, .tmp a5], ty1, p1, af1, none⟩, ⟨none, .defer { callee := .value (.tmp t9), args := #[], argTypes := #[] }, ty2, p2, af2, none⟩] false) b).wp P QW A w := by
  have r4 := s.tmps a4
  have r5 := s.tmps a5
  rw [h4] at r4
  rw [h5] at r5
  have r4' := r4
  have r5' := r5
  obtain ⟨_, _, q4, e4, _⟩ := r4
  obtain ⟨_, _, q5, e5, _⟩ := r5
  rw [e4] at r4'
  rw [e5] at r5'
  have hmf : ∀ (fn : Fn) (first cap : Array Value) (w : World), (Instr.makeFunc fn first cap).run P w = .ok (.func fn first cap) w := fun _ _ _ _ => rfl
  have hsz : t9 < A.tmps.size := by rw [s.size]; exact h9
  have e4' : A.eval (.tmp a4) = .pointer (some q4) := e4
  have e5' : A.eval (.tmp a5) = .pointer (some q5) := e5
  have hget : (A.tmps.setIfInBounds t9 (.func (.func g) #[] #[.pointer (some q4), .pointer (some q5)])).getD t9 undef = .func (.func g) #[] #[.pointer (some q4), .pointer (some q5)] := by
    simp [Array.getD_eq_getD_getElem?, hsz]
  have run1 : (execOp A.eval ⟨some t9, .makeFunc (.func g) #[] #[.tmp a4, .tmp a5], ty1, p1, af1, none⟩).run P w = .ok (.value (.func (.func g) #[] #[.pointer (some q4), .pointer (some q5)])) w := by
    unfold execOp
    simp [hmf, e4', e5']
  have run2 : (execOp (A.put (some t9) (.func (.func g) #[] #[.pointer (some q4), .pointer (some q5)])).eval ⟨none, .defer { callee := .value (.tmp t9), args := #[], argTypes := #[] }, ty2, p2, af2, none⟩).run P w = .ok (.defer { target := .fn (.func g) #[.pointer (some q4), .pointer (some q5)], args := #[] }) w := by
    have e9 : (A.put (some t9) (.func (.func g) #[] #[.pointer (some q4), .pointer (some q5)])).eval (.tmp t9) = .func (.func g) #[] #[.pointer (some q4), .pointer (some q5)] := hget
    unfold execOp
    simp [resolve, e9, Deferred.ofValue]
  refine wp_seq (wp_region ?_)
  change wpOps P _ _ [0, 1] _ _
  refine wpOps_one (o := ⟨some t9, .makeFunc (.func g) #[] #[.tmp a4, .tmp a5], ty1, p1, af1, none⟩) rfl rfl ?_
  unfold Oper.wp
  rw [run1, Oper.upon_value]
  refine wpOps_one (o := ⟨none, .defer { callee := .value (.tmp t9), args := #[], argTypes := #[] }, ty2, p2, af2, none⟩) rfl rfl ?_
  unfold Oper.wp
  rw [run2, Oper.upon_defer]
  refine hb { tmps := A.tmps.setIfInBounds t9 (.func (.func g) #[] #[.pointer (some q4), .pointer (some q5)]), defers := { target := .fn (.func g) #[.pointer (some q4), .pointer (some q5)], args := #[] } :: A.defers } q4 q5 _ rfl rfl r4' r5' ⟨by simp [s.size], by rw [s.defers], fun i => ?_, s.heap, s.calm⟩
  by_cases e : t9 = i
  · subst e; rw [fget_cons_self]; exact trivial
  · rw [fget_cons_ne _ _ e]
    have := s.tmps i
    simpa [Array.getD_eq_getD_getElem?, Array.getElem?_setIfInBounds, e] using this

/-! What a region does not write, stays. -/
theorem put_keep {A : Act} {dst : Option Tmp} {t : Nat} {v : Value} (h : dst ≠ some t) : (A.put dst v).tmps[t]? = A.tmps[t]? := by
  cases dst with
  | none => rfl
  | some s =>
    have : s ≠ t := fun e => h (by rw [e])
    simp [Act.put, Array.getElem?_setIfInBounds, this]
theorem upon_keep {A : Act} {t : Nat} {v0 : Option Value} {QW QW' : Exit → Act → World → Prop} (ht : o.dst ≠ some t) (hA : A.tmps[t]? = v0) {next next' : Act → World → Prop} (hn : ∀ a w, a.tmps[t]? = v0 → next a w → next' a w) (hQ : ∀ e a w, (e = .outgrown ∨ a.tmps[t]? = v0) → QW e a w → QW' e a w) {r : Result Next} (h : o.upon P A next QW r) : o.upon P A next' QW' r := by
  have hl : LetsOut QW → LetsOut QW' := fun ⟨a, w, q⟩ => ⟨a, w, hQ _ _ _ (.inl rfl) q⟩
  cases r with
  | ok n w =>
    cases n
    case value v => exact hn _ _ (by rw [put_keep ht, hA]) h
    case skip => exact hn _ _ (by rw [put_keep ht, hA]) h
    case defer d => exact hn _ _ (by rw [put_keep ht]; exact hA) h
    case enter f args =>
      rw [Oper.upon_enter] at h ⊢
      refine Calls.mono h fun en w' q => ?_
      cases en with
      | returned v => exact hn _ _ (by rw [put_keep ht, hA]) q
      | panicked ch => exact hQ _ _ _ (.inr hA) q
      | outgrown => exact hl q
    case row f args =>
      rw [Oper.upon_row] at h ⊢
      exact Rows.mono h fun v w' q => hn _ _ (by rw [put_keep ht, hA]) q
    all_goals exact h
  | halt x w =>
    cases x
    case panic v => exact hQ _ _ _ (.inr hA) h
    all_goals exact h
theorem wpOps_keep {t : Nat} {v0 : Option Value} {QW : Exit → Act → World → Prop} (hd : ∀ (i : Nat) (o : Oper), ops[i]? = some o → o.dst ≠ some t) : ∀ (l : List Nat) (A : Act) (w : World), A.tmps[t]? = v0 → wpOps P ops QW l A w → wpOps P ops (fun e a w => QW e a w ∧ (e = .outgrown ∨ a.tmps[t]? = v0)) l A w
  | [], A, w, hA, h => ⟨h, .inr hA⟩
  | i :: rest, A, w, hA, h => by
    unfold wpOps at h ⊢
    cases ho : ops[i]? with
    | none => rw [ho] at h; exact wpOps_keep hd rest A w hA h
    | some o =>
      rw [ho] at h
      simp only at h ⊢
      have hdo := hd i o ho
      split
      · rename_i hw
        rw [if_pos hw] at h
        rcases h with h | ⟨h1, a, w', h2⟩
        · exact .inl (upon_keep hdo hA (fun a w ha q => wpOps_keep hd rest a w ha q) (fun e a w he q => ⟨q, he⟩) h)
        · exact .inr ⟨h1, a, w', h2, .inl rfl⟩
      · rename_i hw
        rw [if_neg hw] at h
        exact wpOps_keep hd rest _ w (by rw [put_keep hdo, hA]) h
end
end Go.Proofs.Ytciciaikajdenaa
/- N11: the closure that guarded defers. -/
set_option linter.unusedSimpArgs false
set_option linter.unusedVariables false
namespace Go.Proofs.Ytciciaikajdenaa
open Go.RowKit

def endQ (N : List AObj → Prop) : Exit → Fr → List AObj → Prop
  | .normal, _, σ => N σ
  | .ret, _, σ => N σ
  | _, _, _ => False
noncomputable def cat1 : Option Code := match Try.f122.body with
  | some c => findW 1 c
  | none => none
def zero66 : List AV := [.d (.v (.int .u8 0)), .d (.v (.int .i64 0)), .d (.v (.string ⟨#[]⟩)), .d .nil]
theorem badH : Try.prog.underlying 20 = some (.interface (Try.prog.methodsAt 20)) := by kernel_rfl
theorem badU : (match Try.prog.underlying 180 with | some (.interface _) => false | some _ => true | none => false) = true := by kernel_rfl
theorem badD (e : Int) : ∀ F, DRep F (.agg [.v (.int .i64 e)]) (.agg #[.int .i64 e]) := fun F => ⟨_, rfl, ⟨_, _, rfl, ⟨rfl, rfl⟩, rfl⟩, by simp [Value.oneCell']⟩
section
variable {σ : List AObj} {l4 l5 : Nat} {e : Int}
/-- What the closure leaves, behind a panic. -/
def CatP (T0 : TypeId) (zero : List AV) (l4 l5 : Nat) (e : Int) (σ : List AObj) : List AObj → Prop := fun σ' => σ'[l4]? = some (.row T0 zero) ∧ σ'[l5]? = some (.row 26 [.d (.v (.int .i64 e))]) ∧ KeptP (fun k => k ≠ l4 ∧ k ≠ l5) σ σ'
set_option maxRecDepth 100000 in
set_option maxHeartbeats 8000000 in
theorem cat_awk (h4 : σ[l4]? = some (.row 66 zero66)) (h5 : σ[l5]? = some (.row 26 [.d (.v (.int .i64 0))])) {X : Code} (hX : cat1 = some X) :
    AWk Try.prog 20 X (endQ (CatP 66 zero66 l4 l5 e σ)) [(0, .ptr l4 0 0), (1, .ptr l5 0 0), (2, .d (.v (badV e)))] σ := by
  have hK := KeptP.refl (fun k => k ≠ l4 ∧ k ≠ l5) σ
  have n45 : l4 ≠ l5 := fun h => by rw [h, h5] at h4; cases h4
  have o4 : OutP (fun k => k ≠ l4 ∧ k ≠ l5) σ l4 := fun _ h => absurd rfl h.1
  have o5 : OutP (fun k => k ≠ l4 ∧ k ≠ l5) σ l5 := fun _ h => absurd rfl h.2
  unfold zero66 at h4 ⊢
  unfold badV
  cases hX
  repeat' (first | refine s_op rfl ?_ | (apply s_move; (iterate 4 (exact rfl))) | (apply s_fa_p tab_ok; (iterate 5 (exact rfl))) | (apply s_assign; (iterate 4 (exact rfl))) | (apply s_ext; (iterate 5 (exact rfl))) | (apply s_not_t; (iterate 4 (exact rfl))) | (apply s_held badH; (iterate 4 (exact rfl))) | (apply s_assertOk badU; (iterate 4 (exact rfl)); exact badD _) | (apply s_allocF tabZ_ok (d := 3); (iterate 6 (exact rfl)); intro locY σ hc; have hY := hc.at'; have n4Y := hc.ne h4; replace h4 := hc.keep h4; have n5Y := hc.ne h5; replace h5 := hc.keep h5; have oY := hK.out hc; replace hK := hK.fresh hc; clear hc) | (apply s_allocF tabZ_ok (d := 5); (iterate 6 (exact rfl)); intro locZ σ hc; have hZ := hc.at'; have n4Z := hc.ne h4; replace h4 := hc.keep h4; have n5Z := hc.ne h5; replace h5 := hc.keep h5; have nYZ := hc.ne hY; replace hY := hc.keep hY; have oZ := hK.out hc; replace hK := hK.fresh hc; clear hc) | (apply s_storeF tab_ok; (iterate 7 (exact rfl)); exact hY; (iterate 2 (exact rfl)); intro σ hc; replace hY := hc.at'; replace h4 := hc.keep (by first | assumption | (apply Ne.symm; assumption) | omega) h4; replace h5 := hc.keep (by first | assumption | (apply Ne.symm; assumption) | omega) h5; replace hK := hK.chg oY hc; clear hc) | (apply s_storeF tab_ok; (iterate 7 (exact rfl)); exact h4; (iterate 2 (exact rfl)); intro σ hc; replace h4 := hc.at'; replace h5 := hc.keep (by first | assumption | (apply Ne.symm; assumption) | omega) h5; replace hY := hc.keep (by first | assumption | (apply Ne.symm; assumption) | omega) hY; replace hZ := hc.keep (by first | assumption | (apply Ne.symm; assumption) | omega) hZ; replace hK := hK.chg o4 hc; clear hc) | (apply s_storeF tab_ok; (iterate 7 (exact rfl)); exact h5; (iterate 2 (exact rfl)); intro σ hc; replace h5 := hc.at'; replace h4 := hc.keep (by first | assumption | (apply Ne.symm; assumption) | omega) h4; replace hY := hc.keep (by first | assumption | (apply Ne.symm; assumption) | omega) hY; replace hZ := hc.keep (by first | assumption | (apply Ne.symm; assumption) | omega) hZ; replace hK := hK.chg o5 hc; clear hc) | (apply s_ldF tab_ok; (iterate 5 (exact rfl)); exact hY; exact rfl) | (apply s_ldF tab_ok; (iterate 5 (exact rfl)); exact hZ; exact rfl) | refine al_nil ?_ | refine q_then_n ?_ | refine aw_seq ?_ | refine aw_reg ?_ | refine aw_false rfl ?_ | refine aw_skip ?_ | refine al_fork ?_ ?_ | refine aw_draws (id := 6) (trO [0, 1] (.fork 2 (trO [3, 4] .nil) 3 (trO [2, 4] .nil))) [2, 3, 4] [3, 4] mixed_ok (by kernel_rfl) ?_)
  all_goals exact ⟨h4, h5, hK⟩
set_option maxRecDepth 100000 in
set_option maxHeartbeats 8000000 in
theorem idle_awk {X : Code} (hX : cat1 = some X) :
    AWk Try.prog 20 X (endQ (· = σ)) [(0, .ptr l4 0 0), (1, .ptr l5 0 0), (2, .d (.v .nilIface))] σ := by
  cases hX
  repeat' (first | refine s_op rfl ?_ | (apply s_move; (iterate 4 (exact rfl))) | (apply s_nils badH; (iterate 4 (exact rfl))) | refine al_nil ?_ | refine q_then_n ?_ | refine q_then_r ?_ | refine aw_seq ?_ | refine aw_reg ?_ | refine aw_true rfl ?_ | refine aw_ret ?_)
  all_goals exact rfl
end
/-- What a closure's contract says, of the memory. -/
def MemX (B : Base) (R : Frag) (x : Ctx) (N : List AObj → Prop) (w' : World) : Prop := ∃ x' σ', CtxExt x x' ∧ Heap x' σ' R w' ∧ Calm B w' ∧ N σ'
section
variable {σ : List AObj} {l4 l5 : Nat} {e : Int} {B : Base} {R : Frag} {x : Ctx} {w : World} {q4 q5 : Addr}
set_option maxRecDepth 100000 in
set_option maxHeartbeats 8000000 in
theorem cat_panic (hh : Heap x σ R w) (hc : Calm B w) (r4 : ARep x (.ptr l4 0 0) (.pointer (some q4))) (r5 : ARep x (.ptr l5 0 0) (.pointer (some q5))) (h4 : σ[l4]? = some (.row 66 zero66)) (h5 : σ[l5]? = some (.row 26 [.d (.v (.int .i64 0))])) :
    CallsD Try.prog 122 #[.pointer (some q4), .pointer (some q5)] (.panicking (chainOf (badV e))) w fun en u' w' => en = .returned (.tuple #[]) ∧ u' = .panicking [{ v := badV e, recovered := true }] ∧ MemX B R x (CatP 66 zero66 l4 l5 e σ) w' := by
  refine callsD_of_wpS Try.func122 rfl fun c₀ cs hu => ?_
  apply wpS_seq
  apply wpS_region
  unfold chainOf at hu
  simp [wpOpsS, go_sem, recoverD, hu, Try.ntmps122, Exit.thenS]
  refine wpS_of_wp ?_
  refine wp_mono ((cat_awk (e := e) h4 h5 rfl).out ⟨B, R, []⟩ x _ w ?_) ?_
  · refine ⟨by simp, rfl, fun i => ?_, hh, hc⟩
    match i with
    | 0 => exact (show ARep x (.ptr l4 0 0) _ from by simpa using r4)
    | 1 => exact (show ARep x (.ptr l5 0 0) _ from by simpa using r5)
    | 2 => exact ⟨by simp, rfl⟩
    | n + 3 => exact trivial
  · intro en A w' p
    cases en with
    | normal =>
      obtain ⟨x', fr, σ', hx, hs, hN⟩ := p
      exact ⟨hs.defers, _, rfl, .tuple #[], by simp [results, Try.results122], rfl, rfl, x', σ', hx, hs.heap, hs.calm, hN⟩
    | ret =>
      obtain ⟨x', fr, σ', hx, hs, hN⟩ := p
      exact ⟨hs.defers, _, rfl, .tuple #[], by simp [results, Try.results122], rfl, rfl, x', σ', hx, hs.heap, hs.calm, hN⟩
    | exit i => obtain ⟨x', fr, σ', hx, hs, hN⟩ := p; exact hN.elim
    | goto i => obtain ⟨x', fr, σ', hx, hs, hN⟩ := p; exact hN.elim
    | panic ch => obtain ⟨_, x', σ', hx, _, _, hN⟩ := p; exact hN.elim
    | outgrown => exact p.elim
set_option maxRecDepth 100000 in
set_option maxHeartbeats 8000000 in
theorem cat_idle (hh : Heap x σ R w) (hc : Calm B w) (r4 : ARep x (.ptr l4 0 0) (.pointer (some q4))) (r5 : ARep x (.ptr l5 0 0) (.pointer (some q5))) :
    CallsD Try.prog 122 #[.pointer (some q4), .pointer (some q5)] .returning w fun en u' w' => en = .returned (.tuple #[]) ∧ u' = .returning ∧ MemX B R x (· = σ) w' := by
  refine callsD_of_wpS Try.func122 rfl fun c₀ cs hu => ?_
  apply wpS_seq
  apply wpS_region
  simp [wpOpsS, go_sem, recoverD, hu, Try.ntmps122, Exit.thenS]
  refine wpS_of_wp ?_
  refine wp_mono ((idle_awk (σ := σ) (l4 := l4) (l5 := l5) rfl).out ⟨B, R, []⟩ x _ w ?_) ?_
  · refine ⟨by simp, rfl, fun i => ?_, hh, hc⟩
    match i with
    | 0 => exact (show ARep x (.ptr l4 0 0) _ from by simpa using r4)
    | 1 => exact (show ARep x (.ptr l5 0 0) _ from by simpa using r5)
    | 2 => exact ⟨by simp, rfl⟩
    | n + 3 => exact trivial
  · intro en A w' p
    cases en with
    | normal =>
      obtain ⟨x', fr, σ', hx, hs, hN⟩ := p
      exact ⟨hs.defers, _, by rw [← hu], .tuple #[], by simp [results, Try.results122], rfl, rfl, x', σ', hx, hs.heap, hs.calm, hN⟩
    | ret =>
      obtain ⟨x', fr, σ', hx, hs, hN⟩ := p
      exact ⟨hs.defers, _, by rw [← hu], .tuple #[], by simp [results, Try.results122], rfl, rfl, x', σ', hx, hs.heap, hs.calm, hN⟩
    | exit i => obtain ⟨x', fr, σ', hx, hs, hN⟩ := p; exact hN.elim
    | goto i => obtain ⟨x', fr, σ', hx, hs, hN⟩ := p; exact hN.elim
    | panic ch => obtain ⟨_, x', σ', hx, _, _, hN⟩ := p; exact hN.elim
    | outgrown => exact p.elim
end
end Go.Proofs.Ytciciaikajdenaa
