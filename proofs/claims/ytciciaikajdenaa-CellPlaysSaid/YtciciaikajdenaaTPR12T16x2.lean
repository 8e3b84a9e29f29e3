/- T16: slices compared with nil: a list that is not empty, an owned one; a region that defers a call of two pointers. -/
import Derived.Test.YtciciaikajdenaaTPR12T15
set_option linter.unusedSimpArgs false
set_option linter.unusedVariables false
namespace Go.Proofs.Ytciciaikajdenaa
open Go.RowKit

section
variable {P : Program} {T : Tab} {nt : Nat} {Q : Exit → Fr → List AObj → Prop} {fr : Fr} {σ : List AObj} {ops : Array Oper} {dr : Bool} {dos ends : List Nat} {l : Trr} {o : Oper} {i d : Nat}
variable {ty : TypeId} {pos : String} {aft : Array Edge} {gd : Option (Nat × Bool)}
theorem run_slice_eqnil (w : World) {t e : TypeId} {a : Option Addr} {n c : Nat} (hu : P.underlying t = some (.slice e)) : (binOp .eql t (.slice a n c) (.slice none 0 0)).run P w = .ok (.bool a.isNone) w := by
  have h : ∀ d : Nat, (Op.equalIn (d + 1) t (.slice a n c) (.slice none 0 0)).run P w = .ok a.isNone w := fun d => by cases a <;> simp [Op.equalIn, run_underlying hu]
  simp only [binOp]
  simp [Op.equal, Op.maxDepth, h 9999]
/-- A list that is not empty is not nil. -/
theorem s_nilL {t t' e : TypeId} {a : Operand} {sz : Nat} {r : List DV} {rows : List (List DV)} (hu : P.underlying t = some (.slice e)) (hp : (dr && !dos.contains i) = false) (hg : guardB ops fr gd = some true) (hk : (dr && !ends.contains i && !true) = false) (ht : Nat.blt d nt = true) (ha : aget fr a = .d (.lst sz (r :: rows)))
    (h : AL P nt ops dr dos ends l Q ((d, .d (.v (.bool false))) :: fr) σ) : ALo P nt ops dr dos ends i ⟨some d, .binOp .eql t a (.const (.slice none 0 0)) t', ty, pos, aft, gd⟩ l Q fr σ := by
  refine ⟨fun ho => s_do (keep := true) ho hp hg hk ?_⟩
  refine do_value (o := ⟨some d, .binOp .eql t a (.const (.slice none 0 0)) t', ty, pos, aft, gd⟩) ht (fun v σ' => v = .d (.v (.bool false)) ∧ σ' = σ) (fun v σ' ⟨e1, e2⟩ => e1 ▸ e2 ▸ h) fun k x A w s => ?_
  have h1 := s.arg a
  rw [ha] at h1
  obtain ⟨ad, cap, e1, hc, h2⟩ := h1
  have hs : ∃ b off, ad = some ⟨b, off, none⟩ := by
    rcases h2 with h2 | ⟨b, off, h2, _⟩
    · cases h2
    · exact ⟨b, off, h2⟩
  obtain ⟨b, off, rfl⟩ := hs
  have e2 : A.eval (.const (.slice none 0 0)) = .slice none 0 0 := rfl
  refine ⟨.bool false, w, x, .d (.v (.bool false)), σ, ?_, .refl x, ⟨rfl, rfl⟩, s.heap, s.calm, fun _ => Agree.refl w, rfl, rfl⟩
  unfold execOp
  simp [e1, e2, eqGuard, run_slice_eqnil w hu]
/-- An owned slice that is nil has nothing. -/
theorem s_nilO {t t' e : TypeId} {a : Operand} {loc ver sz off n U : Nat} {rows : List (List DV)} (hu : P.underlying t = some (.slice e)) (hp : (dr && !dos.contains i) = false) (hg : guardB ops fr gd = some true) (hk : (dr && !ends.contains i && !true) = false) (ht : Nat.blt d nt = true) (ha : aget fr a = .own loc ver sz off n) (hl : σ[loc]? = some (.arr U sz ver rows))
    (h : ∀ b : Bool, (b = true → n = 0) → AL P nt ops dr dos ends l Q ((d, .d (.v (.bool b))) :: fr) σ) : ALo P nt ops dr dos ends i ⟨some d, .binOp .eql t a (.const (.slice none 0 0)) t', ty, pos, aft, gd⟩ l Q fr σ := by
  refine ⟨fun ho => s_do (keep := true) ho hp hg hk ?_⟩
  refine do_value (o := ⟨some d, .binOp .eql t a (.const (.slice none 0 0)) t', ty, pos, aft, gd⟩) ht (fun v σ' => ∃ b : Bool, v = .d (.v (.bool b)) ∧ (b = true → n = 0) ∧ σ' = σ) (fun v σ' ⟨b, e1, e2, e3⟩ => e1 ▸ e3 ▸ h b e2) fun k x A w s => ?_
  have h1 := s.arg a
  rw [ha] at h1
  obtain ⟨ad, cap, e1, hcap, q2, q3, hl1, hver⟩ := own_now s hl h1
  have e2 : A.eval (.const (.slice none 0 0)) = .slice none 0 0 := rfl
  have hb : ad.isNone = true → n = 0 := fun hn => by
    cases hlv : (x.env loc).live with
    | true =>
      obtain ⟨q4, _⟩ := q2 hlv
      subst q4
      cases hn
    | false => have := q3 hlv; omega
  refine ⟨.bool ad.isNone, w, x, .d (.v (.bool ad.isNone)), σ, ?_, .refl x, ⟨rfl, rfl⟩, s.heap, s.calm, fun _ => Agree.refl w, ad.isNone, rfl, hb, rfl⟩
  unfold execOp
  simp [e1, e2, eqGuard, run_slice_eqnil w hu]
/-- The region that defers a call of a function, of two pointers. -/
theorem wp_defers2 {id g : Nat} {b : Code} {k : K0} {x : Ctx} {A : Act} {w : World} {QW : Exit → Act → World → Prop} {t9 a4 a5 l4 l5 : Nat} {ty1 ty2 : TypeId} {p1 p2 : String} {af1 af2 : Array Edge} {tys : Array TypeId} (s : Sim k x nt fr σ A w) (h9 : t9 < nt) (h94 : t9 ≠ a5) (h4 : fget fr a4 = .ptr l4 0 0) (h5 : fget fr a5 = .ptr l5 0 0)
    (hb : ∀ (A' : Act) (q4 q5 : Addr) (d : Deferred), d.target = .fn (.func g) #[] → d.args = #[.pointer (some q4), .pointer (some q5)] → ARep x (.ptr l4 0 0) (.pointer (some q4)) → ARep x (.ptr l5 0 0) (.pointer (some q5)) → Sim ⟨k.B, k.R, d :: k.ds⟩ x nt ((t9, .any) :: fr) σ A' w → b.wp P QW A' w) :
    (Code.seq (.region id #[⟨some t9, .move (.tmp a4), ty1, p1, af1, none⟩, ⟨none, .defer { callee := .value (.func g), args := #[.tmp t9, .tmp a5], argTypes := tys }, ty2, p2, af2, none⟩] false) b).wp P QW A w := by
  have r4 := s.tmps a4
  have r5 := s.tmps a5
  rw [h4] at r4
  rw [h5] at r5
  have r4' := r4
  have r5' := r5
  obtain ⟨_, _, q4, e4, _⟩ := r4
  obtain ⟨_, _, q5, e5, _⟩ := r5
  rw [e4] at r4'
  rw [e5] at r5'
  have hsz : t9 < A.tmps.size := by rw [s.size]; exact h9
  have e4' : A.eval (.tmp a4) = .pointer (some q4) := e4
  have e5' : A.eval (.tmp a5) = .pointer (some q5) := e5
  have run1 : (execOp A.eval ⟨some t9, .move (.tmp a4), ty1, p1, af1, none⟩).run P w = .ok (.value (.pointer (some q4))) w := by
    unfold execOp
    simp [e4']
  have e9 : (A.put (some t9) (.pointer (some q4))).eval (.tmp t9) = .pointer (some q4) := by
    show (A.tmps.setIfInBounds t9 (.pointer (some q4))).getD t9 undef = _
    simp [Array.getD_eq_getD_getElem?, hsz]
  have e95 : (A.put (some t9) (.pointer (some q4))).eval (.tmp a5) = .pointer (some q5) := by
    show (A.tmps.setIfInBounds t9 (.pointer (some q4))).getD a5 undef = _
    have : A.tmps.getD a5 undef = .pointer (some q5) := e5
    simpa [Array.getD_eq_getD_getElem?, Array.getElem?_setIfInBounds, h94] using this
  have run2 : (execOp (A.put (some t9) (.pointer (some q4))).eval ⟨none, .defer { callee := .value (.func g), args := #[.tmp t9, .tmp a5], argTypes := tys }, ty2, p2, af2, none⟩).run P w = .ok (.defer { target := .fn (.func g) #[], args := #[.pointer (some q4), .pointer (some q5)] }) w := by
    have ef : (A.put (some t9) (.pointer (some q4))).eval (.func g) = .func (.func g) #[] #[] := rfl
    unfold execOp
    simp [resolve, ef, e9, e95, Deferred.ofValue]
  refine wp_seq (wp_region ?_)
  change wpOps P _ _ [0, 1] _ _
  refine wpOps_one (o := ⟨some t9, .move (.tmp a4), ty1, p1, af1, none⟩) rfl rfl ?_
  unfold Oper.wp
  rw [run1, Oper.upon_value]
  refine wpOps_one (o := ⟨none, .defer { callee := .value (.func g), args := #[.tmp t9, .tmp a5], argTypes := tys }, ty2, p2, af2, none⟩) rfl rfl ?_
  unfold Oper.wp
  rw [run2, Oper.upon_defer]
  refine hb { tmps := A.tmps.setIfInBounds t9 (.pointer (some q4)), defers := { target := .fn (.func g) #[], args := #[.pointer (some q4), .pointer (some q5)] } :: A.defers } q4 q5 _ rfl rfl r4' r5' ⟨by simp [s.size], by rw [s.defers], fun i => ?_, s.heap, s.calm⟩
  by_cases e : t9 = i
  · subst e; rw [fget_cons_self]; exact trivial
  · rw [fget_cons_ne _ _ e]
    have := s.tmps i
    simpa [Array.getD_eq_getD_getElem?, Array.getElem?_setIfInBounds, e] using this
end
end Go.Proofs.Ytciciaikajdenaa
/- T17: the world of one file, natively: find, Drop, Handles, Trace, goes, IndexFunc. -/
set_option linter.unusedSimpArgs false
set_option linter.unusedVariables false
namespace Go.Proofs.Ytciciaikajdenaa
open Go.RowKit

structure WQ where
  p : Nat
  h : Nat
  t : Nat
structure WQ.Ok (q : WQ) : Prop where
  ph : q.p ≠ q.h
  pt : q.p ≠ q.t
  ht : q.h ≠ q.t
def hRow (b : Bool) : List DV := [.v (.int .i64 0), .v (.int .i64 0), .v (.bool b)]
def hRows (l : List Bool) : List (List DV) := l.map hRow
def oRow (i : Nat) : List DV := [.v (.int .u8 1), .v (.int .i64 (i : Int)), .v (.string ⟨#[97]⟩), .v (.string ⟨#[]⟩), .v (.bool true)]
def oRows (n : Nat) : List (List DV) := (List.range n).map oRow
theorem hRows_len (l : List Bool) : (hRows l).length = l.length := by simp [hRows]
theorem oRows_len (n : Nat) : (oRows n).length = n := by simp [oRows]
theorem hRows_get {l : List Bool} {j : Nat} {b : Bool} (h : l[j]? = some b) : (hRows l)[j]? = some [DV.v (.int .i64 0), DV.v (.int .i64 0), DV.v (.bool b)] := row_map (f := hRow) h
theorem hRows_set (l : List Bool) (j : Nat) (b : Bool) : (hRows l).set j (hRow b) = hRows (l.set j b) := by simp [hRows, List.map_set]
theorem oRows_succ (n : Nat) : oRows n ++ [oRow n] = oRows (n + 1) := by simp [oRows, List.range_succ]
/-- The world of one file, in memory: which handles are shut. -/
structure PW (σ : List AObj) (q : WQ) (hs : List Bool) : Prop where
  ok : q.Ok
  at' : ∃ (vh vt : Nat), σ[q.p]? = some (.row 137 [.d (.lst 2 [[DV.v (.string ⟨#[97]⟩), DV.v (.string ⟨#[98]⟩)]]), .d (.lst 1 []), .own q.h vh 3 0 hs.length, .own q.t vt 5 0 hs.length]) ∧ σ[q.h]? = some (.arr 171 3 vh (hRows hs)) ∧ σ[q.t]? = some (.arr 154 5 vt (oRows hs.length))
def NotW (q : WQ) (k : Nat) : Prop := k ≠ q.p ∧ k ≠ q.h ∧ k ≠ q.t
theorem PW.keepP {σ σ' : List AObj} {q : WQ} {hs : List Bool} {p : Nat → Prop} (h : PW σ q hs) (k : KeptP p σ σ') (h1 : p q.p) (h2 : p q.h) (h3 : p q.t) : PW σ' q hs := by
  obtain ⟨vh, vt, a, b, c⟩ := h.at'
  exact ⟨h.ok, vh, vt, k _ _ h1 a, k _ _ h2 b, k _ _ h3 c⟩
theorem PW.keep {σ σ' : List AObj} {q : WQ} {hs : List Bool} (h : PW σ q hs) (k : KeptP (fun _ => True) σ σ') : PW σ' q hs := h.keepP k trivial trivial trivial
/-- Why a handle can't be used. -/
def wrongW (hs : List Bool) (n : Int) : Int := if n < 0 ∨ (hs.length : Int) ≤ n then 4 else match hs[n.toNat]? with
  | some true => 220
  | some false => 0
  | none => 4
def dropW (hs : List Bool) (n : Int) : List Bool := if wrongW hs n = 0 then hs.set n.toNat true else hs
theorem dropW_len (hs : List Bool) (n : Int) : (dropW hs n).length = hs.length := by
  unfold dropW
  split <;> simp
section
variable {σ : List AObj} {q : WQ} {hs : List Bool} {vh vt : Nat}
set_option maxRecDepth 100000 in
set_option maxHeartbeats 8000000 in
theorem find_w (hP : σ[q.p]? = some (.row 137 [.d (.lst 2 [[DV.v (.string ⟨#[97]⟩), DV.v (.string ⟨#[98]⟩)]]), .d (.lst 1 []), .own q.h vh 3 0 hs.length, .own q.t vt 5 0 hs.length])) (hH : σ[q.h]? = some (.arr 171 3 vh (hRows hs))) (hl : hs.length ≤ 1000000) (n : Int) :
    Runs Try.prog 125 [.ptr q.p 0 0, .d (.v (.int .i64 n))] σ (fun r σ' => σ' = σ ∧ ((wrongW hs n ≠ 0 ∧ r = .d (.tup [.v (.pointer none), .v (.int .i64 (wrongW hs n))])) ∨ (∃ j : Nat, n = (j : Int) ∧ hs[j]? = some false ∧ wrongW hs n = 0 ∧ r = .tup [.ptr q.h vh (j * 3), .d (.v (.int .i64 0))]))) := by
  have e1 := hRows_len hs
  by_cases h0 : n < 0
  · have hw : wrongW hs n = 4 := by unfold wrongW; rw [if_pos (.inl h0)]
    rw [hw]
    refine enterB 36 tab_ok Try.func125 rfl (by kernel_rfl) rfl rfl rfl ?_
    repeat' (first | refine s_op rfl ?_ | (apply s_skipV; (iterate 2 (exact rfl))) | (apply s_move; (iterate 4 (exact rfl))) | (apply s_assign; (iterate 4 (exact rfl))) | (apply s_pick_t; (iterate 5 (exact rfl))) | (apply s_lss_t; (iterate 5 (exact rfl)); omega) | (apply s_ptrNil ptr68; (iterate 4 (exact rfl))) | refine al_nil ?_ | refine q_then_n ?_ | refine q_blk_r ?_ | refine aw_block ?_ | refine q_then_r ?_ | refine aw_seq ?_ | refine aw_reg ?_ | refine aw_true rfl ?_ | refine aw_false rfl ?_ | refine aw_ret ?_)
    all_goals exact q_retB (resB_2 rfl (resV_t rfl) (resV_t rfl) rfl) ⟨rfl, .inl ⟨by decide, rfl⟩⟩
  · obtain ⟨j, rfl⟩ : ∃ j : Nat, n = (j : Int) := ⟨n.toNat, by omega⟩
    by_cases hlt : hs.length ≤ j
    · have hw : wrongW hs (j : Int) = 4 := by unfold wrongW; rw [if_pos (.inr (by omega))]
      rw [hw]
      refine enterB 36 tab_ok Try.func125 rfl (by kernel_rfl) rfl rfl rfl ?_
      repeat' (first | refine s_op rfl ?_ | (apply s_move; (iterate 4 (exact rfl))) | (apply s_fa_p tab_ok; (iterate 5 (exact rfl))) | (apply s_assign; (iterate 4 (exact rfl))) | (apply s_pick_f; (iterate 5 (exact rfl))) | (apply s_len tab_ok; (iterate 5 (exact rfl))) | (apply s_nilc; (iterate 5 (exact rfl))) | (apply s_lss_f; (iterate 5 (exact rfl)); omega) | (apply s_geq_t; (iterate 5 (exact rfl)); omega) | (apply s_ldF tab_ok; (iterate 5 (exact rfl)); exact hP; exact rfl) | (apply s_ptrNil ptr68; (iterate 4 (exact rfl))) | refine al_nil ?_ | refine q_then_n ?_ | refine q_blk_r ?_ | refine aw_block ?_ | refine q_then_r ?_ | refine aw_seq ?_ | refine aw_reg ?_ | refine aw_true rfl ?_ | refine aw_false rfl ?_ | refine aw_ret ?_)
      all_goals exact q_retB (resB_2 rfl (resV_t rfl) (resV_t rfl) rfl) ⟨rfl, .inl ⟨by decide, rfl⟩⟩
    · obtain ⟨b, hb⟩ := getS (show j < hs.length by omega)
      have hr := hRows_get hb
      cases b with
      | true =>
        have hw : wrongW hs (j : Int) = 220 := by unfold wrongW; rw [if_neg (by omega), Int.toNat_natCast, hb]
        rw [hw]
        refine enterB 36 tab_ok Try.func125 rfl (by kernel_rfl) rfl rfl rfl ?_
        repeat' (first | refine s_op rfl ?_ | (apply s_move; (iterate 4 (exact rfl))) | (apply s_fa_p tab_ok; (iterate 5 (exact rfl))) | (apply s_assign; (iterate 4 (exact rfl))) | (apply s_pick_f; (iterate 5 (exact rfl))) | (apply s_len tab_ok; (iterate 5 (exact rfl))) | (apply s_nilc; (iterate 5 (exact rfl))) | (apply s_lss_f; (iterate 5 (exact rfl)); omega) | (apply s_geq_f; (iterate 5 (exact rfl)); omega) | (apply s_ldF tab_ok; (iterate 5 (exact rfl)); exact hP; exact rfl) | (apply s_ptrNil ptr68; (iterate 4 (exact rfl))) | (apply s_idxO (j * 3) tab_ok; (iterate 7 (exact rfl)); exact hH; exact ⟨by omega, by omega⟩) | (apply s_ldA j 2 tab_ok; (iterate 5 (exact rfl)); exact hH; exact hr; omega; exact rfl) | refine al_nil ?_ | refine q_then_n ?_ | refine q_blk_r ?_ | refine aw_block ?_ | refine q_then_r ?_ | refine aw_seq ?_ | refine aw_reg ?_ | refine aw_true rfl ?_ | refine aw_false rfl ?_ | refine aw_ret ?_)
        all_goals exact q_retB (resB_2 rfl (resV_t rfl) (resV_t rfl) rfl) ⟨rfl, .inl ⟨by decide, rfl⟩⟩
      | false =>
        have hw : wrongW hs (j : Int) = 0 := by unfold wrongW; rw [if_neg (by omega), Int.toNat_natCast, hb]
        rw [hw]
        refine enterB 36 tab_ok Try.func125 rfl (by kernel_rfl) rfl rfl rfl ?_
        repeat' (first | refine s_op rfl ?_ | (apply s_move; (iterate 4 (exact rfl))) | (apply s_fa_p tab_ok; (iterate 5 (exact rfl))) | (apply s_assign; (iterate 4 (exact rfl))) | (apply s_pick_f; (iterate 5 (exact rfl))) | (apply s_len tab_ok; (iterate 5 (exact rfl))) | (apply s_nilc; (iterate 5 (exact rfl))) | (apply s_lss_f; (iterate 5 (exact rfl)); omega) | (apply s_geq_f; (iterate 5 (exact rfl)); omega) | (apply s_ldF tab_ok; (iterate 5 (exact rfl)); exact hP; exact rfl) | (apply s_ptrNil ptr68; (iterate 4 (exact rfl))) | (apply s_idxO (j * 3) tab_ok; (iterate 7 (exact rfl)); exact hH; exact ⟨by omega, by omega⟩) | (apply s_ldA j 2 tab_ok; (iterate 5 (exact rfl)); exact hH; exact hr; omega; exact rfl) | refine al_nil ?_ | refine q_then_n ?_ | refine q_blk_n ?_ | refine aw_block ?_ | refine aw_seq ?_ | refine aw_reg ?_ | refine aw_false rfl ?_ | refine aw_skip ?_ | refine aw_ret ?_)
        all_goals exact q_retB (resB_2 rfl (resV_t rfl) (resV_t rfl) rfl) ⟨rfl, .inr ⟨j, rfl, hb, rfl, rfl⟩⟩
set_option maxRecDepth 100000 in
set_option maxHeartbeats 8000000 in
theorem drop123 (h : PW σ q hs) (hl : hs.length ≤ 1000000) (n : Int) : Runs Try.prog 123 [.ptr q.p 0 0, .d (.v (.int .i64 n))] σ (fun r σ' => r = .d (.v (.int .i64 (wrongW hs n))) ∧ PW σ' q (dropW hs n) ∧ KeptP (NotW q) σ σ') := by
  have hK := KeptP.refl (NotW q) σ
  have hq := h.ok
  obtain ⟨vh, vt, hP, hH, hT⟩ := h.at'
  have hf := find_w hP hH hl n
  have oH : OutP (NotW q) σ q.h := fun _ h => absurd rfl h.2.1
  by_cases hw : wrongW hs n = 0
  · have hd : dropW hs n = hs.set n.toNat true := by unfold dropW; rw [if_pos hw]
    rw [hw] at hf
    rw [hd, hw]
    by_cases hj : ∃ j : Nat, n = (j : Int) ∧ hs[j]? = some false
    · obtain ⟨j, rfl, hb⟩ := hj
      have hr := hRows_get hb
      have hset : (hRows hs).set j (spliceL [DV.v (.int .i64 0), DV.v (.int .i64 0), DV.v (.bool false)] 2 [DV.v (.bool true)]) = hRows (hs.set j true) := hRows_set hs j true
      have hlen : (hs.set j true).length = hs.length := List.length_set
      rw [Int.toNat_natCast]
      replace hf : Runs Try.prog 125 [.ptr q.p 0 0, .d (.v (.int .i64 (j : Int)))] σ (fun r σ' => σ' = σ ∧ r = .tup [.ptr q.h vh (j * 3), .d (.v (.int .i64 0))]) := hf.mono fun r σ' ⟨a, b⟩ => by
        rcases b with ⟨c, _⟩ | ⟨j', e, _, _, e2⟩
        · exact absurd rfl c
        · have : j' = j := by omega
          subst this
          exact ⟨a, e2⟩
      refine enterB 19 tab_ok Try.func123 rfl (by kernel_rfl) rfl rfl rfl ?_
      repeat' (first | refine s_op rfl ?_ | (apply s_move; (iterate 4 (exact rfl))) | (apply s_fa_p tab_ok; (iterate 5 (exact rfl))) | (apply s_assign; (iterate 4 (exact rfl))) | (apply s_ext; (iterate 5 (exact rfl))) | (apply s_nilc; (iterate 5 (exact rfl))) | (apply s_eql_t; (iterate 5 (exact rfl)); omega) | (apply s_callS; (iterate 6 (exact rfl)); exact hf; rintro _ σ2 ⟨rfl, rfl⟩) | (apply s_stA j 2 tab_ok; (iterate 8 (exact rfl)); exact hH; exact hr; omega; omega; exact hset; intro σ hc; replace hH := hc.at'; replace hP := hc.keep hq.ph hP; replace hT := hc.keep hq.ht.symm hT; replace hK := hK.chg oH hc; clear hc) | refine al_nil ?_ | refine q_then_n ?_ | refine aw_seq ?_ | refine aw_reg ?_ | refine aw_true rfl ?_ | refine aw_ret ?_)
      all_goals exact q_retB (resB_1 rfl (resV_t rfl)) ⟨rfl, ⟨hq, vh, vt, by (rw [hlen]; exact hP), hH, by (rw [hlen]; exact hT)⟩, hK⟩
    · exfalso
      apply hj
      unfold wrongW at hw
      split at hw
      · cases hw
      · rename_i h1
        refine ⟨n.toNat, by omega, ?_⟩
        split at hw
        · cases hw
        · rename_i h2; exact h2
        · cases hw
  · have hd : dropW hs n = hs := by unfold dropW; rw [if_neg hw]
    rw [hd]
    replace hf : Runs Try.prog 125 [.ptr q.p 0 0, .d (.v (.int .i64 n))] σ (fun r σ' => σ' = σ ∧ r = .d (.tup [.v (.pointer none), .v (.int .i64 (wrongW hs n))])) := hf.mono fun r σ' ⟨a, b⟩ => by
      rcases b with ⟨_, c⟩ | ⟨j', e, _, e2, _⟩
      · exact ⟨a, c⟩
      · exact absurd e2 hw
    generalize wrongW hs n = e at *
    refine enterB 19 tab_ok Try.func123 rfl (by kernel_rfl) rfl rfl rfl ?_
    repeat' (first | refine s_op rfl ?_ | (apply s_move; (iterate 4 (exact rfl))) | (apply s_assign; (iterate 4 (exact rfl))) | (apply s_ext; (iterate 5 (exact rfl))) | (apply s_eql_f; (iterate 5 (exact rfl)); omega) | (apply s_callS; (iterate 6 (exact rfl)); exact hf; rintro _ σ2 ⟨rfl, rfl⟩) | refine al_nil ?_ | refine q_then_n ?_ | refine aw_seq ?_ | refine aw_reg ?_ | refine aw_false rfl ?_ | refine aw_skip ?_ | refine aw_ret ?_)
    all_goals exact q_retB (resB_1 rfl (resV_t rfl)) ⟨rfl, h, hK⟩
end
end Go.Proofs.Ytciciaikajdenaa
