/- The judgement over a frame of abstract values and owned objects; its rules for control, and the ghost steps. -/
import Derived.Test.YtlpgekodoiioaaaAm2
import Derived.Defers
set_option linter.unusedSimpArgs false
set_option linter.unusedVariables false
namespace Go.Proofs.Ytlpgekodoiioaaa
open Go.RowKit

/-- What stays the same in a whole function. -/
structure K0 where
  B : Base
  R : Frag
  ds : List Deferred

structure Sim (k : K0) (c : Ctx) (nt : Nat) (fr : Fr) (σ : List AObj) (A : Act) (w : World) : Prop where
  size : A.tmps.size = nt
  defers : A.defers = k.ds
  tmps : ∀ i, ARep c (fget fr i) (A.tmps.getD i undef)
  heap : Heap c σ k.R w
  calm : Calm k.B w

def Post (k : K0) (c : Ctx) (nt : Nat) (Q : Exit → Fr → List AObj → Prop) : Exit → Act → World → Prop
  | .panic _, _, _ => False
  | .outgrown, _, _ => False
  | e, A, w => ∃ c' fr σ, CtxExt c c' ∧ Sim k c' nt fr σ A w ∧ Q e fr σ

theorem Post.ext {k : K0} {c c' : Ctx} {nt : Nat} {Q : Exit → Fr → List AObj → Prop} (h : CtxExt c c') {e : Exit} {A : Act} {w : World} (p : Post k c' nt Q e A w) : Post k c nt Q e A w := by
  cases e with
  | panic _ => exact p
  | outgrown => exact p
  | _ => obtain ⟨d, fr, σ, x, y, z⟩ := p; exact ⟨d, fr, σ, h.trans x, y, z⟩

theorem Post.mono {k : K0} {c : Ctx} {nt : Nat} {Q Q' : Exit → Fr → List AObj → Prop} (h : ∀ e fr σ, Q e fr σ → Q' e fr σ) {e : Exit} {A : Act} {w : World} (p : Post k c nt Q e A w) : Post k c nt Q' e A w := by
  cases e with
  | panic _ => exact p
  | outgrown => exact p
  | _ => obtain ⟨d, fr, σ, x, y, z⟩ := p; exact ⟨d, fr, σ, x, y, h _ _ _ z⟩

/-- Code. -/
structure AWk (P : Program) (nt : Nat) (c : Code) (Q : Exit → Fr → List AObj → Prop) (fr : Fr) (σ : List AObj) : Prop where
  out : ∀ k x A w, Sim k x nt fr σ A w → c.wp P (Post k x nt Q) A w

/-- The rest of a region. -/
structure AL (P : Program) (nt : Nat) (ops : Array Oper) (dr : Bool) (dos ends : List Nat) (l : Trr) (Q : Exit → Fr → List AObj → Prop) (fr : Fr) (σ : List AObj) : Prop where
  out : ∀ k x A w, Sim k x nt fr σ A w → walkW P ops (Post k x nt Q) dr dos ends l A w

def thenQ (next : Fr → List AObj → Prop) (Q : Exit → Fr → List AObj → Prop) : Exit → Fr → List AObj → Prop
  | .normal, fr, σ => next fr σ
  | e, fr, σ => Q e fr σ

def blockQ (id : Nat) (Q : Exit → Fr → List AObj → Prop) : Exit → Fr → List AObj → Prop
  | .exit id', fr, σ => if id' = id then Q .normal fr σ else Q (.exit id') fr σ
  | e, fr, σ => Q e fr σ

section
variable {P : Program} {nt : Nat} {Q Q' : Exit → Fr → List AObj → Prop} {fr : Fr} {σ : List AObj} {ops : Array Oper} {dr : Bool} {dos ends : List Nat} {l : Trr}

theorem AWk.mono {c : Code} (h : AWk P nt c Q fr σ) (q : ∀ e fr σ, Q e fr σ → Q' e fr σ) : AWk P nt c Q' fr σ :=
  ⟨fun k x A w s => wp_mono (h.out k x A w s) fun _ _ _ p => p.mono q⟩

theorem upon_mono {Q Q' : Exit → Act → World → Prop} {o : Oper} {a : Act} {next next' : Act → World → Prop} {r : Result Next} (hn : ∀ a w, next a w → next' a w) (hQ : ∀ e a w, Q e a w → Q' e a w) (h : o.upon P a next Q r) : o.upon P a next' Q' r := by
  have hl : LetsOut Q → LetsOut Q' := fun ⟨a, w, q⟩ => ⟨a, w, hQ _ _ _ q⟩
  cases r with
  | ok n w =>
    cases n
    case value v => exact hn _ _ h
    case skip => exact hn _ _ h
    case defer d => exact hn _ _ h
    case enter f args =>
      rw [Oper.upon_enter] at h ⊢
      refine Calls.mono h fun en w' q => ?_
      cases en with
      | returned v => exact hn _ _ q
      | panicked ch => exact hQ _ _ _ q
      | outgrown => exact hl q
    case row f args =>
      rw [Oper.upon_row] at h ⊢
      exact Rows.mono h fun v w' q => hn _ _ q
    all_goals exact h
  | halt x w =>
    cases x
    case panic v => exact hQ _ _ _ h
    all_goals exact h

theorem stepW_mono2 {Q Q' : Exit → Act → World → Prop} (h : ∀ e a w, Q e a w → Q' e a w) {i : Nat} {K K' : Act → World → Prop} (hk : ∀ a w, K a w → K' a w) {a : Act} {w : World} (q : stepW P ops Q dr dos ends i K a w) : stepW P ops Q' dr dos ends i K' a w := by
  have q := stepW_mono hk q
  unfold stepW at q ⊢
  refine q.imp id (fun ⟨d, e⟩ => ⟨d, ?_⟩)
  have hl : LetsOut Q → LetsOut Q' := fun ⟨a, w, q⟩ => ⟨a, w, h _ _ _ q⟩
  unfold wpOp at e ⊢
  cases ho : ops[i]? with
  | none => rw [ho] at e; exact e
  | some o =>
    rw [ho] at e
    simp only at e ⊢
    split
    · rename_i hw
      rw [if_pos hw] at e
      exact e.imp (fun e => upon_mono (fun _ _ q => q) h e) (fun ⟨p, q⟩ => ⟨p, hl q⟩)
    · rename_i hw
      rw [if_neg hw] at e
      exact e

theorem walkW_mono {Q Q' : Exit → Act → World → Prop} (h : ∀ e a w, Q e a w → Q' e a w) : ∀ {l : Trr} {a : Act} {w : World}, walkW P ops Q dr dos ends l a w → walkW P ops Q' dr dos ends l a w
  | .nil, _, _, q => h _ _ _ q
  | .one i r, a, w, q => stepW_mono2 h (fun _ _ q => walkW_mono h q) q
  | .fork i r j s, a, w, q => ⟨stepW_mono2 h (fun _ _ q => walkW_mono h q) q.1, stepW_mono2 h (fun _ _ q => walkW_mono h q) q.2⟩
  | .fork3 i r j s k t, a, w, q => ⟨stepW_mono2 h (fun _ _ q => walkW_mono h q) q.1, stepW_mono2 h (fun _ _ q => walkW_mono h q) q.2.1, stepW_mono2 h (fun _ _ q => walkW_mono h q) q.2.2⟩

theorem walkW_ext {k : K0} {x x' : Ctx} (h : CtxExt x x') {a : Act} {w : World} (q : walkW P ops (Post k x' nt Q) dr dos ends l a w) : walkW P ops (Post k x nt Q) dr dos ends l a w :=
  walkW_mono (fun _ _ _ p => p.ext h) q

theorem aw_seq {a b : Code} (h : AWk P nt a (thenQ (AWk P nt b Q) Q) fr σ) : AWk P nt (.seq a b) Q fr σ := by
  refine ⟨fun k x A w s => ?_⟩
  refine wp_seq (wp_mono (h.out k x A w s) fun e A' w' p => ?_)
  cases e with
  | normal =>
    obtain ⟨d, fr', σ', hx, hs, hq⟩ := p
    exact wp_mono (hq.out k d A' w' hs) fun _ _ _ p => p.ext hx
  | _ => exact p

theorem aw_cond {c : Operand} {a b : Code} {t : Bool} (hc : aget fr c = .d (.v (.bool t))) (ht : t = true → AWk P nt a Q fr σ) (hf : t = false → AWk P nt b Q fr σ) : AWk P nt (.cond c a b) Q fr σ := by
  refine ⟨fun k x A w s => ?_⟩
  have he : A.eval c = .bool t := by
    cases c with
    | tmp i =>
      have := s.tmps i
      simp only [aget] at hc
      rw [hc] at this
      exact this.1
    | const v =>
      simp only [aget] at hc
      cases v <;> simp only [constAV] at hc <;> try cases hc
      · rfl
      · rename_i a l c
        split at hc <;> (try cases hc) <;> rename_i h <;> cases h
      · rename_i cs
        cases hq : cs.toList.all (·.oneCell') <;> rw [hq] at hc <;> cases hc
    | global g => cases hc
    | func f => cases hc
  exact wp_cond_split he (fun e => (ht e).out k x A w s) (fun e => (hf e).out k x A w s)

theorem aw_true {c : Operand} {a b : Code} (hc : aget fr c = .d (.v (.bool true))) (h : AWk P nt a Q fr σ) : AWk P nt (.cond c a b) Q fr σ := aw_cond hc (fun _ => h) (fun e => by cases e)
theorem aw_false {c : Operand} {a b : Code} (hc : aget fr c = .d (.v (.bool false))) (h : AWk P nt b Q fr σ) : AWk P nt (.cond c a b) Q fr σ := aw_cond hc (fun e => by cases e) (fun _ => h)

theorem aw_block {id : Nat} {c : Code} (h : AWk P nt c (blockQ id Q) fr σ) : AWk P nt (.block id c) Q fr σ := by
  refine ⟨fun k x A w s => ?_⟩
  refine wp_block (wp_mono (h.out k x A w s) fun e A' w' p => ?_)
  cases e with
  | exit i =>
    obtain ⟨d, fr', σ', hx, hs, hq⟩ := p
    simp only [blockQ] at hq
    simp only [Exit.inBlock]
    split at hq
    · rename_i e; rw [if_pos e]; exact ⟨d, fr', σ', hx, hs, hq⟩
    · rename_i e; rw [if_neg e]; exact ⟨d, fr', σ', hx, hs, hq⟩
  | _ => exact p

theorem aw_skip (h : Q .normal fr σ) : AWk P nt .skip Q fr σ := ⟨fun k x A w s => wp_skip ⟨x, fr, σ, .refl x, s, h⟩⟩
theorem aw_exit {id : Nat} (h : Q (.exit id) fr σ) : AWk P nt (.exit id) Q fr σ := ⟨fun k x A w s => wp_exit ⟨x, fr, σ, .refl x, s, h⟩⟩
theorem aw_ret (h : Q .ret fr σ) : AWk P nt .ret Q fr σ := ⟨fun k x A w s => wp_ret ⟨x, fr, σ, .refl x, s, h⟩⟩

theorem aw_loop {c : Code} (I : Nat → Fr → List AObj → Prop) {n : Nat} (h0 : I n fr σ)
    (round : ∀ n fr σ, I n fr σ → AWk P nt c (thenQ (fun fr' σ' => ∃ m, m < n ∧ I m fr' σ') Q) fr σ) : AWk P nt (.loop c) Q fr σ := by
  refine ⟨fun k x A w s => ?_⟩
  refine wp_loop_n (fun n a w => ∃ d fr σ, CtxExt x d ∧ Sim k d nt fr σ a w ∧ I n fr σ) ⟨x, fr, σ, .refl x, s, h0⟩ fun n a w ⟨d, fr', σ', hx, hs, hi⟩ => ?_
  refine wp_mono ((round n fr' σ' hi).out k d a w hs) fun e A' w' p => ?_
  cases e with
  | normal =>
    obtain ⟨d', fr2, σ2, hx2, hs2, m, hm, hi2⟩ := p
    exact ⟨m, hm, d', fr2, σ2, hx.trans hx2, hs2, hi2⟩
  | _ => exact Post.ext hx p

theorem aw_region {id : Nat} (h : AL P nt ops false [] [] (trOf (List.range ops.size)) Q fr σ) : AWk P nt (.region id ops false) Q fr σ :=
  ⟨fun k x A w s => wp_region (walkW_ops _ _ _ (h.out k x A w s))⟩

theorem Sim.drew {k : K0} {x : Ctx} {A : Act} {w : World} (s : Sim k x nt fr σ A w) : Sim k x nt fr σ A w.drew :=
  ⟨s.size, s.defers, s.tmps, ⟨s.heap.hF, s.heap.hR, s.heap.n, s.heap.FR, s.heap.own⟩, ⟨s.calm.os, s.calm.tape, s.calm.output⟩⟩

theorem aw_draws {id : Nat} (l : Trr) (dos ends : List Nat) (hm : P.follows .mixedOrders = true) (hB : orderT ops dos ends l = true) (h : AL P nt ops true dos ends l Q fr σ) : AWk P nt (.region id ops true) Q fr σ :=
  ⟨fun k x A w s => wp_region_walk dos ends hm hB (fun c d v a w h => h) (h.out k x A w.drew s.drew)⟩

theorem al_nil (h : Q .normal fr σ) : AL P nt ops dr dos ends .nil Q fr σ := ⟨fun k x A w s => ⟨x, fr, σ, .refl x, s, h⟩⟩

/-- An operation that only reads. -/
def RdOp (P : Program) (o : Oper) (fr : Fr) (σ : List AObj) (v : AV) : Prop :=
  ∀ k x nt A w, Sim k x nt fr σ A w → ∃ u, ARep x v u ∧ ∀ w', Agree w w' → (execOp A.eval o).run P w' = .ok (.value u) w'

def fput (dst : Option Tmp) (v : AV) (fr : Fr) : Fr := match dst with
  | some t => (t, v) :: fr
  | none => fr

def dstOk (dst : Option Tmp) (nt : Nat) : Bool := match dst with
  | some t => Nat.blt t nt
  | none => true

def guardA (ops : Array Oper) (fr : Fr) (o : Oper) : Option Bool := match o.guard with
  | none => some true
  | some (j, want) => match (ops[j]?).bind (·.dst) with
    | some t => match fget fr t with
      | .d (.v (.bool b)) => some (b == want)
      | _ => none
    | none => none

theorem fget_cons_self (t : Nat) (v : AV) (fr : Fr) : fget ((t, v) :: fr) t = v := by simp [fget]
theorem fget_cons_ne {t i : Nat} (v : AV) (fr : Fr) (h : t ≠ i) : fget ((t, v) :: fr) i = fget fr i := by
  have : Nat.beq t i = false := by rw [← Bool.not_eq_true]; exact fun e => h (Nat.eq_of_beq_eq_true e)
  simp [fget, this]

theorem Sim.put {k : K0} {x : Ctx} {A : Act} {w : World} (s : Sim k x nt fr σ A w) {dst : Option Tmp} {v : AV} {u : Value} (hd : dstOk dst nt = true) (h : ARep x v u) : Sim k x nt (fput dst v fr) σ (A.put dst u) w := by
  cases dst with
  | none => exact s
  | some t =>
    have ht : t < A.tmps.size := by rw [s.size]; simpa [dstOk] using hd
    refine ⟨by simp [Act.put, s.size], s.defers, fun i => ?_, s.heap, s.calm⟩
    simp only [Act.put, fput]
    by_cases e : t = i
    · subst e
      rw [fget_cons_self]
      simpa [Array.getD, ht] using h
    · rw [fget_cons_ne _ _ e]
      have := s.tmps i
      simpa [Array.getD_eq_getD_getElem?, Array.getElem?_setIfInBounds, e] using this

theorem Sim.putAny {k : K0} {x : Ctx} {A : Act} {w : World} (s : Sim k x nt fr σ A w) {dst : Option Tmp} {u : Value} : Sim k x nt (fput dst .any fr) σ (A.put dst u) w := by
  cases dst with
  | none => exact s
  | some t =>
    refine ⟨by simp [Act.put, s.size], s.defers, fun i => ?_, s.heap, s.calm⟩
    simp only [Act.put, fput]
    by_cases e : t = i
    · subst e; rw [fget_cons_self]; exact trivial
    · rw [fget_cons_ne _ _ e]
      have := s.tmps i
      simpa [Array.getD_eq_getD_getElem?, Array.getElem?_setIfInBounds, e] using this

theorem guardA_spec {k : K0} {x : Ctx} {A : Act} {w : World} (s : Sim k x nt fr σ A w) {o : Oper} {b : Bool} (h : guardA ops fr o = some b) : Region.wanted o (yielded ops A.tmps) = b := by
  unfold guardA at h
  unfold Region.wanted
  split at h
  · rename_i hg; rw [hg]; simpa using h
  · rename_i j want hg
    rw [hg]
    simp only
    split at h
    · rename_i t ht
      split at h
      · rename_i v hv
        have hs := s.tmps t
        rw [hv] at hs
        obtain ⟨e, _⟩ := hs
        injection h with h
        unfold yielded
        rw [ht]
        simp only [Option.bind_some]
        rw [Array.getD_eq_getD_getElem?] at e
        cases hq : A.tmps[t]? with
        | none => rw [hq] at e; simp [undef] at e
        | some q =>
          rw [hq] at e
          simp only [Option.getD_some] at e
          subst e
          simp only
          rw [← h]
          simp
      · cases h
    · cases h

theorem al_read {i : Nat} {o : Oper} {v : AV} (ho : ops[i]? = some o) (hd : (dr && dos.contains i) = false) (hg : guardA ops fr o = some true) (ht : dstOk o.dst nt = true) (hr : RdOp P o fr σ v)
    (h : AL P nt ops dr dos ends l Q (fput o.dst v fr) σ) : AL P nt ops dr dos ends (.one i l) Q fr σ := by
  refine ⟨fun k x A w s => ?_⟩
  obtain ⟨u, h1, h2⟩ := hr k x nt A w s
  unfold walkW stepW
  exact .inl ⟨hd, o, u, ho, .inl ⟨guardA_spec s hg, h2⟩, h.out k x _ w (s.put ht h1)⟩

theorem al_skip {i : Nat} {o : Oper} (ho : ops[i]? = some o) (hg : guardA ops fr o = some false)
    (h : AL P nt ops dr dos ends l Q (fput o.dst .any fr) σ) : AL P nt ops dr dos ends (.one i l) Q fr σ := by
  refine ⟨fun k x A w s => ?_⟩
  unfold walkW stepW
  cases hd : (dr && dos.contains i) with
  | false => exact .inl ⟨rfl, o, undef, ho, .inr ⟨guardA_spec s hg, rfl⟩, h.out k x _ w s.putAny⟩
  | true =>
    refine .inr ⟨by rw [Bool.and_eq_true] at hd; rw [hd.1, hd.2]; rfl, ?_⟩
    unfold wpOp
    simp only [ho, guardA_spec s hg]
    exact ⟨fun _ => Agree.refl w, h.out k x _ w s.putAny⟩

/-- An operation that does something. -/
def DoOp (P : Program) (nt : Nat) (o : Oper) (fr : Fr) (σ : List AObj) (keep : Bool) (next : Fr → List AObj → Prop) : Prop :=
  ∀ k x A w Q, Sim k x nt fr σ A w → o.wp P A w (fun A' w' => (keep = true → Agree w w') ∧ ∃ x' fr' σ', CtxExt x x' ∧ Sim k x' nt fr' σ' A' w' ∧ next fr' σ') Q

theorem al_do {i : Nat} {o : Oper} {keep : Bool} (ho : ops[i]? = some o) (hd : (dr && !dos.contains i) = false) (hk : (dr && !ends.contains i && !keep) = false) (hg : guardA ops fr o = some true)
    (h : DoOp P nt o fr σ keep (AL P nt ops dr dos ends l Q)) : AL P nt ops dr dos ends (.one i l) Q fr σ := by
  refine ⟨fun k x A w s => ?_⟩
  unfold walkW stepW
  refine .inr ⟨hd, ?_⟩
  have h1 := h k x A w (Post k x nt Q) s
  unfold wpOp
  simp only [ho, guardA_spec s hg, if_true]
  refine .inl ?_
  have key : ∀ A' w', ((keep = true → Agree w w') ∧ ∃ x' fr' σ', CtxExt x x' ∧ Sim k x' nt fr' σ' A' w' ∧ AL P nt ops dr dos ends l Q fr' σ') → ((dr && !ends.contains i) = true → Agree w w') ∧ walkW P ops (Post k x nt Q) dr dos ends l A' w' := by
    rintro A' w' ⟨hkeep, x', fr', σ', hx, hs, hn⟩
    refine ⟨fun hb => hkeep ?_, walkW_ext hx (hn.out k x' A' w' hs)⟩
    rw [hb] at hk
    simpa using hk
  exact upon_mono key (fun _ _ _ q => q) h1

/-- Two that do something, in either order. -/
theorem al_fork {i j : Nat} {r s : Trr} (h1 : AL P nt ops dr dos ends (.one i r) Q fr σ) (h2 : AL P nt ops dr dos ends (.one j s) Q fr σ) : AL P nt ops dr dos ends (.fork i r j s) Q fr σ :=
  ⟨fun k x A w t => ⟨h1.out k x A w t, h2.out k x A w t⟩⟩
theorem al_fork3 {i j m : Nat} {r s t : Trr} (h1 : AL P nt ops dr dos ends (.one i r) Q fr σ) (h2 : AL P nt ops dr dos ends (.one j s) Q fr σ) (h3 : AL P nt ops dr dos ends (.one m t) Q fr σ) : AL P nt ops dr dos ends (.fork3 i r j s m t) Q fr σ :=
  ⟨fun k x A w u => ⟨h1.out k x A w u, h2.out k x A w u, h3.out k x A w u⟩⟩

/-! Ghost steps. -/

/-- A change of view that the memory allows. -/
def Ghost (fr : Fr) (σ : List AObj) (fr' : Fr) (σ' : List AObj) : Prop :=
  ∀ k x nt A w, Sim k x nt fr σ A w → ∃ x', CtxExt x x' ∧ Sim k x' nt fr' σ' A w

theorem aw_ghost {c : Code} {fr' : Fr} {σ' : List AObj} (g : Ghost fr σ fr' σ') (h : AWk P nt c Q fr' σ') : AWk P nt c Q fr σ := by
  refine ⟨fun k x A w s => ?_⟩
  obtain ⟨x', hx, s'⟩ := g k x nt A w s
  exact wp_mono (h.out k x' A w s') fun _ _ _ p => p.ext hx

theorem al_ghost {fr' : Fr} {σ' : List AObj} (g : Ghost fr σ fr' σ') (h : AL P nt ops dr dos ends l Q fr' σ') : AL P nt ops dr dos ends l Q fr σ := by
  refine ⟨fun k x A w s => ?_⟩
  obtain ⟨x', hx, s'⟩ := g k x nt A w s
  exact walkW_ext hx (h.out k x' A w s')

/-- Frames that say less. -/
theorem ghost_frame {fr' : Fr} (h : ∀ i, fget fr' i = fget fr i ∨ fget fr' i = .any) : Ghost fr σ fr' σ := by
  intro k x nt A w s
  refine ⟨x, .refl x, s.size, s.defers, fun i => ?_, s.heap, s.calm⟩
  rcases h i with e | e
  · rw [e]; exact s.tmps i
  · rw [e]; exact trivial

theorem split_fr {t : Nat} {b : Bool} (h : fget fr t = .d (.v (.bool b))) : (t, AV.d (.v (.bool b))) :: fr = (t, fget fr t) :: fr := by rw [h]

theorem ghost_bool {t : Nat} {b : Bool} (h : fget fr t = .d (.v (.bool b))) : Ghost fr σ ((t, .d (.v (.bool b))) :: fr) σ := by
  refine ghost_frame fun i => .inl ?_
  by_cases e : t = i
  · subst e; rw [fget_cons_self, h]
  · rw [fget_cons_ne _ _ e]

theorem al_split {t : Nat} {b : Bool} (h : fget fr t = .d (.v (.bool b))) (ht : b = true → AL P nt ops dr dos ends l Q ((t, .d (.v (.bool true))) :: fr) σ)
    (hf : b = false → AL P nt ops dr dos ends l Q ((t, .d (.v (.bool false))) :: fr) σ) : AL P nt ops dr dos ends l Q fr σ := by
  refine al_ghost (ghost_bool h) ?_
  cases b
  · exact hf rfl
  · exact ht rfl
end

end Go.Proofs.Ytlpgekodoiioaaa
