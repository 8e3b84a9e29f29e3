/- Owned memory: new objects, changed objects, frozen objects; calls. -/
import Derived.Test.YtlpgekodoiioaaaAm3
set_option linter.unusedSimpArgs false
set_option linter.unusedVariables false
namespace Go.Proofs.Ytlpgekodoiioaaa
open Go.RowKit

def Ctx.push (x : Ctx) (s : Slot) : Ctx := ⟨x.F, fun l => if l = x.n then s else x.env l, x.n + 1⟩
def Ctx.upd (x : Ctx) (l : Nat) (s : Slot) : Ctx := ⟨x.F, fun k => if k = l then s else x.env k, x.n⟩
def Ctx.frz (x : Ctx) (F : Frag) : Ctx := ⟨F, x.env, x.n⟩

theorem Ctx.push_ext (x : Ctx) (s : Slot) : CtxExt x (x.push s) := by
  refine ⟨Le.refl _, Nat.le_succ _, fun l hl => ?_, fun l hl _ => ?_⟩
  · simp [Ctx.push, Nat.ne_of_lt hl]
  · simp [Ctx.push, Nat.ne_of_lt hl]
theorem Ctx.upd_ext {x : Ctx} {l : Nat} {s : Slot} (hv : (x.env l).ver ≤ s.ver) (he : s.ver = (x.env l).ver → s.blk = (x.env l).blk ∧ s.cap = (x.env l).cap ∧ s.live = (x.env l).live) : CtxExt x (x.upd l s) := by
  refine ⟨Le.refl _, Nat.le_refl _, fun k hk => ?_, fun k hk => ?_⟩
  · simp only [Ctx.upd]; split
    · rename_i e; rw [e]; exact hv
    · exact Nat.le_refl _
  · simp only [Ctx.upd]; split
    · rename_i e; rw [e]; exact he
    · exact fun _ => ⟨rfl, rfl, rfl⟩
theorem Ctx.frz_ext {x : Ctx} {F : Frag} (h : Le x.F F) : CtxExt x (x.frz F) := ⟨h, Nat.le_refl _, fun _ _ => Nat.le_refl _, fun _ _ _ => ⟨rfl, rfl, rfl⟩⟩

theorem heap_lt {w : World} {f : Frag} (h : Le f (fun b => w.heap[b]?)) {b : Nat} {o : Obj} (e : f b = some o) : b < w.heap.size := (Array.getElem?_eq_some_iff.1 (h _ _ e)).1

theorem agree_alloc (w : World) (o : Obj) : Agree w (w.alloc o) := fun b hb => Below.heap_alloc w o b hb

theorem Calm.alloc {B : Base} {w : World} (h : Calm B w) (o : Obj) : Calm B (w.alloc o) := ⟨h.os, h.tape, h.output⟩

def oneFrag (b : Nat) (o : Obj) : Frag := fun k => if k = b then some o else none

theorem Le.agree {w w' : World} {f : Frag} (h : Le f (fun b => w.heap[b]?)) (a : Agree w w') : Le f (fun b => w'.heap[b]?) := fun b o e => a.get (h b o e)

theorem Heap.new {x : Ctx} {σ : List AObj} {R : Frag} {w : World} (h : Heap x σ R w) {s : Slot} {o : AObj} {ob : Obj} (ho : ORep (x.push s) s o (oneFrag w.heap.size ob)) : Heap (x.push s) (σ ++ [o]) R (w.alloc ob) := by
  obtain ⟨g, g1, g2, g3, g4⟩ := h.own
  have ag := agree_alloc w ob
  have out : ∀ f : Frag, Le f (fun b => w.heap[b]?) → Disj (oneFrag w.heap.size ob) f := fun f hf b => by
    by_cases e : b = w.heap.size
    · right
      cases hb : f b with
      | none => rfl
      | some o => have := heap_lt hf hb; omega
    · left; simp [oneFrag, e]
  refine ⟨h.hF.agree ag, h.hR.agree ag, by simp [Ctx.push, h.n], h.FR, fun l => if l = x.n then oneFrag w.heap.size ob else g l, fun l o' hl => ?_, fun l => ?_, fun l k hlk => ?_, fun l => ?_⟩
  · by_cases e : l = x.n
    · subst e
      rw [h.n, List.getElem?_concat_length] at hl
      injection hl with hl
      subst hl
      (try dsimp only)
      rw [if_pos rfl]
      have : (x.push s).env x.n = s := by simp [Ctx.push]
      rw [this]; exact ho
    · have hlt : l < σ.length := by
        have := (List.getElem?_eq_some_iff.1 hl).1
        simp at this
        rw [h.n] at e
        omega
      rw [List.getElem?_append_left hlt] at hl
      (try dsimp only)
      rw [if_neg e]
      have : (x.push s).env l = x.env l := by simp [Ctx.push, e]
      rw [this]
      exact (g1 l o' hl).ext (x.push_ext s)
  · (try dsimp only)
    split
    · intro b o' e
      simp only [oneFrag] at e
      split at e
      · rename_i hb; injection e with e; subst hb e; exact heap_alloc_new w ob
      · cases e
    · exact (g2 l).agree ag
  · (try dsimp only)
    split
    · rename_i e
      rw [if_neg (by omega)]
      exact out _ (g2 k)
    · (try dsimp only)
      split
      · exact (out _ (g2 l)).symm
      · exact g3 l k hlk
  · (try dsimp only)
    split
    · exact ⟨out _ h.hF, out _ h.hR⟩
    · exact g4 l

/-- An owned object changes. -/
theorem Heap.upd {x : Ctx} {σ : List AObj} {R : Frag} {w w' : World} (h : Heap x σ R w) {l : Nat} {o o' : AObj} (hl : σ[l]? = some o) {s : Slot} (hx : CtxExt x (x.upd l s))
    (hc : ∀ g0, ORep x (x.env l) o g0 → Le g0 (fun b => w.heap[b]?) → (∃ g1, ORep (x.upd l s) s o' g1 ∧ Le g1 (fun b => w'.heap[b]?) ∧ (∀ b, g1 b ≠ none → g0 b ≠ none ∨ w.heap.size ≤ b)) ∧ ∀ b, g0 b = none → b < w.heap.size → w'.heap[b]? = w.heap[b]?) : Heap (x.upd l s) (σ.set l o') R w' := by
  obtain ⟨g, g1, g2, g3, g4⟩ := h.own
  obtain ⟨⟨f, f1, f2, f3⟩, hk⟩ := hc (g l) (g1 l o hl) (g2 l)
  have keep : ∀ k : Frag, Disj (g l) k → Le k (fun b => w.heap[b]?) → Le k (fun b => w'.heap[b]?) := fun k dk hle b o e => by
    rcases dk b with d | d
    · exact (hk b d (heap_lt hle e)).trans (hle b o e)
    · rw [d] at e; cases e
  have dis : ∀ k : Frag, Disj (g l) k → Le k (fun b => w.heap[b]?) → Disj f k := fun k dk hle b => by
    cases hb : f b with
    | none => exact .inl rfl
    | some o =>
      right
      rcases f3 b (by rw [hb]; simp) with q | q
      · exact (dk b).resolve_left q
      · cases hk : k b with
        | none => rfl
        | some o => have := heap_lt hle hk; omega
  have ll : l < σ.length := (List.getElem?_eq_some_iff.1 hl).1
  refine ⟨keep _ (g4 l).1 h.hF, keep _ (g4 l).2 h.hR, by simp [Ctx.upd, h.n], h.FR, fun k => if k = l then f else g k, fun k o2 hk2 => ?_, fun k => ?_, fun k j hkj => ?_, fun k => ?_⟩
  · by_cases e : k = l
    · subst e
      rw [List.getElem?_set_self ll] at hk2
      injection hk2 with hk2
      subst hk2
      (try dsimp only)
      rw [if_pos rfl]
      have : (x.upd k s).env k = s := by simp [Ctx.upd]
      rw [this]; exact f1
    · rw [List.getElem?_set_ne (Ne.symm e)] at hk2
      (try dsimp only)
      rw [if_neg e]
      have : (x.upd l s).env k = x.env k := by simp [Ctx.upd, e]
      rw [this]
      exact (g1 k o2 hk2).ext hx
  · (try dsimp only)
    split
    · exact f2
    · rename_i e; exact keep _ (g3 l k (Ne.symm e)) (g2 k)
  · (try dsimp only)
    split
    · rename_i e
      rw [if_neg (by omega)]
      exact dis _ (g3 l j (by omega)) (g2 j)
    · rename_i e
      split
      · exact (dis _ (g3 l k (Ne.symm e)) (g2 k)).symm
      · exact g3 k j hkj
  · (try dsimp only)
    split
    · exact ⟨dis _ (g4 l).1 h.hF, dis _ (g4 l).2 h.hR⟩
    · exact g4 k

/-- An owned object becomes frozen. -/
theorem Heap.freeze {x : Ctx} {σ : List AObj} {R : Frag} {w : World} (h : Heap x σ R w) {l : Nat} {o : AObj} (hl : σ[l]? = some o) :
    ∃ f, ORep x (x.env l) o f ∧ Disj f x.F ∧ Heap (x.frz (Un x.F f)) (σ.set l .dead) R w := by
  obtain ⟨g, g1, g2, g3, g4⟩ := h.own
  refine ⟨g l, g1 l o hl, (g4 l).1, Le.un h.hF (g2 l), h.hR, by simp [Ctx.frz, h.n], ?_, fun k => if k = l then fun _ => none else g k, fun k o2 hk2 => ?_, fun k => ?_, fun k j hkj => ?_, fun k => ?_⟩
  · exact (Disj.un_right h.FR.symm (g4 l).2.symm).symm
  · by_cases e : k = l
    · subst e
      rw [List.getElem?_set_self (List.getElem?_eq_some_iff.1 hl).1] at hk2
      injection hk2 with hk2
      subst hk2
      trivial
    · rw [List.getElem?_set_ne (Ne.symm e)] at hk2
      (try dsimp only)
      rw [if_neg e]
      exact (g1 k o2 hk2).ext (Ctx.frz_ext (Le.un_left _ _))
  · (try dsimp only)
    split
    · intro b o e; cases e
    · exact g2 k
  · (try dsimp only)
    split
    · exact fun b => .inl rfl
    · (try dsimp only)
      split
      · exact fun b => .inr rfl
      · exact g3 k j hkj
  · (try dsimp only)
    split
    · exact ⟨fun b => .inl rfl, fun b => .inl rfl⟩
    · rename_i e
      exact ⟨Disj.un_right (g4 k).1 (g3 k l e), (g4 k).2⟩

/-! Calls. -/

def isGo (P : Program) (g : FuncId) : Bool := match P.funcs[g]? with
  | some fn => fn.name != "runtime.NumGoroutine" && fn.body.isSome
  | none => false

/-- A function that may write owned objects. -/
def Runs (P : Program) (f : FuncId) (args : List AV) (σ : List AObj) (post : AV → List AObj → Prop) : Prop :=
  isGo P f = true ∧ ∀ (B : Base) (R : Frag) (x : Ctx) (w : World) (vs : List Value), ALRep x args vs → Heap x σ R w → Calm B w →
    Calls P f vs.toArray w fun e w' => ∃ u v x' σ', e = .returned u ∧ CtxExt x x' ∧ ARep x' v u ∧ Heap x' σ' R w' ∧ Calm B w' ∧ post v σ'

/-- A function over frozen data. -/
def RunsP (P : Program) (f : FuncId) (args : List DV) (post : DV → Prop) : Prop :=
  isGo P f = true ∧ ∀ (B : Base) (F : Frag) (w : World) (vs : List Value), LRep F args vs → Le F (fun b => w.heap[b]?) → Calm B w →
    Calls P f vs.toArray w fun e w' => ∃ u v F', e = .returned u ∧ Le F F' ∧ DRep F' v u ∧ Le F' (fun b => w'.heap[b]?) ∧ Agree w w' ∧ (∀ b, F b = none → b < w.heap.size → F' b = none) ∧ Calm B w' ∧ post v

theorem Runs.mono {P : Program} {f : FuncId} {args : List AV} {σ : List AObj} {post post' : AV → List AObj → Prop} (h : Runs P f args σ post) (q : ∀ v σ', post v σ' → post' v σ') : Runs P f args σ post' :=
  ⟨h.1, fun B R x w vs a b c => Calls.mono (h.2 B R x w vs a b c) fun e w' ⟨u, v, x', σ', h1, h2, h3, h4, h5, h6⟩ => ⟨u, v, x', σ', h1, h2, h3, h4, h5, q _ _ h6⟩⟩
theorem RunsP.mono {P : Program} {f : FuncId} {args : List DV} {post post' : DV → Prop} (h : RunsP P f args post) (q : ∀ v, post v → post' v) : RunsP P f args post' :=
  ⟨h.1, fun B F w vs a b c => Calls.mono (h.2 B F w vs a b c) fun e w' ⟨u, v, F', h1, h2, h3, h4, h5, h6, h7, h8⟩ => ⟨u, v, F', h1, h2, h3, h4, h5, h6, h7, q _ h8⟩⟩

theorem ALRep.ofD {x : Ctx} : ∀ {ds : List DV} {us : List Value}, LRep x.F ds us → ALRep x (ds.map .d) us
  | [], _, h => h
  | _ :: _, _, ⟨u, us', e, r, q⟩ => ⟨u, us', e, r, ALRep.ofD q⟩

theorem Runs.pure {P : Program} {f : FuncId} {args : List DV} {post : DV → Prop} (h : Runs P f (args.map .d) [] fun v _ => ∃ d, v = .d d ∧ post d) : RunsP P f args post := by
  refine ⟨h.1, fun B F w vs a b c => ?_⟩
  have h0 : Heap ⟨F, fun _ => ⟨0, 0, 0, false⟩, 0⟩ [] (fun k => if F k = none then w.heap[k]? else none) w := by
    refine ⟨b, fun k o e => ?_, rfl, fun k => ?_, fun _ _ => none, (fun l o e => by simp at e), (fun l b o e => by cases e), (fun _ _ _ _ => .inl rfl), (fun _ => ⟨fun _ => .inl rfl, fun _ => .inl rfl⟩)⟩
    · split at e
      · exact e
      · cases e
    · by_cases q : F k = none
      · exact .inl q
      · right; exact if_neg q
  have hh := h.2 B (fun k => if F k = none then w.heap[k]? else none) ⟨F, fun _ => ⟨0, 0, 0, false⟩, 0⟩ w vs (ALRep.ofD a) h0 c
  refine Calls.mono hh fun e w' ⟨u, v, x', σ', h1, h2, h3, h4, h5, d, hd, h6⟩ => ?_
  subst hd
  refine ⟨u, d, x'.F, h1, h2.F, h3, h4.hF, fun k hk => ?_, fun k hk hlt => ?_, h5, h6⟩
  · have hs := Array.getElem?_eq_getElem hk
    cases q : F k with
    | some o => exact (h4.hF k o (h2.F k o q)).trans (b k o q).symm
    | none => exact (h4.hR k _ ((if_pos q).trans hs)).trans hs.symm
  · rcases h4.FR k with e | e
    · exact e
    · simp only [hk, if_true] at e
      rw [Array.getElem?_eq_getElem hlt] at e
      cases e

def frameOf : List AV → Nat → Fr
  | [], _ => []
  | a :: l, i => (i, a) :: frameOf l (i + 1)

def resA (fn : Func) (fr : Fr) : Option AV := match fn.results.toList with
  | [.tmp t] => some (fget fr t)
  | [] => some (.tup [])
  | [.tmp s, .tmp t] => some (.tup [fget fr s, fget fr t])
  | [.tmp r, .tmp s, .tmp t] => some (.tup [fget fr r, fget fr s, fget fr t])
  | _ => none

def retQ (fn : Func) (post : AV → List AObj → Prop) : Exit → Fr → List AObj → Prop
  | .normal, fr, σ => ∃ v, resA fn fr = some v ∧ post v σ
  | .ret, fr, σ => ∃ v, resA fn fr = some v ∧ post v σ
  | _, _, _ => False

theorem ALRep.len {x : Ctx} : ∀ {ds : List AV} {us : List Value}, ALRep x ds us → us.length = ds.length
  | [], _, h => by rw [h]; rfl
  | _ :: _, _, ⟨u, us', e, r, q⟩ => by rw [e]; simp [ALRep.len q]

theorem frame_rep {x : Ctx} (rest : Array Value) : ∀ {args : List AV} {vs : List Value} (pre : Array Value), ALRep x args vs → ∀ i, ARep x (fget (frameOf args pre.size) i) ((pre ++ vs.toArray ++ rest).getD i undef)
  | [], _, pre, h, i => trivial
  | a :: args, _, pre, ⟨u, us', e, r, q⟩, i => by
    subst e
    unfold frameOf
    by_cases hi : pre.size = i
    · subst hi
      rw [fget_cons_self]
      simpa [Array.getD_eq_getD_getElem?, Array.getElem?_append] using r
    · rw [fget_cons_ne _ _ hi]
      have := frame_rep rest (pre.push u) q i
      simpa using this

theorem resA_spec {P : Program} {fn : Func} {k : K0} {x : Ctx} {nt : Nat} {fr : Fr} {σ : List AObj} {A : Act} {w : World} (s : Sim k x nt fr σ A w) {v : AV} (h : resA fn fr = some v) : ∃ u, (results fn A.tmps).run P w = .ok u w ∧ ARep x v u := by
  unfold resA at h
  have hl : fn.results = fn.results.toList.toArray := by simp
  have key : ∀ (l : List ResultVar), fn.results.toList = l → fn.results = l.toArray := fun l e => by rw [hl, e]
  split at h
  · rename_i t e
    injection h with h; subst h
    exact ⟨A.tmps.getD t undef, by unfold results; rw [key _ e]; simp [Sem.run], s.tmps t⟩
  · rename_i e
    injection h with h; subst h
    exact ⟨.tuple #[], by unfold results; rw [key _ e]; simp [Sem.run], [], rfl, rfl⟩
  · rename_i r t e
    injection h with h; subst h
    exact ⟨.tuple #[A.tmps.getD r undef, A.tmps.getD t undef], by unfold results; rw [key _ e]; simp [Sem.run], _, rfl, _, _, rfl, s.tmps r, _, _, rfl, s.tmps t, rfl⟩
  · rename_i r t q e
    injection h with h; subst h
    exact ⟨.tuple #[A.tmps.getD r undef, A.tmps.getD t undef, A.tmps.getD q undef], by unfold results; rw [key _ e]; simp [Sem.run], _, rfl, _, _, rfl, s.tmps r, _, _, rfl, s.tmps t, _, _, rfl, s.tmps q, rfl⟩
  · cases h

theorem runs_enter {P : Program} {f : FuncId} {fn : Func} {c : Code} {args : List AV} {σ : List AObj} {post : AV → List AObj → Prop} (hf : P.funcs[f]? = some fn) (hb : fn.body = some c) (hg : isGo P f = true) (hn : Nat.ble args.length fn.ntmps = true)
    (h : AWk P fn.ntmps c (retQ fn post) (frameOf args 0) σ) : Runs P f args σ post := by
  refine ⟨hg, fun B R x w vs ha hh hc => ?_⟩
  refine calls_of_wp hf hb ?_
  have hl := ha.len
  have hn := Nat.le_of_ble_eq_true hn
  have s : Sim ⟨B, R, []⟩ x fn.ntmps (frameOf args 0) σ { tmps := vs.toArray ++ Array.replicate (fn.ntmps - vs.toArray.size) undef, defers := [] } w := by
    refine ⟨by simp; omega, rfl, fun i => ?_, hh, hc⟩
    have := frame_rep (Array.replicate (fn.ntmps - vs.toArray.size) undef) #[] ha i
    simpa using this
  refine wp_mono (h.out _ x _ w s) fun e A w' p => ?_
  cases e with
  | normal =>
    obtain ⟨x', fr, σ', hx, hs, v, hr, hp⟩ := p
    obtain ⟨u, h1, h2⟩ := resA_spec (P := P) hs hr
    exact ⟨hs.defers, u, h1, u, v, x', σ', rfl, hx, h2, hs.heap, hs.calm, hp⟩
  | ret =>
    obtain ⟨x', fr, σ', hx, hs, v, hr, hp⟩ := p
    obtain ⟨u, h1, h2⟩ := resA_spec (P := P) hs hr
    exact ⟨hs.defers, u, h1, u, v, x', σ', rfl, hx, h2, hs.heap, hs.calm, hp⟩
  | exit i => obtain ⟨x', fr, σ', hx, hs, hp⟩ := p; exact hp
  | goto i => obtain ⟨x', fr, σ', hx, hs, hp⟩ := p; exact hp
  | panic _ => exact p.elim
  | outgrown => exact p.elim

end Go.Proofs.Ytlpgekodoiioaaa
