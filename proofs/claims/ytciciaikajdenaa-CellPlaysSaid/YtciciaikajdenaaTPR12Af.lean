/- Maps in the abstract walk. -/
import Derived.Test.YtciciaikajdenaaTPR12Adx2
set_option linter.unusedSimpArgs false
set_option linter.unusedVariables false
namespace Go.Proofs.Ytciciaikajdenaa
open Go.RowKit

/-! Keys: texts, whole numbers. -/
theorem findNow_int {k : IntKind} (x : Int) : ∀ (arr : List MapEntry) (es : List (Int × Value)) (i : Nat), arr.map (fun e => (e.key, e.val)) = es.map (fun p => (Value.int k p.1, p.2)) → Instr.findNow (.int k) (.int k x) arr i = some (lookA x es i)
  | [], [], i, _ => rfl
  | [], _ :: _, _, h => by simp at h
  | _ :: _, [], _, h => by simp at h
  | e :: arr, p :: es, i, h => by
    simp only [List.map_cons, List.cons.injEq, Prod.mk.injEq] at h
    obtain ⟨⟨h1, h2⟩, h3⟩ := h
    unfold Instr.findNow
    rw [h1]
    simp only [Instr.sameNow, if_true]
    by_cases hx : x = p.1
    · subst hx; simp [lookA, h2]
    · have : (x == p.1) = false := by simpa using hx
      rw [this]
      simp only
      rw [findNow_int x arr es (i + 1) h3]; simp [lookA, hx]

theorem int_law {P : Program} {kt : TypeId} {k : IntKind} (hk : P.underlying kt = some (.int k)) : KeyLaw P kt (Value.int k) where
  find x arr es w e := by
    unfold Instr.findKey
    simp [run_underlying hk, findNow_int x arr es 0 e]
  chk b x w := by
    show (Instr.checkKey b (9999 + 1) kt _).run P w = _
    unfold Instr.checkKey
    simp [run_underlying hk]
  bits x := by simp [Instr.sameBits]

/-! Entries. -/
def entsV {K : Type} (kv : K → Value) (l : List (K × AV)) : List (Value × AV) := l.map fun p => (kv p.1, p.2)

section
variable {K : Type} {kv : K → Value} {x : Ctx}

/-- The entries in memory, as pairs. -/
theorem mrep_pairs : ∀ {l : List (K × AV)} {es : List MapEntry}, MRep x (entsV kv l) es → ∃ vs : List (K × Value), es.map (fun e => (e.key, e.val)) = vs.map (fun p => (kv p.1, p.2)) ∧ vs.length = l.length ∧ ∀ (i : Nat) (a : K × AV) (b : K × Value), l[i]? = some a → vs[i]? = some b → a.1 = b.1 ∧ ARep x a.2 b.2
  | [], es, h => by
    have h : es = [] := h
    subst h
    exact ⟨[], rfl, rfl, by simp⟩
  | p :: l, es, h => by
    obtain ⟨e, es', rfl, hk, hv, hr⟩ := h
    obtain ⟨vs, h1, h2, h3⟩ := mrep_pairs hr
    refine ⟨(p.1, e.val) :: vs, by simp only [List.map_cons, h1]; rw [hk], by simp [h2], fun i a b ha hb => ?_⟩
    cases i with
    | zero => simp at ha hb; subst ha hb; exact ⟨rfl, hv⟩
    | succ i => exact h3 i a b (by simpa using ha) (by simpa using hb)

theorem pairs_get : ∀ {l : List (K × AV)} {vs : List (K × Value)}, vs.length = l.length → (∀ (i : Nat) (a : K × AV) (b : K × Value), l[i]? = some a → vs[i]? = some b → a.1 = b.1 ∧ ARep x a.2 b.2) → ∀ k, (getA k l = none ∧ getA k vs = none) ∨ ∃ v u, getA k l = some v ∧ getA k vs = some u ∧ ARep x v u
  | [], [], _, _, k => .inl ⟨rfl, rfl⟩
  | [], _ :: _, h, _, _ => by simp at h
  | _ :: _, [], h, _, _ => by simp at h
  | a :: l, b :: vs, h, hp, k => by
    obtain ⟨h1, h2⟩ := hp 0 a b rfl rfl
    unfold getA
    by_cases e : k = a.1
    · rw [if_pos e, if_pos (e.trans h1)]
      exact .inr ⟨_, _, rfl, rfl, h2⟩
    · rw [if_neg e, if_neg (fun q => e (q.trans h1.symm))]
      exact pairs_get (by simpa using h) (fun i a b ha hb => hp (i + 1) a b (by simpa using ha) (by simpa using hb)) k

theorem pairs_put {v : AV} {u : Value} (hv : ARep x v u) : ∀ {l : List (K × AV)} {vs : List (K × Value)}, vs.length = l.length → (∀ (i : Nat) (a : K × AV) (b : K × Value), l[i]? = some a → vs[i]? = some b → a.1 = b.1 ∧ ARep x a.2 b.2) → ∀ k, (putA k u vs).length = (putA k v l).length ∧ ∀ (i : Nat) (a : K × AV) (b : K × Value), (putA k v l)[i]? = some a → (putA k u vs)[i]? = some b → a.1 = b.1 ∧ ARep x a.2 b.2
  | [], [], _, _, k => by
    refine ⟨rfl, fun i a b ha hb => ?_⟩
    cases i with
    | zero => simp [putA] at ha hb; subst ha hb; exact ⟨rfl, hv⟩
    | succ i => simp [putA] at ha
  | [], _ :: _, h, _, _ => by simp at h
  | _ :: _, [], h, _, _ => by simp at h
  | a :: l, b :: vs, h, hp, k => by
    obtain ⟨h1, h2⟩ := hp 0 a b rfl rfl
    unfold putA
    by_cases e : k = a.1
    · rw [if_pos e, if_pos (e.trans h1)]
      refine ⟨by simpa using h, fun i c d hc hd => ?_⟩
      cases i with
      | zero => simp at hc hd; subst hc hd; exact ⟨rfl, hv⟩
      | succ i => exact hp (i + 1) c d (by simpa using hc) (by simpa using hd)
    · rw [if_neg e, if_neg (fun q => e (q.trans h1.symm))]
      obtain ⟨h3, h4⟩ := pairs_put hv (l := l) (vs := vs) (by simpa using h) (fun i a b ha hb => hp (i + 1) a b (by simpa using ha) (by simpa using hb)) k
      refine ⟨by simp [h3], fun i c d hc hd => ?_⟩
      cases i with
      | zero => simp at hc hd; subst hc hd; exact ⟨h1, h2⟩
      | succ i => exact h4 i c d (by simpa using hc) (by simpa using hd)

theorem pairs_mrep : ∀ {l : List (K × AV)} {vs : List (K × Value)} {es : List MapEntry}, es.map (fun e => (e.key, e.val)) = vs.map (fun p => (kv p.1, p.2)) → vs.length = l.length → (∀ (i : Nat) (a : K × AV) (b : K × Value), l[i]? = some a → vs[i]? = some b → a.1 = b.1 ∧ ARep x a.2 b.2) → MRep x (entsV kv l) es
  | [], [], [], _, _, _ => rfl
  | [], [], _ :: _, h, _, _ => by simp at h
  | [], _ :: _, _, _, h, _ => by simp at h
  | _ :: _, [], _, _, h, _ => by simp at h
  | a :: l, b :: vs, [], h, _, _ => by simp at h
  | a :: l, b :: vs, e :: es, h, hl, hp => by
    simp only [List.map_cons, List.cons.injEq, Prod.mk.injEq] at h
    obtain ⟨⟨h1, h2⟩, h3⟩ := h
    obtain ⟨h4, h5⟩ := hp 0 a b rfl rfl
    refine ⟨e, es, rfl, by rw [h1]; show kv b.1 = kv a.1; rw [h4], by rw [h2]; exact h5, pairs_mrep h3 (by simpa using hl) (fun i a b ha hb => hp (i + 1) a b (by simpa using ha) (by simpa using hb))⟩
end

section
variable {P : Program} {T : Tab} {Z : TabZ} {nt : Nat} {fr : Fr} {σ : List AObj} {o : Oper} {next : Fr → List AObj → Prop} {K : Type} {kv : K → Value} {kt et mt : TypeId} {loc : Nat} {l : List (K × AV)}

/-- A map in memory, as the separation logic has it. -/
theorem map_st {k : K0} {x : Ctx} {A : Act} {w : World} {g0 : Frag} (hg : Le g0 (fun b => w.heap[b]?)) {s : Slot} (h : ORep x s (.map (entsV kv l)) g0) :
    s.ver = 0 ∧ ∃ vs : List (K × Value), vs.length = l.length ∧ (∀ (i : Nat) (a : K × AV) (b : K × Value), l[i]? = some a → vs[i]? = some b → a.1 = b.1 ∧ ARep x a.2 b.2) ∧ St { w with heap := #[] } w [mapB kv s.blk vs, fun f => f = fun b => if g0 b = none then w.heap[b]? else none] := by
  obtain ⟨hv, es, h1, h2, _⟩ := h
  obtain ⟨vs, e1, e2, e3⟩ := mrep_pairs h2
  refine ⟨hv, vs, e2, e3, ⟨rfl, rfl, rfl, Nat.zero_le _, fun k hk => absurd hk (Nat.not_lt_zero _), ?_⟩⟩
  have hnp : newPart { w with heap := #[] } w = fun b => w.heap[b]? := by funext b; simp [newPart]
  rw [hnp]
  refine ⟨g0, fun b => if g0 b = none then w.heap[b]? else none, ⟨es, es.size, h1, e1⟩, ⟨_, fun _ => none, rfl, trivial, fun b => .inr rfl, Le.refl _, (fun b o e => by cases e)⟩, fun b => ?_, hg, fun b o e => ?_⟩
  · by_cases q : g0 b = none
    · exact .inl q
    · right; simp [q]
  · simp only at e
    split at e
    · exact e
    · cases e

theorem do_lookup {c : Bool} (KL : KeyLaw P kt kv) (hm : P.underlying mt = some (.map kt et)) {zv : AV} (hz : ∃ u, (∀ w : World, (zeroValue et).run P w = .ok u w) ∧ ∀ x : Ctx, ARep x zv u) {a b : Operand} {key : K} (ho : o.op = .lookup mt a b c) (hl : σ[loc]? = some (.map (entsV kv l))) (ha : aget fr a = .mp loc)
    (hb : ∀ (x : Ctx) u, ARep x (aget fr b) u → u = kv key) : RdOp P o fr σ (bif c then (.tup [(getA key l).getD zv, .d (.v (.bool (getA key l).isSome))]) else (getA key l).getD zv) := by
  intro k x nt A w s
  obtain ⟨u0, hz1, hz2⟩ := hz
  have hra := s.arg a
  rw [ha] at hra
  obtain ⟨hlt, r, e, hc⟩ := hra
  obtain ⟨g, g1, g2, g3, g4⟩ := s.heap.own
  obtain ⟨hver, vs, e2, e3, st⟩ := map_st (k := k) (A := A) (g2 loc) (g1 loc _ hl)
  have hr := hc hver.symm
  subst hr
  have hkey := hb x _ (s.arg b)
  obtain ⟨arr, clock, s2, e4⟩ := st.map_open
  have hheap := s2.obj.1
  -- in every world that agrees
  have look : ∀ w', Agree w w' → ∀ bb, (Instr.lookup mt (.map (some (x.env loc).blk)) (kv key) bb).run P w' = .ok (if bb then .tuple #[(getA key vs).getD u0, .bool (getA key vs).isSome] else (getA key vs).getD u0) w' := fun w' ag bb => by
    have h' := ag.get hheap
    have hg := obj_run (P := P) h'
    have hf := KL.find key arr.toList vs w' e4
    unfold Instr.lookup
    simp only [Sem.run_bind, run_underlying hm, Result.andThen_ok, hg, Sem.run_pure, KL.chk, hf]
    rcases lookA_spec key vs 0 with ⟨h1, h2, _, _⟩ | ⟨j, p, h1, _, _, h2, _, _⟩
    · rw [h1, h2]
      simp only [Sem.run_bind, hz1, Result.andThen_ok, Sem.run_pure]
      cases bb <;> rfl
    · rw [h1, h2]
      simp only [Sem.run_pure, Result.andThen_ok]
      cases bb <;> rfl
  have hres : ARep x ((getA key l).getD zv) ((getA key vs).getD u0) ∧ (getA key l).isSome = (getA key vs).isSome := by
    rcases pairs_get e2 e3 key with ⟨h1, h2⟩ | ⟨v, u, h1, h2, h3⟩
    · rw [h1, h2]; exact ⟨hz2 x, rfl⟩
    · rw [h1, h2]; exact ⟨h3, rfl⟩
  cases c with
  | true =>
    refine ⟨.tuple #[(getA key vs).getD u0, .bool (getA key vs).isSome], ⟨_, rfl, _, _, rfl, hres.1, _, _, rfl, ⟨by rw [hres.2], rfl⟩, rfl⟩, fun w' ag => ?_⟩
    have ag := ag.resolve_left (by rw [ho]; exact Bool.false_ne_true)
    unfold execOp
    simp [ho, e, hkey, look w' ag]
  | false =>
    refine ⟨_, hres.1, fun w' ag => ?_⟩
    have ag := ag.resolve_left (by rw [ho]; exact Bool.false_ne_true)
    unfold execOp
    simp [ho, e, hkey, look w' ag]

theorem do_makeMap (kv : K → Value) (ho : o.op = .makeMap mt none) (ht : dstOk o.dst nt = true) {keep : Bool} (hn : next (fput o.dst (.mp σ.length) fr) (σ ++ [.map (entsV kv [])])) : DoOp P nt o fr σ keep next := by
  refine do_value ht (fun v σ' => v = .mp σ.length ∧ σ' = σ ++ [.map (entsV kv [])]) (fun v σ' ⟨a, b⟩ => a ▸ b ▸ hn) fun k x A w s => ?_
  refine ⟨.map (some w.heap.size), w.alloc (.map #[] 0), x.push ⟨w.heap.size, 0, 0, true⟩, _, _, ?_, x.push_ext _, ?_, s.heap.new ?_, s.calm.alloc _, fun _ => agree_alloc _ _, rfl, rfl⟩
  · unfold execOp
    simp [ho, Instr.makeMap]
  · refine ⟨by simp [Ctx.push, s.heap.n], _, rfl, fun _ => ?_⟩
    simp [Ctx.push, s.heap.n]
  · exact ⟨rfl, #[], by simp [oneFrag], rfl, fun i e h => by simp at h⟩

/-- What an update does, in one world. -/
theorem update_run (KL : KeyLaw P kt kv) (hm : P.underlying mt = some (.map kt et)) {r : Nat} {arr : Array MapEntry} {vs : List (K × Value)} {w : World} (hget : w.heap[r]? = some (.map arr arr.size)) (hborn : ∀ (i : Nat) (e : MapEntry), arr[i]? = some e → e.born = i) (e : arr.toList.map (fun e => (e.key, e.val)) = vs.map (fun p => (kv p.1, p.2))) (x : K) (v : Value) :
    ∃ (arr' : Array MapEntry), (Instr.mapUpdate mt (.map (some r)) (kv x) v).run P w = .ok () { w with heap := w.heap.setIfInBounds r (.map arr' arr'.size) } ∧ arr'.toList.map (fun e => (e.key, e.val)) = (putA x v vs).map (fun p => (kv p.1, p.2)) ∧ ∀ (i : Nat) (e : MapEntry), arr'[i]? = some e → e.born = i := by
  have hg := obj_run (P := P) hget
  have hf := KL.find x arr.toList vs w e
  rcases lookA_spec x vs 0 with ⟨h1, _, _, h3⟩ | ⟨j, p, h1, h4, h5, _, _, h3⟩
  · refine ⟨arr.push { key := kv x, val := v, born := arr.size }, ?_, ?_, ?_⟩
    · unfold Instr.mapUpdate
      simp [run_underlying hm, hg, KL.chk, hf, h1, set_run hget]
    · rw [h3]; simp [e]
    · intro i e' he
      rw [Array.getElem?_push] at he
      split at he
      · rename_i hi; injection he with he; subst he; exact hi.symm
      · exact hborn i e' he
  · have hj : j < arr.size := by
      have h6 := congrArg List.length e
      have h7 := (List.getElem?_eq_some_iff.1 h4).1
      simp at h6; omega
    have hk : arr[j].key = kv x := by
      have h8 : (arr.toList.map (fun e => (e.key, e.val)))[j]? = some (kv p.1, p.2) := by rw [e]; simp [h4]
      simp [hj] at h8
      rw [h8.1, h5]
    refine ⟨arr.modify j fun e => { e with key := kv x, val := v }, ?_, ?_, ?_⟩
    · have hks : (Instr.keyThatStays (((arr[0 + j]?).map (·.key)).getD (kv x)) (kv x)).run P w = .ok (kv x) w := by
        have : ((arr[0 + j]?).map (·.key)).getD (kv x) = kv x := by simp [hj, hk]
        rw [this]
        simp [Instr.keyThatStays, KL.bits]
      unfold Instr.mapUpdate
      simp only [Sem.run_bind, run_underlying hm, Result.andThen_ok, hg, KL.chk, hf, h1, hks, Nat.zero_add]
      simp only [Nat.zero_add] at hks
      simp [hks, set_run hget]
    · rw [h3, List.map_set, ← e]
      apply List.ext_getElem?
      intro i
      simp only [List.getElem?_map, List.getElem?_set, Array.getElem?_toList, Array.getElem?_modify]
      by_cases hij : j = i
      · subst hij; simp [hj]
      · simp [hij]
    · intro i e' he
      rw [Array.getElem?_modify] at he
      split at he
      · rename_i hi
        subst hi
        rw [Option.map_eq_some_iff] at he
        obtain ⟨e0, h7, rfl⟩ := he
        exact hborn j e0 h7
      · exact hborn i e' he

theorem do_mapUpdate (KL : KeyLaw P kt kv) (hm : P.underlying mt = some (.map kt et)) {a b c : Operand} {key : K} (ho : o.op = .mapUpdate mt a b c) (hd : o.dst = none) (hl : σ[loc]? = some (.map (entsV kv l))) (ha : aget fr a = .mp loc)
    (hb : ∀ (x : Ctx) u, ARep x (aget fr b) u → u = kv key) (hn : next fr (σ.set loc (.map (entsV kv (putA key (aget fr c) l))))) : DoOp P nt o fr σ false next := by
  refine do_skip hd hn fun k x A w s => ?_
  have hra := s.arg a
  rw [ha] at hra
  obtain ⟨hlt, r, e, hc⟩ := hra
  obtain ⟨g, g1, g2, g3, g4⟩ := s.heap.own
  have hver := (g1 loc _ hl).1
  have hr := hc hver.symm
  subst hr
  have hkey := hb x _ (s.arg b)
  have hx : CtxExt x (x.upd loc (x.env loc)) := Ctx.upd_ext (Nat.le_refl _) fun _ => ⟨rfl, rfl, rfl⟩
  obtain ⟨_, arr, h1, h2, hborn⟩ := g1 loc _ hl
  obtain ⟨vs, e1, e2, e3⟩ := mrep_pairs h2
  have hget := g2 loc _ _ h1
  have hlt : (x.env loc).blk < w.heap.size := (Array.getElem?_eq_some_iff.1 hget).1
  obtain ⟨arr', hrun, e4, hborn'⟩ := update_run KL hm hget hborn e1 key (A.eval c)
  refine ⟨{ w with heap := w.heap.setIfInBounds (x.env loc).blk (.map arr' arr'.size) }, x.upd loc (x.env loc), ?_, hx, s.heap.upd hl hx fun g0 hg0 hle0 => ⟨⟨oneFrag (x.env loc).blk (.map arr' arr'.size), ?_, ?_, ?_⟩, ?_⟩, ⟨s.calm.os, s.calm.tape, s.calm.output⟩, fun h => by cases h⟩
  · unfold execOp
    simp [ho, e, hkey, hrun]
  · refine ⟨hver, arr', by simp [oneFrag], MRep.ext hx ?_, hborn'⟩
    obtain ⟨h3, h4⟩ := pairs_put (s.arg c) e2 e3 key
    exact pairs_mrep e4 h3 h4
  · intro c ob hb
    unfold oneFrag at hb
    split at hb
    · rename_i hcb; injection hb with hb; subst hcb hb; simp [hlt]
    · cases hb
  · intro c hc
    left
    unfold oneFrag at hc
    split at hc
    · rename_i hcb
      subst hcb
      obtain ⟨_, es', q1, _⟩ := hg0
      rw [q1]; simp
    · exact absurd rfl hc
  · intro c hc hlt
    have : (x.env loc).blk ≠ c := fun q => by
      subst q
      obtain ⟨_, es', q1, _⟩ := hg0
      rw [hc] at q1; cases q1
    simp [this]

section
variable {Q : Exit → Fr → List AObj → Prop} {ops : Array Oper} {dr : Bool} {dos ends : List Nat} {lt : Trr} {i d : Nat} {v : AV}
variable {op : Op} {ty : TypeId} {pos : String} {aft : Array Edge} {gd : Option (Nat × Bool)}

/-- A key that is a plain value. -/
theorem key_d {b : Operand} {u : Value} (h : aget fr b = .d (.v u)) : ∀ (x : Ctx) w, ARep x (aget fr b) w → w = u := by
  intro x w hr
  rw [h] at hr
  exact hr.1

theorem s_makeMapF (kv : K → Value) (hp : (dr && !dos.contains i) = false) (hg : guardB ops fr gd = some true) (hk : (dr && !ends.contains i && !true) = false) (ht : Nat.blt d nt = true) (h : ∀ loc σ', Fresh σ loc (.map (entsV kv [])) σ' → AL P nt ops dr dos ends lt Q ((d, .mp loc) :: fr) σ') : ALo P nt ops dr dos ends i ⟨some d, .makeMap mt none, ty, pos, aft, gd⟩ lt Q fr σ := by
  refine ⟨fun ho => s_do (keep := true) ho hp hg hk ?_⟩
  exact do_makeMap (o := ⟨some d, .makeMap mt none, ty, pos, aft, gd⟩) kv rfl ht (h _ _ (fresh_app _ _))

theorem s_lookup2 (KL : KeyLaw P kt kv) (hm : P.underlying mt = some (.map kt et)) {zv : AV} (hz : ∃ u, (∀ w : World, (zeroValue et).run P w = .ok u w) ∧ ∀ x : Ctx, ARep x zv u) (key : K) (l : List (K × AV)) {a b : Operand} (r : AV) (r2 : Bool) (hp : dr = dr) (hg : guardB ops fr gd = some true) (ht : Nat.blt d nt = true) (ha : aget fr a = .mp loc)
    (hl : σ[loc]? = some (.map (entsV kv l))) (hb : aget fr b = .d (.v (kv key))) (hr : (getA key l).getD zv = r) (hr2 : (getA key l).isSome = r2) (h : AL P nt ops dr dos ends lt Q ((d, .tup [r, .d (.v (.bool r2))]) :: fr) σ) : ALo P nt ops dr dos ends i ⟨some d, .lookup mt a b true, ty, pos, aft, gd⟩ lt Q fr σ := by
  subst hr hr2
  exact ⟨fun ho => s_read ho hp hg ht (do_lookup (c := true) KL hm hz rfl hl ha (key_d hb)) h⟩

theorem s_mapUpdateF (KL : KeyLaw P kt kv) (hm : P.underlying mt = some (.map kt et)) (key : K) (l l2 : List (K × AV)) {a b c : Operand} (hp : (dr && !dos.contains i) = false) (hg : guardB ops fr gd = some true) (hk : (dr && !ends.contains i && !false) = false) (ha : aget fr a = .mp loc)
    (hl : σ[loc]? = some (.map (entsV kv l))) (hb : aget fr b = .d (.v (kv key))) (hr : putA key (aget fr c) l = l2) (h : ∀ σ', Chg σ loc (.map (entsV kv l2)) σ' → AL P nt ops dr dos ends lt Q fr σ') : ALo P nt ops dr dos ends i ⟨none, .mapUpdate mt a b c, ty, pos, aft, gd⟩ lt Q fr σ := by
  subst hr
  refine ⟨fun ho => s_do (keep := false) ho hp hg hk ?_⟩
  exact do_mapUpdate KL hm rfl rfl hl ha (key_d hb) (h _ (chg_set hl))

end
end
end Go.Proofs.Ytciciaikajdenaa
