/- Maps in the abstract walk. -/
import Derived.Laws.StructEq
import Derived.Laws.MakeOwn
import Derived.Maps.RangeRun
import Derived.Test.YtciciaikajdenaaQAc
set_option linter.unusedSimpArgs false
set_option linter.unusedVariables false
namespace Go.Proofs.Ytciciaikajdenaa
open Go.RowKit

/-! Keys: texts, whole numbers. -/
theorem bytes_beq (a b : ByteArray) : (a == b) = decide (a = b) := by
  obtain ⟨x⟩ := a
  obtain ⟨y⟩ := b
  by_cases h : x = y
  · subst h
    rw [decide_eq_true rfl]
    show (x == x) = true
    simp
  · rw [decide_eq_false (fun e => h (by injection e))]
    cases q : (ByteArray.mk x == ByteArray.mk y)
    · rfl
    · have q2 : (x == y) = true := q
      exact absurd (by simpa using q2) h

theorem findNow_str (x : ByteArray) : ∀ (arr : List MapEntry) (es : List (ByteArray × Value)) (i : Nat), arr.map (fun e => (e.key, e.val)) = es.map (fun p => (Value.string p.1, p.2)) → Instr.findNow .string (.string x) arr i = some (lookA x es i)
  | [], [], i, _ => rfl
  | [], _ :: _, _, h => by simp at h
  | _ :: _, [], _, h => by simp at h
  | e :: arr, p :: es, i, h => by
    simp only [List.map_cons, List.cons.injEq, Prod.mk.injEq] at h
    obtain ⟨⟨h1, h2⟩, h3⟩ := h
    unfold Instr.findNow
    rw [h1]
    simp only [Instr.sameNow, bytes_beq]
    by_cases hx : x = p.1
    · rw [decide_eq_true hx]; simp [lookA, hx, h2]
    · rw [decide_eq_false hx]
      simp only
      rw [findNow_str x arr es (i + 1) h3]; simp [lookA, hx]

theorem str_law {P : Program} {kt : TypeId} (hk : P.underlying kt = some .string) : KeyLaw P kt Value.string where
  find x arr es w e := by
    unfold Instr.findKey
    simp [run_underlying hk, findNow_str x arr es 0 e]
  chk b x w := by
    show (Instr.checkKey b (9999 + 1) kt _).run P w = _
    unfold Instr.checkKey
    simp [run_underlying hk]
  bits x := by simp [Instr.sameBits, bytes_beq]

theorem findNow_int {k : IntKind} (x : Int) : ∀ (arr : List MapEntry) (es : List (Int × Value)) (i : Nat), arr.map (fun e => (e.key, e.val)) = es.map (fun p => (Value.int k p.1, p.2)) → Instr.findNow (.int k) (.int k x) arr i = some (lookA x es i)
  | [], [], i, _ => rfl
  | [], _ :: _, _, h => by simp at h
  | _ :: _, [], _, h => by simp at h
  | e :: arr, p :: es, i, h => by
    simp only [List.map_cons, List.cons.injEq, Prod.mk.injEq] at h
    obtain ⟨⟨h1, h2⟩, h3⟩ := h
    unfold Instr.findNow
    rw [h1]
    simp only [Instr.sameNow, if_true]
    by_cases hx : x = p.1
    · subst hx; simp [lookA, h2]
    · have : (x == p.1) = false := by simpa using hx
      rw [this]
      simp only
      rw [findNow_int x arr es (i + 1) h3]; simp [lookA, hx]

theorem int_law {P : Program} {kt : TypeId} {k : IntKind} (hk : P.underlying kt = some (.int k)) : KeyLaw P kt (Value.int k) where
  find x arr es w e := by
    unfold Instr.findKey
    simp [run_underlying hk, findNow_int x arr es 0 e]
  chk b x w := by
    show (Instr.checkKey b (9999 + 1) kt _).run P w = _
    unfold Instr.checkKey
    simp [run_underlying hk]
  bits x := by simp [Instr.sameBits]

/-! Entries. -/
def entsV {K : Type} (kv : K → Value) (l : List (K × AV)) : List (Value × AV) := l.map fun p => (kv p.1, p.2)

section
variable {K : Type} {kv : K → Value} {x : Ctx}

/-- The entries in memory, as pairs. -/
theorem mrep_pairs : ∀ {l : List (K × AV)} {es : List MapEntry}, MRep x (entsV kv l) es → ∃ vs : List (K × Value), es.map (fun e => (e.key, e.val)) = vs.map (fun p => (kv p.1, p.2)) ∧ vs.length = l.length ∧ ∀ (i : Nat) (a : K × AV) (b : K × Value), l[i]? = some a → vs[i]? = some b → a.1 = b.1 ∧ ARep x a.2 b.2
  | [], es, h => by
    have h : es = [] := h
    subst h
    exact ⟨[], rfl, rfl, by simp⟩
  | p :: l, es, h => by
    obtain ⟨e, es', rfl, hk, hv, hr⟩ := h
    obtain ⟨vs, h1, h2, h3⟩ := mrep_pairs hr
    refine ⟨(p.1, e.val) :: vs, by simp only [List.map_cons, h1]; rw [hk], by simp [h2], fun i a b ha hb => ?_⟩
    cases i with
    | zero => simp at ha hb; subst ha hb; exact ⟨rfl, hv⟩
    | succ i => exact h3 i a b (by simpa using ha) (by simpa using hb)

theorem pairs_get : ∀ {l : List (K × AV)} {vs : List (K × Value)}, vs.length = l.length → (∀ (i : Nat) (a : K × AV) (b : K × Value), l[i]? = some a → vs[i]? = some b → a.1 = b.1 ∧ ARep x a.2 b.2) → ∀ k, (getA k l = none ∧ getA k vs = none) ∨ ∃ v u, getA k l = some v ∧ getA k vs = some u ∧ ARep x v u
  | [], [], _, _, k => .inl ⟨rfl, rfl⟩
  | [], _ :: _, h, _, _ => by simp at h
  | _ :: _, [], h, _, _ => by simp at h
  | a :: l, b :: vs, h, hp, k => by
    obtain ⟨h1, h2⟩ := hp 0 a b rfl rfl
    unfold getA
    by_cases e : k = a.1
    · rw [if_pos e, if_pos (e.trans h1)]
      exact .inr ⟨_, _, rfl, rfl, h2⟩
    · rw [if_neg e, if_neg (fun q => e (q.trans h1.symm))]
      exact pairs_get (by simpa using h) (fun i a b ha hb => hp (i + 1) a b (by simpa using ha) (by simpa using hb)) k

theorem pairs_put {v : AV} {u : Value} (hv : ARep x v u) : ∀ {l : List (K × AV)} {vs : List (K × Value)}, vs.length = l.length → (∀ (i : Nat) (a : K × AV) (b : K × Value), l[i]? = some a → vs[i]? = some b → a.1 = b.1 ∧ ARep x a.2 b.2) → ∀ k, (putA k u vs).length = (putA k v l).length ∧ ∀ (i : Nat) (a : K × AV) (b : K × Value), (putA k v l)[i]? = some a → (putA k u vs)[i]? = some b → a.1 = b.1 ∧ ARep x a.2 b.2
  | [], [], _, _, k => by
    refine ⟨rfl, fun i a b ha hb => ?_⟩
    cases i with
    | zero => simp [putA] at ha hb; subst ha hb; exact ⟨rfl, hv⟩
    | succ i => simp [putA] at ha
  | [], _ :: _, h, _, _ => by simp at h
  | _ :: _, [], h, _, _ => by simp at h
  | a :: l, b :: vs, h, hp, k => by
    obtain ⟨h1, h2⟩ := hp 0 a b rfl rfl
    unfold putA
    by_cases e : k = a.1
    · rw [if_pos e, if_pos (e.trans h1)]
      refine ⟨by simpa using h, fun i c d hc hd => ?_⟩
      cases i with
      | zero => simp at hc hd; subst hc hd; exact ⟨rfl, hv⟩
      | succ i => exact hp (i + 1) c d (by simpa using hc) (by simpa using hd)
    · rw [if_neg e, if_neg (fun q => e (q.trans h1.symm))]
      obtain ⟨h3, h4⟩ := pairs_put hv (l := l) (vs := vs) (by simpa using h) (fun i a b ha hb => hp (i + 1) a b (by simpa using ha) (by simpa using hb)) k
      refine ⟨by simp [h3], fun i c d hc hd => ?_⟩
      cases i with
      | zero => simp at hc hd; subst hc hd; exact ⟨h1, h2⟩
      | succ i => exact h4 i c d (by simpa using hc) (by simpa using hd)

theorem pairs_mrep : ∀ {l : List (K × AV)} {vs : List (K × Value)} {es : List MapEntry}, es.map (fun e => (e.key, e.val)) = vs.map (fun p => (kv p.1, p.2)) → vs.length = l.length → (∀ (i : Nat) (a : K × AV) (b : K × Value), l[i]? = some a → vs[i]? = some b → a.1 = b.1 ∧ ARep x a.2 b.2) → MRep x (entsV kv l) es
  | [], [], [], _, _, _ => rfl
  | [], [], _ :: _, h, _, _ => by simp at h
  | [], _ :: _, _, _, h, _ => by simp at h
  | _ :: _, [], _, _, h, _ => by simp at h
  | a :: l, b :: vs, [], h, _, _ => by simp at h
  | a :: l, b :: vs, e :: es, h, hl, hp => by
    simp only [List.map_cons, List.cons.injEq, Prod.mk.injEq] at h
    obtain ⟨⟨h1, h2⟩, h3⟩ := h
    obtain ⟨h4, h5⟩ := hp 0 a b rfl rfl
    refine ⟨e, es, rfl, by rw [h1]; show kv b.1 = kv a.1; rw [h4], by rw [h2]; exact h5, pairs_mrep h3 (by simpa using hl) (fun i a b ha hb => hp (i + 1) a b (by simpa using ha) (by simpa using hb))⟩
end

section
variable {P : Program} {T : Tab} {Z : TabZ} {nt : Nat} {fr : Fr} {σ : List AObj} {o : Oper} {next : Fr → List AObj → Prop} {K : Type} {kv : K → Value} {kt et mt : TypeId} {loc : Nat} {l : List (K × AV)}

/-- A map in memory, as the separation logic has it. -/
theorem map_st {k : K0} {x : Ctx} {A : Act} {w : World} {g0 : Frag} (hg : Le g0 (fun b => w.heap[b]?)) {s : Slot} (h : ORep x s (.map (entsV kv l)) g0) :
    s.ver = 0 ∧ ∃ vs : List (K × Value), vs.length = l.length ∧ (∀ (i : Nat) (a : K × AV) (b : K × Value), l[i]? = some a → vs[i]? = some b → a.1 = b.1 ∧ ARep x a.2 b.2) ∧ St { w with heap := #[] } w [mapB kv s.blk vs, fun f => f = fun b => if g0 b = none then w.heap[b]? else none] := by
  obtain ⟨hv, es, h1, h2, _⟩ := h
  obtain ⟨vs, e1, e2, e3⟩ := mrep_pairs h2
  refine ⟨hv, vs, e2, e3, ⟨rfl, rfl, rfl, Nat.zero_le _, fun k hk => absurd hk (Nat.not_lt_zero _), ?_⟩⟩
  have hnp : newPart { w with heap := #[] } w = fun b => w.heap[b]? := by funext b; simp [newPart]
  rw [hnp]
  refine ⟨g0, fun b => if g0 b = none then w.heap[b]? else none, ⟨es, es.size, h1, e1⟩, ⟨_, fun _ => none, rfl, trivial, fun b => .inr rfl, Le.refl _, (fun b o e => by cases e)⟩, fun b => ?_, hg, fun b o e => ?_⟩
  · by_cases q : g0 b = none
    · exact .inl q
    · right; simp [q]
  · simp only at e
    split at e
    · exact e
    · cases e


theorem do_lookup {c : Bool} (KL : KeyLaw P kt kv) (hm : P.underlying mt = some (.map kt et)) {zv : AV} (hz : ∃ u, (∀ w : World, (zeroValue et).run P w = .ok u w) ∧ ∀ x : Ctx, ARep x zv u) {a b : Operand} {key : K} (ho : o.op = .lookup mt a b c) (hl : σ[loc]? = some (.map (entsV kv l))) (ha : aget fr a = .mp loc)
    (hb : ∀ (x : Ctx) u, ARep x (aget fr b) u → u = kv key) : RdOp P o fr σ (bif c then (.tup [(getA key l).getD zv, .d (.v (.bool (getA key l).isSome))]) else (getA key l).getD zv) := by
  intro k x nt A w s
  obtain ⟨u0, hz1, hz2⟩ := hz
  have hra := s.arg a
  rw [ha] at hra
  obtain ⟨hlt, r, e, hc⟩ := hra
  obtain ⟨g, g1, g2, g3, g4⟩ := s.heap.own
  obtain ⟨hver, vs, e2, e3, st⟩ := map_st (k := k) (A := A) (g2 loc) (g1 loc _ hl)
  have hr := hc hver.symm
  subst hr
  have hkey := hb x _ (s.arg b)
  obtain ⟨arr, clock, s2, e4⟩ := st.map_open
  have hheap := s2.obj.1
  -- in every world that agrees
  have look : ∀ w', Agree w w' → ∀ bb, (Instr.lookup mt (.map (some (x.env loc).blk)) (kv key) bb).run P w' = .ok (if bb then .tuple #[(getA key vs).getD u0, .bool (getA key vs).isSome] else (getA key vs).getD u0) w' := fun w' ag bb => by
    have h' := ag.get hheap
    have hg := obj_run (P := P) h'
    have hf := KL.find key arr.toList vs w' e4
    unfold Instr.lookup
    simp only [Sem.run_bind, run_underlying hm, Result.andThen_ok, hg, Sem.run_pure, KL.chk, hf]
    rcases lookA_spec key vs 0 with ⟨h1, h2, _, _⟩ | ⟨j, p, h1, _, _, h2, _, _⟩
    · rw [h1, h2]
      simp only [Sem.run_bind, hz1, Result.andThen_ok, Sem.run_pure]
      cases bb <;> rfl
    · rw [h1, h2]
      simp only [Sem.run_pure, Result.andThen_ok]
      cases bb <;> rfl
  have hres : ARep x ((getA key l).getD zv) ((getA key vs).getD u0) ∧ (getA key l).isSome = (getA key vs).isSome := by
    rcases pairs_get e2 e3 key with ⟨h1, h2⟩ | ⟨v, u, h1, h2, h3⟩
    · rw [h1, h2]; exact ⟨hz2 x, rfl⟩
    · rw [h1, h2]; exact ⟨h3, rfl⟩
  cases c with
  | true =>
    refine ⟨.tuple #[(getA key vs).getD u0, .bool (getA key vs).isSome], ⟨_, rfl, _, _, rfl, hres.1, _, _, rfl, ⟨by rw [hres.2], rfl⟩, rfl⟩, fun w' ag => ?_⟩
    have ag := ag.resolve_left (by rw [ho]; exact Bool.false_ne_true)
    unfold execOp
    simp [ho, e, hkey, look w' ag]
  | false =>
    refine ⟨_, hres.1, fun w' ag => ?_⟩
    have ag := ag.resolve_left (by rw [ho]; exact Bool.false_ne_true)
    unfold execOp
    simp [ho, e, hkey, look w' ag]

theorem do_makeMap (kv : K → Value) (ho : o.op = .makeMap mt none) (ht : dstOk o.dst nt = true) {keep : Bool} (hn : next (fput o.dst (.mp σ.length) fr) (σ ++ [.map (entsV kv [])])) : DoOp P nt o fr σ keep next := by
  refine do_value ht (fun v σ' => v = .mp σ.length ∧ σ' = σ ++ [.map (entsV kv [])]) (fun v σ' ⟨a, b⟩ => a ▸ b ▸ hn) fun k x A w s => ?_
  refine ⟨.map (some w.heap.size), w.alloc (.map #[] 0), x.push ⟨w.heap.size, 0, 0, true⟩, _, _, ?_, x.push_ext _, ?_, s.heap.new ?_, s.calm.alloc _, fun _ => agree_alloc _ _, rfl, rfl⟩
  · unfold execOp
    simp [ho, Instr.makeMap]
  · refine ⟨by simp [Ctx.push, s.heap.n], _, rfl, fun _ => ?_⟩
    simp [Ctx.push, s.heap.n]
  · exact ⟨rfl, #[], by simp [oneFrag], rfl, fun i e h => by simp at h⟩

/-- What an update does, in one world. -/
theorem update_run (KL : KeyLaw P kt kv) (hm : P.underlying mt = some (.map kt et)) {r : Nat} {arr : Array MapEntry} {vs : List (K × Value)} {w : World} (hget : w.heap[r]? = some (.map arr arr.size)) (hborn : ∀ (i : Nat) (e : MapEntry), arr[i]? = some e → e.born = i) (e : arr.toList.map (fun e => (e.key, e.val)) = vs.map (fun p => (kv p.1, p.2))) (x : K) (v : Value) :
    ∃ (arr' : Array MapEntry), (Instr.mapUpdate mt (.map (some r)) (kv x) v).run P w = .ok () { w with heap := w.heap.setIfInBounds r (.map arr' arr'.size) } ∧ arr'.toList.map (fun e => (e.key, e.val)) = (putA x v vs).map (fun p => (kv p.1, p.2)) ∧ ∀ (i : Nat) (e : MapEntry), arr'[i]? = some e → e.born = i := by
  have hg := obj_run (P := P) hget
  have hf := KL.find x arr.toList vs w e
  rcases lookA_spec x vs 0 with ⟨h1, _, _, h3⟩ | ⟨j, p, h1, h4, h5, _, _, h3⟩
  · refine ⟨arr.push { key := kv x, val := v, born := arr.size }, ?_, ?_, ?_⟩
    · unfold Instr.mapUpdate
      simp [run_underlying hm, hg, KL.chk, hf, h1, set_run hget]
    · rw [h3]; simp [e]
    · intro i e' he
      rw [Array.getElem?_push] at he
      split at he
      · rename_i hi; injection he with he; subst he; exact hi.symm
      · exact hborn i e' he
  · have hj : j < arr.size := by
      have h6 := congrArg List.length e
      have h7 := (List.getElem?_eq_some_iff.1 h4).1
      simp at h6; omega
    have hk : arr[j].key = kv x := by
      have h8 : (arr.toList.map (fun e => (e.key, e.val)))[j]? = some (kv p.1, p.2) := by rw [e]; simp [h4]
      simp [hj] at h8
      rw [h8.1, h5]
    refine ⟨arr.modify j fun e => { e with key := kv x, val := v }, ?_, ?_, ?_⟩
    · have hks : (Instr.keyThatStays (((arr[0 + j]?).map (·.key)).getD (kv x)) (kv x)).run P w = .ok (kv x) w := by
        have : ((arr[0 + j]?).map (·.key)).getD (kv x) = kv x := by simp [hj, hk]
        rw [this]
        simp [Instr.keyThatStays, KL.bits]
      unfold Instr.mapUpdate
      simp only [Sem.run_bind, run_underlying hm, Result.andThen_ok, hg, KL.chk, hf, h1, hks, Nat.zero_add]
      simp only [Nat.zero_add] at hks
      simp [hks, set_run hget]
    · rw [h3, List.map_set, ← e]
      apply List.ext_getElem?
      intro i
      simp only [List.getElem?_map, List.getElem?_set, Array.getElem?_toList, Array.getElem?_modify]
      by_cases hij : j = i
      · subst hij; simp [hj]
      · simp [hij]
    · intro i e' he
      rw [Array.getElem?_modify] at he
      split at he
      · rename_i hi
        subst hi
        rw [Option.map_eq_some_iff] at he
        obtain ⟨e0, h7, rfl⟩ := he
        exact hborn j e0 h7
      · exact hborn i e' he

theorem do_mapUpdate (KL : KeyLaw P kt kv) (hm : P.underlying mt = some (.map kt et)) {a b c : Operand} {key : K} (ho : o.op = .mapUpdate mt a b c) (hd : o.dst = none) (hl : σ[loc]? = some (.map (entsV kv l))) (ha : aget fr a = .mp loc)
    (hb : ∀ (x : Ctx) u, ARep x (aget fr b) u → u = kv key) (hn : next fr (σ.set loc (.map (entsV kv (putA key (aget fr c) l))))) : DoOp P nt o fr σ false next := by
  refine do_skip hd hn fun k x A w s => ?_
  have hra := s.arg a
  rw [ha] at hra
  obtain ⟨hlt, r, e, hc⟩ := hra
  obtain ⟨g, g1, g2, g3, g4⟩ := s.heap.own
  have hver := (g1 loc _ hl).1
  have hr := hc hver.symm
  subst hr
  have hkey := hb x _ (s.arg b)
  have hx : CtxExt x (x.upd loc (x.env loc)) := Ctx.upd_ext (Nat.le_refl _) fun _ => ⟨rfl, rfl, rfl⟩
  obtain ⟨_, arr, h1, h2, hborn⟩ := g1 loc _ hl
  obtain ⟨vs, e1, e2, e3⟩ := mrep_pairs h2
  have hget := g2 loc _ _ h1
  have hlt : (x.env loc).blk < w.heap.size := (Array.getElem?_eq_some_iff.1 hget).1
  obtain ⟨arr', hrun, e4, hborn'⟩ := update_run KL hm hget hborn e1 key (A.eval c)
  refine ⟨{ w with heap := w.heap.setIfInBounds (x.env loc).blk (.map arr' arr'.size) }, x.upd loc (x.env loc), ?_, hx, s.heap.upd hl hx fun g0 hg0 hle0 => ⟨⟨oneFrag (x.env loc).blk (.map arr' arr'.size), ?_, ?_, ?_⟩, ?_⟩, ⟨s.calm.os, s.calm.tape, s.calm.output⟩, fun h => by cases h⟩
  · unfold execOp
    simp [ho, e, hkey, hrun]
  · refine ⟨hver, arr', by simp [oneFrag], MRep.ext hx ?_, hborn'⟩
    obtain ⟨h3, h4⟩ := pairs_put (s.arg c) e2 e3 key
    exact pairs_mrep e4 h3 h4
  · intro c ob hb
    unfold oneFrag at hb
    split at hb
    · rename_i hcb; injection hb with hb; subst hcb hb; simp [hlt]
    · cases hb
  · intro c hc
    left
    unfold oneFrag at hc
    split at hc
    · rename_i hcb
      subst hcb
      obtain ⟨_, es', q1, _⟩ := hg0
      rw [q1]; simp
    · exact absurd rfl hc
  · intro c hc hlt
    have : (x.env loc).blk ≠ c := fun q => by
      subst q
      obtain ⟨_, es', q1, _⟩ := hg0
      rw [hc] at q1; cases q1
    simp [this]

section
variable {Q : Exit → Fr → List AObj → Prop} {ops : Array Oper} {dr : Bool} {dos ends : List Nat} {lt : Trr} {i d : Nat} {v : AV}
variable {op : Op} {ty : TypeId} {pos : String} {aft : Array Edge} {gd : Option (Nat × Bool)}

/-- A key that is a plain value. -/
theorem key_d {b : Operand} {u : Value} (h : aget fr b = .d (.v u)) : ∀ (x : Ctx) w, ARep x (aget fr b) w → w = u := by
  intro x w hr
  rw [h] at hr
  exact hr.1

theorem s_makeMapF (kv : K → Value) (hp : (dr && !dos.contains i) = false) (hg : guardB ops fr gd = some true) (hk : (dr && !ends.contains i && !true) = false) (ht : Nat.blt d nt = true) (h : ∀ loc σ', Fresh σ loc (.map (entsV kv [])) σ' → AL P nt ops dr dos ends lt Q ((d, .mp loc) :: fr) σ') : ALo P nt ops dr dos ends i ⟨some d, .makeMap mt none, ty, pos, aft, gd⟩ lt Q fr σ := by
  refine ⟨fun ho => s_do (keep := true) ho hp hg hk ?_⟩
  exact do_makeMap (o := ⟨some d, .makeMap mt none, ty, pos, aft, gd⟩) kv rfl ht (h _ _ (fresh_app _ _))

theorem s_lookup2 (KL : KeyLaw P kt kv) (hm : P.underlying mt = some (.map kt et)) {zv : AV} (hz : ∃ u, (∀ w : World, (zeroValue et).run P w = .ok u w) ∧ ∀ x : Ctx, ARep x zv u) (key : K) (l : List (K × AV)) {a b : Operand} (r : AV) (r2 : Bool) (hp : dr = dr) (hg : guardB ops fr gd = some true) (ht : Nat.blt d nt = true) (ha : aget fr a = .mp loc)
    (hl : σ[loc]? = some (.map (entsV kv l))) (hb : aget fr b = .d (.v (kv key))) (hr : (getA key l).getD zv = r) (hr2 : (getA key l).isSome = r2) (h : AL P nt ops dr dos ends lt Q ((d, .tup [r, .d (.v (.bool r2))]) :: fr) σ) : ALo P nt ops dr dos ends i ⟨some d, .lookup mt a b true, ty, pos, aft, gd⟩ lt Q fr σ := by
  subst hr hr2
  exact ⟨fun ho => s_read ho hp hg ht (do_lookup (c := true) KL hm hz rfl hl ha (key_d hb)) h⟩

theorem s_lookup1 (KL : KeyLaw P kt kv) (hm : P.underlying mt = some (.map kt et)) {zv : AV} (hz : ∃ u, (∀ w : World, (zeroValue et).run P w = .ok u w) ∧ ∀ x : Ctx, ARep x zv u) (key : K) (l : List (K × AV)) {a b : Operand} (r : AV) (hp : dr = dr) (hg : guardB ops fr gd = some true) (ht : Nat.blt d nt = true) (ha : aget fr a = .mp loc)
    (hl : σ[loc]? = some (.map (entsV kv l))) (hb : aget fr b = .d (.v (kv key))) (hr : (getA key l).getD zv = r) (h : AL P nt ops dr dos ends lt Q ((d, r) :: fr) σ) : ALo P nt ops dr dos ends i ⟨some d, .lookup mt a b false, ty, pos, aft, gd⟩ lt Q fr σ := by
  subst hr
  exact ⟨fun ho => s_read ho hp hg ht (do_lookup (c := false) KL hm hz rfl hl ha (key_d hb)) h⟩

theorem s_mapUpdateF (KL : KeyLaw P kt kv) (hm : P.underlying mt = some (.map kt et)) (key : K) (l l2 : List (K × AV)) {a b c : Operand} (hp : (dr && !dos.contains i) = false) (hg : guardB ops fr gd = some true) (hk : (dr && !ends.contains i && !false) = false) (ha : aget fr a = .mp loc)
    (hl : σ[loc]? = some (.map (entsV kv l))) (hb : aget fr b = .d (.v (kv key))) (hr : putA key (aget fr c) l = l2) (h : ∀ σ', Chg σ loc (.map (entsV kv l2)) σ' → AL P nt ops dr dos ends lt Q fr σ') : ALo P nt ops dr dos ends i ⟨none, .mapUpdate mt a b c, ty, pos, aft, gd⟩ lt Q fr σ := by
  subst hr
  refine ⟨fun ho => s_do (keep := false) ho hp hg hk ?_⟩
  exact do_mapUpdate KL hm rfl rfl hl ha (key_d hb) (h _ (chg_set hl))

end
end
end Go.Proofs.Ytciciaikajdenaa
/- Ag: a slice against nil, structs against structs, cap, made slices, results in cells, a walk over a map. -/
set_option linter.unusedSimpArgs false
set_option linter.unusedVariables false
namespace Go.Proofs.Ytciciaikajdenaa
open Go.RowKit

section
variable {P : Program} {T : Tab} {Z : TabZ} {nt : Nat} {Q : Exit → Fr → List AObj → Prop} {fr : Fr} {σ : List AObj} {ops : Array Oper} {dr : Bool} {dos ends : List Nat} {l : Trr} {o : Oper} {i d : Nat} {next : Fr → List AObj → Prop} {keep : Bool}
variable {ty : TypeId} {pos : String} {aft : Array Edge} {gd : Option (Nat × Bool)}

/-- An operation that only reads, and yields one of some. -/
def RdOpS (P : Program) (o : Oper) (fr : Fr) (σ : List AObj) (S : AV → Prop) : Prop :=
  ∀ k x nt A w, Sim k x nt fr σ A w → ∃ v u, S v ∧ ARep x v u ∧ ∀ w', Sees o w w' → (execOp A.eval o).run P w' = .ok (.value u) w'

theorem al_readS {S : AV → Prop} (ho : ops[i]? = some o) (hg : guardA ops fr o = some true) (ht : dstOk o.dst nt = true) (hr : RdOpS P o fr σ S)
    (h : ∀ v, S v → AL P nt ops dr dos ends l Q (fput o.dst v fr) σ) : AL P nt ops dr dos ends (.one i l) Q fr σ := by
  refine ⟨fun k x A w s => ?_⟩
  obtain ⟨v, u, hS, h1, h2⟩ := hr k x nt A w s
  unfold walkW stepW
  cases hd : (dr && dos.contains i) with
  | false => exact .inl ⟨rfl, o, u, ho, .inl ⟨guardA_spec s hg, h2⟩, (h v hS).out k x _ w (s.put ht h1)⟩
  | true =>
    refine .inr ⟨by rw [Bool.and_eq_true] at hd; rw [hd.1, hd.2]; rfl, ?_⟩
    have hy : YieldsIf P ops (Sees o w) o u A := .inl ⟨guardA_spec s hg, h2⟩
    exact hy.wpOp ho (Sees.refl o w) ⟨fun _ => Agree.refl w, (h v hS).out k x _ w (s.put ht h1)⟩

theorem run_equalIn_nilS {t e : TypeId} (w : World) (d : Nat) (a : Option Addr) (n c : Nat) (ht : P.underlying t = some (.slice e)) : (Op.equalIn (d + 1) t (.slice a n c) (.slice none 0 0)).run P w = .ok a.isNone w := by
  cases a <;> simp [Op.equalIn, run_underlying ht]

/-- A slice against nil. -/
theorem rd_nilS {t t' e sz : Nat} {a : Operand} {rows : List (List DV)} (ho : o.op = .binOp .eql t a (.const (.slice none 0 0)) t') (ht : P.underlying t = some (.slice e)) (ha : aget fr a = .d (.lst sz rows)) :
    RdOpS P o fr σ (fun v => ∃ b : Bool, v = .d (.v (.bool b)) ∧ (b = true → rows = [])) := by
  intro k x nt A w s
  have r := s.arg a
  rw [ha] at r
  obtain ⟨ad, cap, e1, hc, hq⟩ := r
  refine ⟨.d (.v (.bool ad.isNone)), .bool ad.isNone, ⟨_, rfl, fun hb => ?_⟩, ⟨rfl, rfl⟩, fun w' _ => ?_⟩
  · rcases hq with hq | ⟨b, off, rfl, _⟩
    · exact hq
    · cases hb
  · have e2 : A.eval (.const (.slice none 0 0)) = .slice none 0 0 := rfl
    unfold execOp
    simp only [ho, e1, e2]
    have hb : (binOp .eql t (.slice ad rows.length cap) (.slice none 0 0)).run P w' = .ok (.bool ad.isNone) w' := by
      simp only [binOp]
      simp [Op.equal, Op.maxDepth, run_equalIn_nilS w' 9999 ad rows.length cap ht]
    simp [eqGuard, hb]

theorem s_nilS {t t' e sz : Nat} {a : Operand} {rows : List (List DV)} (hp : dr = dr) (hg : guardB ops fr gd = some true) (ht : Nat.blt d nt = true) (he : P.underlying t = some (.slice e)) (ha : aget fr a = .d (.lst sz rows))
    (h1 : rows = [] → AL P nt ops dr dos ends l Q ((d, .d (.v (.bool true))) :: fr) σ) (h2 : AL P nt ops dr dos ends l Q ((d, .d (.v (.bool false))) :: fr) σ) :
    ALo P nt ops dr dos ends i ⟨some d, .binOp .eql t a (.const (.slice none 0 0)) t', ty, pos, aft, gd⟩ l Q fr σ := by
  refine ⟨fun ho => al_readS ho (guardB_eq hg) ht (rd_nilS rfl he ha) ?_⟩
  rintro v ⟨b, rfl, hb⟩
  cases b
  · exact h2
  · exact h1 (hb rfl)

/-- Structs of plain cells. -/
theorem plain_rep {F : Frag} : ∀ {vs us : List Value}, LRep F (vs.map .v) us → us = vs
  | [], _, h => h
  | a :: vs, _, ⟨u, us', e, r, q⟩ => by rw [e, r.1, plain_rep q]

theorem rd_aggEq {t t' : Nat} {a b : Operand} {xs ys : List Value} {r : Bool} (ho : o.op = .binOp .eql t a b t') (hm : P.eqGuardType P.depth t = false) (ha : aget fr a = .d (.agg (xs.map .v))) (hb : aget fr b = .d (.agg (ys.map .v)))
    (he : ∀ w, (Op.equalIn 10000 t (.agg xs.toArray) (.agg ys.toArray)).run P w = .ok r w) : RdOp P o fr σ (.d (.v (.bool r))) := by
  intro k x nt A w s
  have h1 := s.arg a
  have h2 := s.arg b
  rw [ha] at h1
  rw [hb] at h2
  obtain ⟨us, e1, q1, _⟩ := h1
  obtain ⟨vs, e2, q2, _⟩ := h2
  have := plain_rep q1
  have := plain_rep q2
  subst us vs
  refine ⟨.bool r, ⟨rfl, rfl⟩, fun w' _ => ?_⟩
  unfold execOp
  simp only [ho, e1, e2]
  simp [run_eqGuard_agg _ _ _ _ _ _ _ hm, run_eql_struct, he]
theorem rd_aggNe {t t' : Nat} {a b : Operand} {xs ys : List Value} {r : Bool} (ho : o.op = .binOp .neq t a b t') (hm : P.eqGuardType P.depth t = false) (ha : aget fr a = .d (.agg (xs.map .v))) (hb : aget fr b = .d (.agg (ys.map .v)))
    (he : ∀ w, (Op.equalIn 10000 t (.agg xs.toArray) (.agg ys.toArray)).run P w = .ok r w) : RdOp P o fr σ (.d (.v (.bool (!r)))) := by
  intro k x nt A w s
  have h1 := s.arg a
  have h2 := s.arg b
  rw [ha] at h1
  rw [hb] at h2
  obtain ⟨us, e1, q1, _⟩ := h1
  obtain ⟨vs, e2, q2, _⟩ := h2
  have := plain_rep q1
  have := plain_rep q2
  subst us vs
  refine ⟨.bool (!r), ⟨rfl, rfl⟩, fun w' _ => ?_⟩
  unfold execOp
  simp only [ho, e1, e2]
  simp [run_eqGuard_agg _ _ _ _ _ _ _ hm, run_neq_struct, he]

/-- nil's cap, and its part. -/
theorem rd_capN {t e : Nat} {a : Operand} (ho : o.op = .call { callee := .builtin .cap, args := #[a], argTypes := #[t] }) (ht : P.underlying t = some (.slice e)) (ha : aget fr a = .d .nil) : RdOp P o fr σ (.d (.v (.int .i64 0))) := by
  intro k x nt A w s
  have r := s.arg a
  rw [ha] at r
  obtain ⟨ad, e1⟩ := r
  refine ⟨.int .i64 0, ⟨rfl, rfl⟩, fun w' _ => ?_⟩
  unfold execOp
  simp [ho, resolve, invoke, builtin, Builtin.cap_, run_underlying ht, e1, goInt]
theorem s_capN {t e : Nat} {a : Operand} (hp : dr = dr) (hg : guardB ops fr gd = some true) (hd : Nat.blt d nt = true) (he : P.underlying t = some (.slice e)) (ha : aget fr a = .d .nil) (h : AL P nt ops dr dos ends l Q ((d, .d (.v (.int .i64 0))) :: fr) σ) : ALo P nt ops dr dos ends i ⟨some d, .call { callee := .builtin .cap, args := #[a], argTypes := #[t] }, ty, pos, aft, gd⟩ l Q fr σ :=
  ⟨fun ho => s_read ho hp hg hd (rd_capN rfl he ha) h⟩

theorem rd_sliceN (hT : okTab P T = true) {t e sz bytes : Nat} {agg : Bool} {a b : Operand} (ho : o.op = .slice t a none (some b) none) (ht : find1 T.sl t = some e) (he : find1 T.ty e = some (sz, bytes, agg)) (ha : aget fr a = .d .nil) (hb : aget fr b = .d (.v (.int .i64 0))) : RdOp P o fr σ (.d .nil) := by
  intro k x nt A w s
  have r := s.arg a
  rw [ha] at r
  obtain ⟨ad, e1⟩ := r
  have r2 := s.arg b
  rw [hb] at r2
  refine ⟨.slice ad 0 0, ⟨_, rfl⟩, fun w' _ => ?_⟩
  have hE : P.elem t = e := by simp [Program.elem, T.slIs hT ht]
  have ht2 : P.underlying t = some (.slice (P.elem t)) := by rw [hE]; exact T.slIs hT ht
  have hz := (T.tyIs hT he).size_run w'
  unfold execOp
  simp [ho, e1, r2.1, run_sliceAt_slice w' t _ none _ none ht2, run_slice_h w' t ad 0 0 ht2 .i64 0 (by omega) (by omega), hE, hz, Result.andThen, sliced]
theorem s_sliceN (hT : okTab P T = true) {t e sz bytes : Nat} {agg : Bool} {a b : Operand} (hp : dr = dr) (hg : guardB ops fr gd = some true) (hd : Nat.blt d nt = true) (ht : find1 T.sl t = some e) (he : find1 T.ty e = some (sz, bytes, agg)) (ha : aget fr a = .d .nil) (hb : aget fr b = .d (.v (.int .i64 0))) (h : AL P nt ops dr dos ends l Q ((d, .d .nil) :: fr) σ) :
    ALo P nt ops dr dos ends i ⟨some d, .slice t a none (some b) none, ty, pos, aft, gd⟩ l Q fr σ :=
  ⟨fun ho => s_read ho hp hg hd (rd_sliceN hT rfl ht he ha hb) h⟩

/-- Rows that are forgotten. -/
theorem ghost_shrink {loc U sz ver : Nat} {rows : List (List DV)} (n : Nat) (hl : σ[loc]? = some (.arr U sz ver rows)) : Ghost fr σ fr (σ.set loc (.arr U sz ver (rows.take n))) := by
  intro k x nt A w s
  have hx : CtxExt x (x.upd loc (x.env loc)) := Ctx.upd_ext (Nat.le_refl _) fun _ => ⟨rfl, rfl, rfl⟩
  refine ⟨_, hx, s.size, s.defers, fun i => (s.tmps i).ext hx, s.heap.upd hl hx fun g0 hg0 hle => ⟨⟨g0, ?_, hle, fun b hb => .inl hb⟩, fun b _ _ => rfl⟩, s.calm⟩
  obtain ⟨hv, ⟨h1, h2⟩ | ⟨h1, us, rest, h2, h3, h4, h5, h6, h7⟩⟩ := hg0
  · exact ⟨hv, .inl ⟨h1, by rw [h2]; simp⟩⟩
  · refine ⟨hv, .inr ⟨h1, us.take (n * sz), us.drop (n * sz) ++ rest, ?_, ?_, ?_, ?_, h6, ?_⟩⟩
    · rw [h2, ← List.append_assoc, List.take_append_drop]
    · exact (h3.take n).mono (Le.refl _)
    · exact fun u hu => h4 u (List.mem_of_mem_take hu)
    · rw [List.length_take]; omega
    · rw [List.length_append, List.length_take, List.length_drop]; omega

theorem Fresh.shrink {loc U sz ver n : Nat} {rows : List (List DV)} {σ0 : List AObj} (h : Fresh σ0 loc (.arr U sz ver rows) σ) : Fresh σ0 loc (.arr U sz ver (rows.take n)) (σ.set loc (.arr U sz ver (rows.take n))) :=
  ⟨List.getElem?_set_self (List.getElem?_eq_some_iff.1 h.at').1, fun k o' hk => ⟨by rw [List.getElem?_set_ne (Ne.symm (h.keep' k o' hk).2)]; exact (h.keep' k o' hk).1, (h.keep' k o' hk).2⟩⟩

/-- make. -/
theorem do_makeSlice (hT : okTab P T = true) {t e sz bytes n : Nat} {agg : Bool} {a b : Operand} {z : List Value} (ho : o.op = .makeSlice t a b) (ht : dstOk o.dst nt = true) (hs : find1 T.sl t = some e) (he : find1 T.ty e = some (sz, bytes, agg)) (hz : ZIs P e z) (hzl : Nat.beq z.length sz = true)
    (ha : aget fr a = .d (.v (.int .i64 (n : Int)))) (hb : aget fr b = .d (.v (.int .i64 (n : Int)))) (hn : n ≤ 1099511627776) (hby : Nat.ble bytes 256 = true)
    (h : next (fput o.dst (.own σ.length 0 sz 0 n) fr) (σ ++ [.arr e sz 0 (List.replicate n (z.map .v))])) : DoOp P nt o fr σ keep next := by
  refine do_value ht (fun v σ' => v = .own σ.length 0 sz 0 n ∧ σ' = σ ++ [.arr e sz 0 (List.replicate n (z.map .v))]) (fun v σ' ⟨a, b⟩ => a ▸ b ▸ h) fun k x A w s => ?_
  obtain ⟨i, zv, z1, z2, z3⟩ := hz.ex
  have hty := T.tyIs hT he
  obtain ⟨i2, dd, e1, e2, e3, e4, e5⟩ := hty.ex
  rw [z1] at e1
  injection e1 with e1
  subst e1
  have hzl := Nat.eq_of_beq_eq_true hzl
  have hby := Nat.le_of_ble_eq_true hby
  have ra := s.arg a
  have rb := s.arg b
  rw [ha] at ra
  rw [hb] at rb
  have hrun := run_make (P := P) w t e i zv (T.slIs hT hs) z1 z2 .i64 .i64 (n : Int) (n : Int) (by omega) (Int.le_refl _) (by
    have : i.bytes * n ≤ 281474976710656 := by rw [e4, Nat.mul_comm]; exact Nat.le_trans (Nat.mul_le_mul hn hby) (by omega)
    have h2 : ((i.bytes * n : Nat) : Int) ≤ 281474976710656 := by omega
    rwa [Int.natCast_mul] at h2) (by omega)
  simp only [Int.toNat_natCast] at hrun
  have hzs : zv.cells.size = sz := by rw [← hzl, ← z3]; simp
  have hfl : (madeCells zv.cells (n * i.size)).toList = (List.replicate n z).flatten := by
    apply List.ext_getElem?
    intro j
    have hsz : i.size = z.length := by rw [e3, hzl]
    by_cases hj : j < n * z.length
    · have hp : 0 < z.length := Nat.pos_of_ne_zero fun e => by rw [e] at hj; omega
      have hd : j / z.length < n := Nat.div_lt_of_lt_mul (by rw [Nat.mul_comm]; exact hj)
      have e1 : j = j / z.length * z.length + j % z.length := by rw [Nat.mul_comm]; exact (Nat.div_add_mod j z.length).symm
      have hg : (List.replicate n z).flatten[j]? = z[j % z.length]? := by
        have := src_make.flatten_get' (n := n) (List.replicate n z) (c := z.length) (fun r hr => by rw [List.eq_of_mem_replicate hr]) (j / z.length) (j % z.length) (Nat.mod_lt _ hp)
        rw [← e1] at this
        rw [this]
        simp [hd]
      rw [hg]
      have hm : j % z.length < z.length := Nat.mod_lt _ hp
      have hm2 : j % zv.cells.size < zv.cells.size := by rw [hzs, ← hzl]; exact hm
      have hzj : z[j % z.length]? = zv.cells[j % zv.cells.size]? := by
        rw [← z3, Array.getElem?_toList, Array.length_toList]
      rw [hzj]
      simp [madeCells, hsz, hj, hm2]
    · rw [List.getElem?_eq_none (by simp [madeCells, hsz]; omega), List.getElem?_eq_none (by simp; omega)]
  have hfr := frep_zeros (F := x.F) hzl hz.one n
  have hx := x.push_ext ⟨w.heap.size, n, 0, true⟩
  refine ⟨.slice (some ⟨w.heap.size, 0, none⟩) n n, w.alloc (.cells (madeCells zv.cells (n * i.size)) e), x.push ⟨w.heap.size, n, 0, true⟩, _, _, ?_, hx, ?_, s.heap.new ?_, s.calm.alloc _, fun _ => agree_alloc _ _, rfl, rfl⟩
  · unfold execOp
    simp only [ho, ra.1, rb.1]
    simp [hrun]
  · refine ⟨by simp [Ctx.push, s.heap.n], by simp, _, n, rfl, fun _ => ⟨Nat.le_refl _, fun _ => ?_, fun q => ?_⟩⟩
    · simp [Ctx.push, s.heap.n]
    · simp [Ctx.push, s.heap.n] at q
  · refine ⟨rfl, .inr ⟨rfl, (List.replicate n z).flatten, [], ?_, hfr.mono hx.F, ?_, by simp, by show n ≤ maxLen; unfold maxLen; omega, ?_⟩⟩
    · have : (List.replicate n z).flatten.toArray = madeCells zv.cells (n * i.size) := by rw [← hfl]
      simp [oneFrag, this]
    · intro u hu
      obtain ⟨r, hr, hur⟩ := List.mem_flatten.1 hu
      rw [List.eq_of_mem_replicate hr] at hur
      exact List.all_eq_true.1 hz.one u hur
    · simp [hzl]
theorem s_makeSliceF (hT : okTab P T = true) (hZ : okTabZ P Z = true) {t e sz bytes : Nat} (n : Nat) {agg : Bool} {a b : Operand} {z : List Value} {rows : List (List DV)} (hp : (dr && !dos.contains i) = false) (hg : guardB ops fr gd = some true) (hk : (dr && !ends.contains i && !true) = false) (ht : Nat.blt d nt = true) (hs : find1 T.sl t = some e) (he : find1 T.ty e = some (sz, bytes, agg)) (hz : find1 Z.zs e = some z) (hzl : Nat.beq z.length sz = true) (hby : Nat.ble bytes 256 = true)
    (ha : aget fr a = .d (.v (.int .i64 (n : Int)))) (hb : aget fr b = .d (.v (.int .i64 (n : Int)))) (hn : n ≤ 1099511627776 ∧ List.replicate n (z.map .v) = rows)
    (h : ∀ loc σ', Fresh σ loc (.arr e sz 0 rows) σ' → AL P nt ops dr dos ends l Q ((d, .own loc 0 sz 0 n) :: fr) σ') : ALo P nt ops dr dos ends i ⟨some d, .makeSlice t a b, ty, pos, aft, gd⟩ l Q fr σ := by
  obtain ⟨hn, rfl⟩ := hn
  refine ⟨fun ho => s_do (keep := true) ho hp hg hk ?_⟩
  exact do_makeSlice (o := ⟨some d, .makeSlice t a b, ty, pos, aft, gd⟩) hT rfl ht hs he (TabZ.z hZ hz) hzl ha hb hn hby (h _ _ (fresh_app _ _))

/-! Results, some of which stand in cells. -/
def resV (T : Tab) (fr : Fr) (σ : List AObj) : ResultVar → AV → Prop
  | .tmp t, v => fget fr t = v
  | .cell a t, v => ∃ sz bytes agg, find1 T.ty t = some (sz, bytes, agg) ∧ ((∃ loc off U cells, fget fr a = .ptr loc 0 off ∧ σ[loc]? = some (.row U cells) ∧ ldA agg sz (cells.drop off) = some v) ∨ ∃ cells d, fget fr a = .d (.fptr cells) ∧ ldD agg sz cells = some d ∧ v = .d d)
def resVL (T : Tab) (fr : Fr) (σ : List AObj) : List ResultVar → List AV → Prop
  | [], vs => vs = []
  | r :: rs, vs => ∃ v vs', vs = v :: vs' ∧ resV T fr σ r v ∧ resVL T fr σ rs vs'
def tupOf (l : List AV) : AV := match allD l with
  | some ds => .d (.tup ds)
  | none => .tup l
def resB (T : Tab) (fn : Func) (fr : Fr) (σ : List AObj) (v : AV) : Prop :=
  ∃ rs vs, fn.results.toList = rs ∧ resVL T fr σ rs vs ∧ (match rs with
    | [_] => ∃ x, vs = [x] ∧ v = x
    | [_, _] => v = tupOf vs
    | [_, _, _] => v = tupOf vs
    | _ => False)

theorem tupOf_rep {x : Ctx} {l : List AV} {us : List Value} (h : ALRep x l us) : ARep x (tupOf l) (.tuple us.toArray) := by
  unfold tupOf
  split
  · rename_i ds e
    rw [allD_map e] at h
    exact ⟨us, rfl, h.toD⟩
  · exact ⟨us, rfl, h⟩

def rvRun (A : Act) : ResultVar → Sem Value
  | .tmp t => pure (A.tmps.getD t undef)
  | .cell a t => do loadVar t (← asAddr (A.tmps.getD a undef))

theorem resV_run (hT : okTab P T = true) {k : K0} {x : Ctx} {A : Act} {w : World} (s : Sim k x nt fr σ A w) {r : ResultVar} {v : AV} (h : resV T fr σ r v) :
    ∃ u, (rvRun A r).run P w = .ok u w ∧ ARep x v u := by
  cases r with
  | tmp t =>
    have h : fget fr t = v := h
    exact ⟨_, by simp [rvRun], h ▸ s.tmps t⟩
  | cell a t =>
    obtain ⟨sz, bytes, agg, hty, h⟩ := h
    have key : RdOp P ⟨none, .load t (.tmp a), 0, "", #[], none⟩ fr σ v := by
      rcases h with ⟨loc, off, U, cells, h1, h2, h3⟩ | ⟨cells, d, h1, h2, rfl⟩
      · exact rd_load_p hT rfl hty h1 h2 h3
      · exact rd_load_f hT rfl hty h1 h2
    obtain ⟨u, hu, hr⟩ := key k x nt A w s
    refine ⟨u, ?_, hu⟩
    have hr := hr w (Sees.refl _ w)
    have hs : ∃ q, A.tmps.getD a undef = .pointer (some q) := by
      have h0 := s.tmps a
      rcases h with ⟨loc, off, U, cells, h1, h2, h3⟩ | ⟨cells, d, h1, h2, rfl⟩
      · rw [h1] at h0
        obtain ⟨_, _, q, e, _⟩ := h0
        exact ⟨q, e⟩
      · rw [h1] at h0
        obtain ⟨b, off, e, _⟩ := h0
        exact ⟨_, e⟩
    obtain ⟨q, hq⟩ := hs
    have he : A.eval (.tmp a) = .pointer (some q) := hq
    unfold execOp at hr
    simp only [he] at hr
    have : (loadVar t q).run P w = .ok u w := by
      simp only [Instr.loadAt, Instr.sureAddr, Sem.run_bind, Sem.run_pure, Result.andThen_ok] at hr
      cases hc : (loadVar t q).run P w with
      | ok v w1 =>
        rw [hc] at hr
        simp [Result.andThen] at hr
        rw [hr.1, hr.2]
      | halt y w1 =>
        rw [hc] at hr
        simp [Result.andThen] at hr
    simp [rvRun, hq, asAddr, this]

theorem resB_spec (hT : okTab P T = true) {fn : Func} {k : K0} {x : Ctx} {A : Act} {w : World} (s : Sim k x nt fr σ A w) {v : AV} (h : resB T fn fr σ v) : ∃ u, (results fn A.tmps).run P w = .ok u w ∧ ARep x v u := by
  obtain ⟨rs, vs, hrs, h1, h2⟩ := h
  have hres : results fn A.tmps = (do
      let vs ← fn.results.mapM (rvRun A)
      pure (if h : vs.size = 1 then vs[0] else .tuple vs)) := rfl
  have hl : fn.results = rs.toArray := by rw [← hrs]
  rw [hres, hl]
  match rs, h2 with
  | [r], ⟨y, e, e0⟩ =>
    subst e0
    obtain ⟨v1, vs', e1, q1, q2⟩ := h1
    have q2 : vs' = [] := q2
    subst q2 e
    injection e1 with e1
    subst e1
    obtain ⟨u1, r1, p1⟩ := resV_run hT s q1
    exact ⟨u1, by simp [r1], p1⟩
  | [r, r'], e =>
    have e : v = tupOf vs := e
    obtain ⟨v1, vs', e1, q1, v2, vs'', e2, q2, q3⟩ := h1
    have q3 : vs'' = [] := q3
    subst q3 e2 e1 e
    obtain ⟨u1, r1, p1⟩ := resV_run hT s q1
    obtain ⟨u2, r2, p2⟩ := resV_run hT s q2
    exact ⟨.tuple #[u1, u2], by simp [r1, r2], tupOf_rep ⟨_, _, rfl, p1, _, _, rfl, p2, rfl⟩⟩
  | [r, r', r''], e =>
    have e : v = tupOf vs := e
    obtain ⟨v1, vs', e1, q1, v2, vs'', e2, q2, v3, vs3, e3, q3, q4⟩ := h1
    have q4 : vs3 = [] := q4
    subst q4 e3 e2 e1 e
    obtain ⟨u1, r1, p1⟩ := resV_run hT s q1
    obtain ⟨u2, r2, p2⟩ := resV_run hT s q2
    obtain ⟨u3, r3, p3⟩ := resV_run hT s q3
    exact ⟨.tuple #[u1, u2, u3], by simp [r1, r2, r3], tupOf_rep ⟨_, _, rfl, p1, _, _, rfl, p2, _, _, rfl, p3, rfl⟩⟩
  | [], e => exact e.elim
  | _ :: _ :: _ :: _ :: _, e => exact e.elim

def retQB (T : Tab) (fn : Func) (post : AV → List AObj → Prop) : Exit → Fr → List AObj → Prop
  | .normal, fr, σ => ∃ v, resB T fn fr σ v ∧ post v σ
  | .ret, fr, σ => ∃ v, resB T fn fr σ v ∧ post v σ
  | _, _, _ => False

theorem runs_enterB {f : FuncId} {fn : Func} {c : Code} {args : List AV} {post : AV → List AObj → Prop} (hT : okTab P T = true) (hf : P.funcs[f]? = some fn) (hb : fn.body = some c) (hg : isGo P f = true) (hn : Nat.ble args.length fn.ntmps = true)
    (h : AWk P fn.ntmps c (retQB T fn post) (frameOf args 0) σ) : Runs P f args σ post := by
  refine ⟨hg, fun B R x w vs ha hh hc => ?_⟩
  refine calls_of_wp hf hb ?_
  have hl := ha.len
  have hn := Nat.le_of_ble_eq_true hn
  have s : Sim ⟨B, R, []⟩ x fn.ntmps (frameOf args 0) σ { tmps := vs.toArray ++ Array.replicate (fn.ntmps - vs.toArray.size) undef, defers := [] } w := by
    refine ⟨by simp; omega, rfl, fun i => ?_, hh, hc⟩
    have := frame_rep (Array.replicate (fn.ntmps - vs.toArray.size) undef) #[] ha i
    simpa using this
  refine wp_mono (h.out _ x _ w s) fun e A w' p => ?_
  cases e with
  | normal =>
    obtain ⟨x', fr, σ', hx, hs, v, hr, hp⟩ := p
    obtain ⟨u, h1, h2⟩ := resB_spec hT hs hr
    exact ⟨hs.defers, u, h1, u, v, x', σ', rfl, hx, h2, hs.heap, hs.calm, hp⟩
  | ret =>
    obtain ⟨x', fr, σ', hx, hs, v, hr, hp⟩ := p
    obtain ⟨u, h1, h2⟩ := resB_spec hT hs hr
    exact ⟨hs.defers, u, h1, u, v, x', σ', rfl, hx, h2, hs.heap, hs.calm, hp⟩
  | exit i => obtain ⟨x', fr, σ', hx, hs, hp⟩ := p; exact hp
  | goto i => obtain ⟨x', fr, σ', hx, hs, hp⟩ := p; exact hp
  | panic _ => obtain ⟨_, _, _, _, _, _, hq⟩ := p; exact hq.elim
  | outgrown => exact p.elim

/-- A function's body. -/
theorem enterB {f : FuncId} {fn : Func} {c : Code} {args : List AV} {post : AV → List AObj → Prop} (nt : Nat) {fr : Fr} (hT : okTab P T = true) (hf : P.funcs[f]? = some fn) (hb : fn.body = some c) (hg : isGo P f = true) (hnt : Nat.beq fn.ntmps nt = true) (hn : Nat.ble args.length nt = true)
    (hfr : seqL (frameOf args 0) some = some fr) (h : AWk P nt c (retQB T fn post) fr σ) : Runs P f args σ post := by
  have e := Nat.eq_of_beq_eq_true hnt
  subst e
  rw [seqL_eq] at hfr
  injection hfr with hfr
  subst hfr
  exact runs_enterB hT hf hb hg hn h
theorem enterPB {f : FuncId} {fn : Func} {c : Code} {args : List DV} {post : DV → Prop} (nt : Nat) {fr : Fr} (hT : okTab P T = true) (hf : P.funcs[f]? = some fn) (hb : fn.body = some c) (hg : isGo P f = true) (hnt : Nat.beq fn.ntmps nt = true) (hn : Nat.ble (args.map AV.d).length nt = true)
    (hfr : seqL (frameOf (args.map AV.d) 0) some = some fr) (h : AWk P nt c (retQB T fn fun v _ => ∃ d, v = .d d ∧ post d) fr []) : RunsP P f args post := Runs.pure (enterB nt hT hf hb hg hnt hn hfr h)

/-- Back from a function: one result, two, three. -/
theorem q_retB {fn : Func} {post : AV → List AObj → Prop} {v : AV} (e : resB T fn fr σ v) (h : post v σ) : retQB T fn post .ret fr σ := ⟨v, e, h⟩
theorem q_endB {fn : Func} {post : AV → List AObj → Prop} {v : AV} (e : resB T fn fr σ v) (h : post v σ) : retQB T fn post .normal fr σ := ⟨v, e, h⟩
theorem resV_t {t : Nat} {v : AV} (h : fget fr t = v) : resV T fr σ (.tmp t) v := h
theorem resV_c {a t sz bytes loc off U : Nat} {agg : Bool} {cells : List AV} {v : AV} (hy : find1 T.ty t = some (sz, bytes, agg)) (hp : fget fr a = .ptr loc 0 off) (hs : σ[loc]? = some (.row U cells)) (hv : ldAO agg sz off cells = some v) : resV T fr σ (.cell a t) v :=
  ⟨sz, bytes, agg, hy, .inl ⟨loc, off, U, cells, hp, hs, ldAO_eq hv⟩⟩
theorem resB_1 {fn : Func} {r : ResultVar} {v : AV} (e : fn.results.toList = [r]) (h : resV T fr σ r v) : resB T fn fr σ v := ⟨_, _, e, ⟨v, [], rfl, h, rfl⟩, v, rfl, rfl⟩
theorem resB_2 {fn : Func} {r r' : ResultVar} {v v' q : AV} (e : fn.results.toList = [r, r']) (h : resV T fr σ r v) (h' : resV T fr σ r' v') (hq : tupOf [v, v'] = q) : resB T fn fr σ q :=
  ⟨_, _, e, ⟨_, _, rfl, h, _, _, rfl, h', rfl⟩, hq.symm⟩
theorem resB_3 {fn : Func} {r r' r'' : ResultVar} {v v' v'' q : AV} (e : fn.results.toList = [r, r', r'']) (h : resV T fr σ r v) (h' : resV T fr σ r' v') (h'' : resV T fr σ r'' v'') (hq : tupOf [v, v', v''] = q) : resB T fn fr σ q :=
  ⟨_, _, e, ⟨_, _, rfl, h, _, _, rfl, h', _, _, rfl, h'', rfl⟩, hq.symm⟩

/-! A walk over a map. -/

theorem MRep.get {x : Ctx} : ∀ {ps : List (Value × AV)} {es : List MapEntry} {i : Nat} {e : MapEntry}, MRep x ps es → es[i]? = some e → ∃ p, ps[i]? = some p ∧ e.key = p.1 ∧ ARep x p.2 e.val
  | [], _, _, _, h, he => by rw [show _ = _ from h] at he; simp at he
  | p :: ps, _, 0, e, ⟨e1, es', h1, h2, h3, h4⟩, he => by subst h1; simp at he; subst he; exact ⟨p, rfl, h2, h3⟩
  | p :: ps, _, i + 1, e, ⟨e1, es', h1, h2, h3, h4⟩, he => by subst h1; simpa using MRep.get (i := i) h4 (by simpa using he)
theorem MRep.len {x : Ctx} : ∀ {ps : List (Value × AV)} {es : List MapEntry}, MRep x ps es → es.length = ps.length
  | [], _, h => by rw [show _ = _ from h]; rfl
  | _ :: _, _, ⟨_, _, h1, _, _, h4⟩ => by rw [h1]; simp [MRep.len h4]

theorem do_range {mt kt et loc : Nat} {a : Operand} {ps : List (Value × AV)} (hm : P.underlying mt = some (.map kt et)) (ho : o.op = .range mt a) (ht : dstOk o.dst nt = true) (hl : σ[loc]? = some (.map ps)) (ha : aget fr a = .mp loc)
    (hn : next (fput o.dst (.ptr σ.length 0 0) fr) (σ ++ [.iter loc ps.length []])) : DoOp P nt o fr σ keep next := by
  refine do_value ht (fun v σ' => v = .ptr σ.length 0 0 ∧ σ' = σ ++ [.iter loc ps.length []]) (fun v σ' ⟨a, b⟩ => a ▸ b ▸ hn) fun k x A w s => ?_
  have hra := s.arg a
  rw [ha] at hra
  obtain ⟨hlt, r, e, hc⟩ := hra
  obtain ⟨g, g1, g2, g3, g4⟩ := s.heap.own
  obtain ⟨hver, es, h1, h2, h3⟩ := g1 loc _ hl
  have hr := hc hver.symm
  subst hr
  have hget := g2 loc _ _ h1
  have hlen : es.size = ps.length := by rw [← h2.len]; simp
  rw [hlen] at hget
  refine ⟨.pointer (some ⟨w.heap.size, 0, none⟩), w.alloc (.mapIter (some (x.env loc).blk) ps.length #[] ps.length), x.push ⟨w.heap.size, 0, 0, true⟩, _, _, ?_, x.push_ext _, ?_, s.heap.new ?_, s.calm.alloc _, fun _ => agree_alloc _ _, rfl, rfl⟩
  · unfold execOp
    simp [ho, e, run_range_map w mt kt et _ es ps.length hm hget]
  · refine ⟨by simp [Ctx.push, s.heap.n], by simp, _, rfl, fun _ => ?_⟩
    simp [Ctx.push, s.heap.n]
  · refine ⟨rfl, (x.env loc).blk, by simp [oneFrag], Nat.lt_of_lt_of_le hlt (Nat.le_succ _), fun _ => ?_⟩
    simp [Ctx.push, Nat.ne_of_lt hlt]
theorem s_rangeF {mt kt et loc : Nat} {a : Operand} {ps : List (Value × AV)} (hm : P.underlying mt = some (.map kt et)) (hp : (dr && !dos.contains i) = false) (hg : guardB ops fr gd = some true) (hk : (dr && !ends.contains i && !true) = false) (ht : Nat.blt d nt = true) (ha : aget fr a = .mp loc) (hl : σ[loc]? = some (.map ps))
    (h : ∀ loc' σ', Fresh σ loc' (.iter loc ps.length []) σ' → AL P nt ops dr dos ends l Q ((d, .ptr loc' 0 0) :: fr) σ') : ALo P nt ops dr dos ends i ⟨some d, .range mt a, ty, pos, aft, gd⟩ l Q fr σ := by
  refine ⟨fun ho => s_do (keep := true) ho hp hg hk ?_⟩
  exact do_range (o := ⟨some d, .range mt a, ty, pos, aft, gd⟩) hm rfl ht hl ha (h _ _ (fresh_app _ _))

/-- The next entry: which one, is not said. -/
theorem do_next {loc it : Nat} {a : Operand} {ps : List (Value × AV)} {seen : List Nat} (ho : o.op = .next a false) (ht : dstOk o.dst nt = true) (hl : σ[loc]? = some (.map ps)) (hi : σ[it]? = some (.iter loc ps.length seen)) (ha : aget fr a = .ptr it 0 0)
    (h1 : (∀ j, j < ps.length → j ∈ seen) → next (fput o.dst (.d (.tup [.v (.bool false)])) fr) σ)
    (h2 : ∀ j p, j ∉ seen → ps[j]? = some p → next (fput o.dst (.tup [.d (.v (.bool true)), .any, .any]) fr) (σ.set it (.iter loc ps.length (seen ++ [j])))) : DoOp P nt o fr σ false next := by
  refine do_value ht (fun v σ' => ((∀ j, j < ps.length → j ∈ seen) ∧ v = .d (.tup [.v (.bool false)]) ∧ σ' = σ) ∨ ∃ j p, j ∉ seen ∧ ps[j]? = some p ∧ v = .tup [.d (.v (.bool true)), .any, .any] ∧ σ' = σ.set it (.iter loc ps.length (seen ++ [j]))) (fun v σ' q => by
    rcases q with ⟨q, rfl, rfl⟩ | ⟨j, p, q, q2, rfl, rfl⟩
    · exact h1 q
    · exact h2 j p q q2) fun k x A w s => ?_
  have hra := s.arg a
  rw [ha] at hra
  obtain ⟨hlt, _, ad, e, hc⟩ := hra
  obtain ⟨g, g1, g2, g3, g4⟩ := s.heap.own
  obtain ⟨hver, es, m1, m2, m3⟩ := g1 loc _ hl
  obtain ⟨iver, r, i1, i2, i3⟩ := g1 it _ hi
  have had := hc iver.symm
  have hr := i3 hver.symm
  subst had hr
  have hlen : es.size = ps.length := by rw [← m2.len]; simp
  rw [hlen] at m1
  have hget := g2 loc _ _ m1
  have hit := g2 it _ _ i1
  have born : ∀ y ∈ es.toList, ∃ j, es[j]? = some y ∧ y.born = j := fun y hy => by
    obtain ⟨j, hj⟩ := List.getElem?_of_mem hy
    rw [Array.getElem?_toList] at hj
    exact ⟨j, hj, m3 j y hj⟩
  rcases run_next_at (P := P) w o.type (x.env it).blk (x.env loc).blk ps.length ps.length seen.toArray es ps.length hit hget (fun y hy => by
    obtain ⟨j, hj, hb⟩ := born y hy
    have := (Array.getElem?_eq_some_iff.1 hj).1
    omega) (Nat.le_refl _) with ⟨h0, hrun⟩ | ⟨ent, he, w1, hal, hrun⟩
  · refine ⟨.tuple #[.bool false], w, x, .d (.tup [.v (.bool false)]), σ, ?_, .refl x, ⟨[.bool false], rfl, _, _, rfl, ⟨rfl, rfl⟩, rfl⟩, s.heap, s.calm, (fun q => by cases q), .inl ⟨fun j hj => ?_, rfl, rfl⟩⟩
    · unfold execOp
      simp [ho, e, hrun]
    · have hje : es[j]? = some es[j] := Array.getElem?_eq_getElem (by omega)
      have := all_seen es seen.toArray h0 es[j] (Array.mem_toList_iff.2 (Array.getElem_mem _))
      rw [m3 j _ hje] at this
      simpa using this
  · obtain ⟨hem, hes⟩ := mem_left he
    obtain ⟨j, hj, hb⟩ := born ent hem
    obtain ⟨p, hp, hk, hv⟩ := m2.get (i := j) (e := ent) (by simpa using hj)
    have hx : CtxExt x (x.upd it (x.env it)) := Ctx.upd_ext (Nat.le_refl _) fun _ => ⟨rfl, rfl, rfl⟩
    have hw1 : w1.heap = w.heap := by rcases hal with rfl | rfl <;> rfl
    have hblt : (x.env it).blk < w.heap.size := (Array.getElem?_eq_some_iff.1 hit).1
    have hne : (x.env it).blk ≠ (x.env loc).blk := fun q => by rw [q, hget] at hit; cases hit
    refine ⟨.tuple #[.bool true, ent.key, ent.val], _, x.upd it (x.env it), .tup [.d (.v (.bool true)), .any, .any], _, ?_, hx, ⟨[.bool true, ent.key, ent.val], rfl, _, _, rfl, ⟨rfl, rfl⟩, _, _, rfl, trivial, _, _, rfl, trivial, rfl⟩, s.heap.upd (w' := ChangeMaps.setBlock w1 (x.env it).blk (.mapIter (some (x.env loc).blk) ps.length (seen.toArray.push ent.born) ps.length)) hi hx fun g0 hg0 hle0 => ⟨⟨oneFrag (x.env it).blk (.mapIter (some (x.env loc).blk) ps.length (seen ++ [j]).toArray ps.length), ?_, ?_, ?_⟩, ?_⟩, ?_, (fun q => by cases q), .inr ⟨j, p, ?_, hp, rfl, rfl⟩⟩
    · unfold execOp
      simp [ho, e, hrun]
    · refine ⟨iver, (x.env loc).blk, by simp [oneFrag], ?_, fun q => ?_⟩
      · exact i2
      · simp only [Ctx.upd]
        split
        · rename_i q; exact absurd (by rw [q]) hne.symm
        · rfl
    · intro b ob hb'
      unfold oneFrag at hb'
      split at hb'
      · rename_i q
        injection hb' with hb'
        subst q hb'
        simp [ChangeMaps.setBlock, hw1, hblt, hb]
      · cases hb'
    · intro b hb'
      left
      unfold oneFrag at hb'
      split at hb'
      · rename_i q
        subst q
        obtain ⟨_, r', q1, _⟩ := hg0
        rw [q1]; simp
      · exact absurd rfl hb'
    · intro b hb' hlt'
      have : (x.env it).blk ≠ b := fun q => by
        subst q
        obtain ⟨_, r', q1, _⟩ := hg0
        rw [hb'] at q1; cases q1
      simp [ChangeMaps.setBlock, hw1, this]
    · rcases hal with rfl | rfl <;> exact ⟨s.calm.os, s.calm.tape, s.calm.output⟩
    · intro hmem
      have : seen.toArray.contains ent.born = true := by rw [hb]; simpa using hmem
      rw [this] at hes
      cases hes
theorem s_nextF {loc it : Nat} {a : Operand} {ps : List (Value × AV)} {seen : List Nat} (hp : (dr && !dos.contains i) = false) (hg : guardB ops fr gd = some true) (hk : (dr && !ends.contains i && !false) = false) (ht : Nat.blt d nt = true) (ha : aget fr a = .ptr it 0 0) (hi : σ[it]? = some (.iter loc ps.length seen)) (hl : σ[loc]? = some (.map ps))
    (h1 : (∀ j, j < ps.length → j ∈ seen) → AL P nt ops dr dos ends l Q ((d, .d (.tup [.v (.bool false)])) :: fr) σ)
    (h2 : ∀ j p, j ∉ seen → ps[j]? = some p → ∀ σ', Chg σ it (.iter loc ps.length (seen ++ [j])) σ' → AL P nt ops dr dos ends l Q ((d, .tup [.d (.v (.bool true)), .any, .any]) :: fr) σ') : ALo P nt ops dr dos ends i ⟨some d, .next a false, ty, pos, aft, gd⟩ l Q fr σ := by
  refine ⟨fun ho => s_do (keep := false) ho hp hg hk ?_⟩
  exact do_next (o := ⟨some d, .next a false, ty, pos, aft, gd⟩) rfl ht hl hi ha h1 fun j p hj hjp => h2 j p hj hjp _ (chg_set hi)

/-- The entry that was come to. -/
theorem rd_entry {loc it j : Nat} {a : Operand} {ps : List (Value × AV)} {p : Value × AV} {seen : List Nat} (ho : o.op = .entry a) (hl : σ[loc]? = some (.map ps)) (hi : σ[it]? = some (.iter loc ps.length (seen ++ [j]))) (ha : aget fr a = .ptr it 0 0) (hj : ps[j]? = some p) (h1c : p.1.oneCell' = true) :
    RdOp P o fr σ (.tup [.d (.v p.1), p.2]) := by
  intro k x nt A w s
  have hra := s.arg a
  rw [ha] at hra
  obtain ⟨hlt, _, ad, e, hc⟩ := hra
  obtain ⟨g, g1, g2, g3, g4⟩ := s.heap.own
  obtain ⟨hver, es, m1, m2, m3⟩ := g1 loc _ hl
  obtain ⟨iver, r, i1, i2, i3⟩ := g1 it _ hi
  have had := hc iver.symm
  have hr := i3 hver.symm
  subst had hr
  have hlen : es.size = ps.length := by rw [← m2.len]; simp
  rw [hlen] at m1
  have hget := g2 loc _ _ m1
  have hit := g2 it _ _ i1
  have hjl : j < es.size := by have := (List.getElem?_eq_some_iff.1 hj).1; omega
  have hje : es[j]? = some es[j] := Array.getElem?_eq_getElem hjl
  obtain ⟨p', hp', hk, hv⟩ := m2.get (i := j) (e := es[j]) (by simp [hje])
  rw [hj] at hp'
  injection hp' with hp'
  subst hp'
  have hb := m3 j _ hje
  refine ⟨.tuple #[es[j].key, es[j].val], ⟨[es[j].key, es[j].val], rfl, _, _, rfl, ⟨hk, h1c⟩, _, _, rfl, hv, rfl⟩, fun w' ag => ?_⟩
  have ag := ag.resolve_left (by rw [ho]; exact Bool.false_ne_true)
  have hit' := ag.get hit
  have hget' := ag.get hget
  have hs : (seen ++ [j]).toArray = seen.toArray.push es[j].born := by rw [hb]; simp
  rw [hs] at hit'
  have hnd : (es.toList.map (·.born)).Nodup := by
    have : es.toList.map (·.born) = List.range es.size := by
      apply List.ext_getElem?
      intro q
      simp only [List.getElem?_map, Array.getElem?_toList]
      cases hq : es[q]? with
      | none =>
        have : es.size ≤ q := by simpa using hq
        simp [this]
      | some y =>
        have := (Array.getElem?_eq_some_iff.1 hq).1
        simp [m3 q y hq, List.getElem?_range this]
    rw [this]
    exact List.nodup_range
  have hrun := run_entry_at (P := P) w' (x.env it).blk (x.env loc).blk ps.length seen.toArray es ps.length es[j] hit' hget' (Array.mem_toList_iff.2 (Array.getElem_mem _)) hnd
  unfold execOp
  simp [ho, e, hrun]
theorem s_entry {loc it j : Nat} {a : Operand} {ps : List (Value × AV)} {kx : Value} {vx : AV} {seen : List Nat} (hp : dr = dr) (hg : guardB ops fr gd = some true) (ht : Nat.blt d nt = true) (ha : aget fr a = .ptr it 0 0) (hi : σ[it]? = some (.iter loc ps.length (seen ++ [j]))) (hl : σ[loc]? = some (.map ps)) (hj : ps[j]? = some (kx, vx)) (h1c : kx.oneCell' = true)
    (h : AL P nt ops dr dos ends l Q ((d, .tup [.d (.v kx), vx]) :: fr) σ) : ALo P nt ops dr dos ends i ⟨some d, .entry a, ty, pos, aft, gd⟩ l Q fr σ :=
  ⟨fun ho => s_read ho hp hg ht (rd_entry rfl hl hi ha hj h1c) h⟩
end
end Go.Proofs.Ytciciaikajdenaa
