/- A map in memory, as a list of its keys and values; what the language's own steps on it do. No program in sight. -/
import Derived.Test.YtciciaikajdenaaSlApp
set_option linter.unusedSimpArgs false
set_option linter.unusedVariables false
namespace Go.Proofs.Ytciciaikajdenaa
open Go.RowKit
open Classical

section
variable {K α β : Type}

noncomputable def getA (x : K) : List (K × α) → Option α
  | [] => none
  | p :: es => if x = p.1 then some p.2 else getA x es
noncomputable def delA (x : K) : List (K × α) → List (K × α)
  | [] => []
  | p :: es => if x = p.1 then es else p :: delA x es
noncomputable def putA (x : K) (v : α) : List (K × α) → List (K × α)
  | [] => [(x, v)]
  | p :: es => if x = p.1 then (x, v) :: es else p :: putA x v es
noncomputable def lookA (x : K) : List (K × α) → Nat → Option (Nat × α)
  | [], _ => none
  | p :: es, i => if x = p.1 then some (i, p.2) else lookA x es (i + 1)

theorem lookA_spec (x : K) : ∀ (es : List (K × α)) (i : Nat), (lookA x es i = none ∧ getA x es = none ∧ delA x es = es ∧ ∀ v, putA x v es = es ++ [(x, v)]) ∨
    ∃ j p, lookA x es i = some (i + j, p.2) ∧ es[j]? = some p ∧ x = p.1 ∧ getA x es = some p.2 ∧ delA x es = es.eraseIdx j ∧ ∀ v, putA x v es = es.set j (x, v)
  | [], i => .inl ⟨rfl, rfl, rfl, fun _ => rfl⟩
  | p :: es, i => by
    by_cases h : x = p.1
    · exact .inr ⟨0, p, by simp [lookA, h], rfl, h, by simp [getA, h], by simp [delA, h], by simp [putA, h]⟩
    · rcases lookA_spec x es (i + 1) with ⟨h1, h2, h3, h4⟩ | ⟨j, q, h1, h2, h3, h4, h5, h6⟩
      · exact .inl ⟨by simp [lookA, h, h1], by simp [getA, h, h2], by simp [delA, h, h3], fun v => by simp [putA, h, h4]⟩
      · exact .inr ⟨j + 1, q, by simp [lookA, h, h1]; omega, by simpa using h2, h3, by simp [getA, h, h4], by simp [delA, h, h5], fun v => by simp [putA, h, h6]⟩

/-- What a key's type must do. -/
structure KeyLaw (P : Program) (kt : TypeId) (kv : K → Value) : Prop where
  find : ∀ (x : K) (arr : List MapEntry) (es : List (K × Value)) (w : World), arr.map (fun e => (e.key, e.val)) = es.map (fun p => (kv p.1, p.2)) → (Instr.findKey kt (kv x) arr).run P w = .ok (lookA x es 0) w
  chk : ∀ (b : Bool) (x : K) (w : World), (Instr.checkKey b 10000 kt (kv x)).run P w = .ok () w
  bits : ∀ x : K, Instr.sameBits 10000 (kv x) (kv x) = true

theorem findAsking_run {P : Program} {kt : TypeId} {kv : K → Value} (heq : ∀ (x y : K) (w : World), (Op.equal kt (kv x) (kv y)).run P w = .ok (decide (x = y)) w) (x : K) :
    ∀ (arr : List MapEntry) (es : List (K × Value)) (i : Nat) (w : World), arr.map (fun e => (e.key, e.val)) = es.map (fun p => (kv p.1, p.2)) → (Instr.findAsking kt (kv x) arr i).run P w = .ok (lookA x es i) w
  | [], [], i, w, _ => by simp [Instr.findAsking, lookA]
  | [], _ :: _, _, _, h => by simp at h
  | _ :: _, [], _, _, h => by simp at h
  | e :: arr, p :: es, i, w, h => by
    simp only [List.map_cons, List.cons.injEq, Prod.mk.injEq] at h
    obtain ⟨⟨h1, h2⟩, h3⟩ := h
    simp only [Instr.findAsking, Sem.run_bind, h1, heq, Result.andThen_ok, Sem.run_ite, Sem.run_pure, decide_eq_true_eq]
    by_cases hx : x = p.1
    · rw [if_pos hx]; simp [lookA, hx, h2]
    · rw [if_neg hx, findAsking_run heq x arr es (i + 1) w h3]; simp [lookA, hx]

/-- A map in memory. -/
def mapB (kv : K → Value) (r : Nat) (es : List (K × Value)) : HProp := fun f => ∃ (arr : Array MapEntry) (clock : Nat), f r = some (.map arr clock) ∧ arr.toList.map (fun e => (e.key, e.val)) = es.map (fun p => (kv p.1, p.2))

section
variable {W0 w : World} {L : List HProp} {P : Program} {kt et mt : TypeId} {kv : K → Value} {r : Nat} {es : List (K × Value)}

theorem St.map_open (h : St W0 w (mapB kv r es :: L)) : ∃ arr clock, St W0 w (objB r (.map arr clock) :: L) ∧ arr.toList.map (fun e => (e.key, e.val)) = es.map (fun p => (kv p.1, p.2)) := by
  obtain ⟨f, g, ⟨arr, clock, h1, h2⟩, q, d⟩ := h.sep
  exact ⟨arr, clock, ⟨h.os, h.tape, h.output, h.size, h.block, f, g, h1, q, d⟩, h2⟩

theorem St.map_close {arr : Array MapEntry} {clock : Nat} (h : St W0 w (objB r (.map arr clock) :: L)) (e : arr.toList.map (fun e => (e.key, e.val)) = es.map (fun p => (kv p.1, p.2))) : St W0 w (mapB kv r es :: L) :=
  h.head fun _ s => ⟨arr, clock, s, e⟩

/-- A new map. -/
theorem St.map_new (kv : K → Value) (h : St W0 w L) : St W0 (w.alloc (.map #[] 0)) (mapB kv w.heap.size [] :: L) := St.map_close (h.alloc (.map #[] 0)) rfl

theorem St.objSet {b : Nat} {o o' : Obj} (h : St W0 w (objB b o :: L)) : St W0 { w with heap := w.heap.setIfInBounds b o' } (objB b o' :: L) := by
  obtain ⟨hb, hlt⟩ := h.obj
  have hbs : b < w.heap.size := (Array.getElem?_eq_some_iff.1 hb).1
  refine ⟨h.os, h.tape, h.output, by simpa using h.size, fun k hk => ?_, ?_⟩
  · have : b ≠ k := by omega
    simp only [Array.getElem?_setIfInBounds, this, if_false]
    exact h.block k hk
  · obtain ⟨f, g, p, q, d, le, le'⟩ := h.sep
    have hgb : g b = none := by
      rcases d b with e | e
      · rw [show f b = _ from p] at e; cases e
      · exact e
    refine ⟨fun k => if k = b then some o' else none, g, by simp [objB], q, ?_, ?_, ?_⟩
    · intro k
      by_cases e : k = b
      · right; rw [e]; exact hgb
      · left; simp [e]
    · intro k u e
      simp at e
      obtain ⟨rfl, rfl⟩ := e
      unfold newPart
      rw [if_neg (by omega)]
      simp [hbs]
    · intro k u e
      have hk : b ≠ k := fun x => by rw [← x, hgb] at e; cases e
      have := le' _ _ e
      unfold newPart at this ⊢
      simp only [Array.getElem?_setIfInBounds, hk, if_false]
      exact this

theorem obj_run {b clock : Nat} {arr : Array MapEntry} (h : w.heap[b]? = some (.map arr clock)) : (getObj b).run P w = .ok (.map arr clock) w := by simp [getObj, Sem.run, h]
theorem set_run {b clock : Nat} {arr : Array MapEntry} {o' : Obj} (h : w.heap[b]? = some (.map arr clock)) : (setObj b o').run P w = .ok () { w with heap := w.heap.setIfInBounds b o' } := by simp [setObj, Sem.run, h]

theorem map_erase {γ δ : Type} (f : γ → δ) : ∀ (l : List γ) (j : Nat), (l.eraseIdx j).map f = (l.map f).eraseIdx j
  | [], j => by simp
  | a :: l, 0 => by simp
  | a :: l, j + 1 => by simp [map_erase f l j]

theorem St.map_lookup (h : St W0 w (mapB kv r es :: L)) (KL : KeyLaw P kt kv) (hm : P.underlying mt = some (.map kt et)) {z : Value} (hz : (zeroValue et).run P w = .ok z w) (x : K) :
    (Instr.lookup mt (.map (some r)) (kv x) true).run P w = .ok (.tuple #[(getA x es).getD z, .bool (getA x es).isSome]) w ∧ (Instr.lookup mt (.map (some r)) (kv x) false).run P w = .ok ((getA x es).getD z) w := by
  obtain ⟨arr, clock, s, e⟩ := h.map_open
  have hg := obj_run (P := P) s.obj.1
  have hf := KL.find x arr.toList es w e
  have base : ∀ b, (Instr.lookup mt (.map (some r)) (kv x) b).run P w = .ok (if b then .tuple #[(getA x es).getD z, .bool (getA x es).isSome] else (getA x es).getD z) w := by
    intro b
    unfold Instr.lookup
    simp only [Sem.run_bind, run_underlying hm, Result.andThen_ok, hg, Sem.run_pure, KL.chk, hf]
    rcases lookA_spec x es 0 with ⟨h1, h2, _, _⟩ | ⟨j, p, h1, _, _, h2, _, _⟩
    · rw [h1, h2]
      simp only [Sem.run_bind, hz, Result.andThen_ok, Sem.run_pure]
      cases b <;> rfl
    · rw [h1, h2]
      simp only [Sem.run_pure, Result.andThen_ok]
      cases b <;> rfl
  exact ⟨base true, base false⟩

theorem St.map_len (h : St W0 w (mapB kv r es :: L)) : ∃ arr clock, w.heap[r]? = some (.map arr clock) ∧ arr.size = es.length := by
  obtain ⟨arr, clock, s, e⟩ := h.map_open
  exact ⟨arr, clock, s.obj.1, by have := congrArg List.length e; simpa using this⟩

theorem St.map_delete (h : St W0 w (mapB kv r es :: L)) (KL : KeyLaw P kt kv) (hm : P.underlying mt = some (.map kt et)) (x : K) :
    ∃ w', (∀ ty : TypeId, (Builtin.delete_ #[mt, kt] ty #[.map (some r), kv x]).run P w = .ok (.tuple #[]) w') ∧ St W0 w' (mapB kv r (delA x es) :: L) := by
  obtain ⟨arr, clock, s, e⟩ := h.map_open
  have hg := obj_run (P := P) s.obj.1
  have hf := KL.find x arr.toList es w e
  rcases lookA_spec x es 0 with ⟨h1, h2, h3, _⟩ | ⟨j, p, h1, h4, h5, h2, h3, _⟩
  · refine ⟨_, fun ty => ?_, (s.objSet (o' := .map arr clock)).map_close (by rw [h3]; exact e)⟩
    unfold Builtin.delete_
    simp [run_underlying hm, hg, KL.chk, hf, h1, set_run s.obj.1]
  · refine ⟨_, fun ty => ?_, (s.objSet (o' := .map (arr.eraseIdxIfInBounds j) clock)).map_close ?_⟩
    · unfold Builtin.delete_
      simp [run_underlying hm, hg, KL.chk, hf, h1, set_run s.obj.1]
    · rw [h3]
      have hj : j < arr.size := by
        have h6 := congrArg List.length e
        have h7 := (List.getElem?_eq_some_iff.1 h4).1
        simp at h6; omega
      have : (arr.eraseIdxIfInBounds j).toList = arr.toList.eraseIdx j := by simp [Array.eraseIdxIfInBounds, hj]
      rw [this, map_erase, map_erase, e]

theorem St.map_update (h : St W0 w (mapB kv r es :: L)) (KL : KeyLaw P kt kv) (hm : P.underlying mt = some (.map kt et)) (x : K) (v : Value) :
    ∃ w', (Instr.mapUpdate mt (.map (some r)) (kv x) v).run P w = .ok () w' ∧ St W0 w' (mapB kv r (putA x v es) :: L) := by
  obtain ⟨arr, clock, s, e⟩ := h.map_open
  have hg := obj_run (P := P) s.obj.1
  have hf := KL.find x arr.toList es w e
  rcases lookA_spec x es 0 with ⟨h1, _, _, h3⟩ | ⟨j, p, h1, h4, h5, _, _, h3⟩
  · refine ⟨_, ?_, (s.objSet (o' := .map (arr.push { key := kv x, val := v, born := clock }) (clock + 1))).map_close ?_⟩
    · unfold Instr.mapUpdate
      simp [run_underlying hm, hg, KL.chk, hf, h1, set_run s.obj.1]
    · rw [h3]; simp [e]
  · have hj : j < arr.size := by
      have h6 := congrArg List.length e
      have h7 := (List.getElem?_eq_some_iff.1 h4).1
      simp at h6; omega
    have hk : arr[j].key = kv x := by
      have h8 : (arr.toList.map (fun e => (e.key, e.val)))[j]? = some (kv p.1, p.2) := by rw [e]; simp [h4]
      simp [hj] at h8
      rw [h8.1, h5]
    refine ⟨_, ?_, (s.objSet (o' := .map (arr.modify j fun e => { e with key := kv x, val := v }) clock)).map_close ?_⟩
    · have hks : (Instr.keyThatStays (((arr[0 + j]?).map (·.key)).getD (kv x)) (kv x)).run P w = .ok (kv x) w := by
        have : ((arr[0 + j]?).map (·.key)).getD (kv x) = kv x := by simp [hj, hk]
        rw [this]
        simp [Instr.keyThatStays, KL.bits]
      unfold Instr.mapUpdate
      simp only [Sem.run_bind, run_underlying hm, Result.andThen_ok, hg, KL.chk, hf, h1, hks, Nat.zero_add]
      simp only [Nat.zero_add] at hks
      simp [hks, set_run s.obj.1]
    · rw [h3, List.map_set, ← e]
      apply List.ext_getElem?
      intro i
      simp only [List.getElem?_map, List.getElem?_set, Array.getElem?_toList, Array.getElem?_modify]
      by_cases hij : j = i
      · subst hij; simp [hj]
      · simp [hij]

end
end
end Go.Proofs.Ytciciaikajdenaa
