/- Slices that are written out, made, appended to; what is frozen. -/
import Derived.Test.YtlpgekodoiioaaaAm8
set_option linter.unusedSimpArgs false
set_option linter.unusedVariables false
namespace Go.Proofs.Ytlpgekodoiioaaa
open Go.RowKit

section
variable {P : Program} {T : Tab} {nt : Nat} {fr : Fr} {σ : List AObj} {o : Oper} {next : Fr → List AObj → Prop} {keep : Bool}

theorem LRep.len {F : Frag} : ∀ {ds : List DV} {us : List Value}, LRep F ds us → us.length = ds.length
  | [], _, h => by rw [h]; rfl
  | _ :: _, _, ⟨u, us', e, r, q⟩ => by rw [e]; simp [LRep.len q]

theorem FRep.len {F : Frag} {sz : Nat} : ∀ {rs : List (List DV)} {us : List Value}, FRep F sz rs us → us.length = rs.length * sz
  | [], _, h => by rw [h]; simp
  | r :: rs, _, ⟨u, us', e, hl, l, q⟩ => by rw [e]; simp [FRep.len q, LRep.len l, hl, Nat.add_mul]; omega

theorem FRep.append {F : Frag} {sz : Nat} : ∀ {a b : List (List DV)} {us vs : List Value}, FRep F sz a us → FRep F sz b vs → FRep F sz (a ++ b) (us ++ vs)
  | [], _, _, _, h, k => by rw [h]; exact k
  | _ :: _, _, _, _, ⟨u, us', e, hl, l, q⟩, k => by rw [e]; exact ⟨u, us' ++ _, by simp, hl, l, FRep.append q k⟩

/-- Cells that stand in a frozen row, as rows. -/
theorem CRep.of_list {F : Frag} : ∀ {ds : List DV} {us : List Value} {b off : Nat}, LRep F ds us → (∀ u ∈ us, u.oneCell' = true) → (∀ j u, us[j]? = some u → fcell F b (off + j) = some u) → CRep F ds b off
  | [], _, _, _, _, _, _ => trivial
  | d :: ds, _, b, off, ⟨u, us', e, r, q⟩, h1, hc => by
    subst e
    refine ⟨⟨u, hc 0 u rfl, h1 u (by simp), r⟩, CRep.of_list q (fun v hv => h1 v (by simp [hv])) fun j v hj => ?_⟩
    have := hc (j + 1) v (by simpa using hj)
    rw [show off + 1 + j = off + (j + 1) by omega]; exact this

theorem RRep.of_flat {F : Frag} {sz : Nat} : ∀ {rs : List (List DV)} {us : List Value} {b off : Nat}, FRep F sz rs us → (∀ u ∈ us, u.oneCell' = true) → (∀ j u, us[j]? = some u → fcell F b (off + j) = some u) → RRep F sz rs b off
  | [], _, _, _, _, _, _ => trivial
  | r :: rs, _, b, off, ⟨u, us', e, hl, l, q⟩, h1, hc => by
    subst e
    have hu : u.length = sz := by rw [l.len, hl]
    refine ⟨hl, CRep.of_list l (fun v hv => h1 v (by simp [hv])) (fun j v hj => hc j v (by
      rw [List.getElem?_append_left (List.getElem?_eq_some_iff.1 hj).1]; exact hj)), RRep.of_flat q (fun v hv => h1 v (by simp [hv])) fun j v hj => ?_⟩
    have := hc (u.length + j) v (by rw [List.getElem?_append_right (by omega)]; simpa using hj)
    rw [hu] at this
    rw [show off + sz + j = off + (sz + j) by omega]; exact this

theorem RRep.flat {F : Frag} {sz : Nat} : ∀ {rs : List (List DV)} {b off : Nat}, RRep F sz rs b off → ∃ us, FRep F sz rs us ∧ (∀ u ∈ us, u.oneCell' = true) ∧ ∀ j u, us[j]? = some u → fcell F b (off + j) = some u
  | [], _, _, _ => ⟨[], rfl, by simp, by simp⟩
  | r :: rs, b, off, ⟨hl, hc, h⟩ => by
    obtain ⟨u, e, l, o1, g1⟩ := hc.list
    obtain ⟨us, q, o2, g2⟩ := RRep.flat h
    refine ⟨u ++ us, ⟨u, us, rfl, hl, l, q⟩, fun v hv => ?_, fun j v hj => ?_⟩
    · rcases List.mem_append.1 hv with hv | hv
      · exact o1 v hv
      · exact o2 v hv
    · by_cases hlt : j < u.length
      · rw [List.getElem?_append_left hlt] at hj; exact g1 j v hj
      · rw [List.getElem?_append_right (by omega)] at hj
        have := g2 _ _ hj
        rw [show off + sz + (j - u.length) = off + j by omega] at this
        exact this

/-! Slices that are written out: frozen at once. -/
def litRows (sz : Nat) : List (Nat × AV) → Nat → Option (List (List DV))
  | [], _ => some []
  | (j, v) :: l, i => match allD (cellsA v), litRows sz l (i + 1) with
    | some ds, some rs => bif Nat.beq j i && Nat.beq ds.length sz && oneA v then some (ds :: rs) else none
    | _, _ => none

theorem fill_lit {x : Ctx} (sz : Nat) : ∀ (parts : List (Nat × AV)) (vals : List (Nat × Value)) (i : Nat) (rows : List (List DV)) (pre rest : List Value),
    parts.length = vals.length → (∀ (j : Nat) p q, parts[j]? = some p → vals[j]? = some q → p.1 = q.1 ∧ ARep x p.2 q.2) → litRows sz parts i = some rows → pre.length = i * sz → rest.length = parts.length * sz →
    ∃ us, Instr.fill (fun i => some (i * sz, sz)) (pre ++ rest).toArray vals = some (pre ++ us).toArray ∧ FRep x.F sz rows us ∧ ∀ u ∈ us, u.oneCell' = true
  | [], [], i, rows, pre, rest, _, _, h, h1, h2 => by
    cases h
    have : rest = [] := List.eq_nil_of_length_eq_zero (by simpa using h2)
    subst this
    exact ⟨[], rfl, rfl, by simp⟩
  | (j, v) :: parts, (j', u) :: vals, i, rows, pre, rest, hl, hpq, h, h1, h2 => by
    obtain ⟨e, r⟩ := hpq 0 _ _ rfl rfl
    simp only at e r
    subst e
    unfold litRows at h
    split at h
    · rename_i ds rs hd hrs
      cases hc : (Nat.beq j i && Nat.beq ds.length sz && oneA v) with
      | false => rw [hc] at h; cases h
      | true =>
        rw [hc] at h
        simp only [cond_true, Option.some.injEq] at h
        subst h
        simp only [Bool.and_eq_true] at hc
        obtain ⟨⟨c1, c2⟩, c3⟩ := hc
        have c1 := Nat.eq_of_beq_eq_true c1
        have c2 := Nat.eq_of_beq_eq_true c2
        subst c1
        obtain ⟨r1, r2⟩ := cellsA_rep r c3
        rw [allD_map hd] at r1
        have r1 := r1.toD
        have hsz : u.cells.size = sz := by have := r1.len; simp at this; omega
        simp only [List.length_cons, Nat.add_mul, Nat.one_mul] at h2
        have h3 : (pre ++ rest).toArray.toList = pre ++ rest := by simp
        rw [fill_one (fun i => some (i * sz, sz)) (pre ++ rest).toArray j u vals rfl hsz (by simp; omega), h3]
        have hs : spliceL (pre ++ rest) (j * sz) u.cells.toList = (pre ++ u.cells.toList) ++ rest.drop sz := by
          unfold spliceL
          rw [← h1, List.take_left, List.drop_length_add_append]
          simp [hsz]
        rw [hs]
        obtain ⟨us, q1, q2, q3⟩ := fill_lit sz parts vals (j + 1) rs (pre ++ u.cells.toList) (rest.drop sz) (by simpa using hl) (fun i p q hp hq => hpq (i + 1) p q hp hq) hrs (by simp [h1, hsz, Nat.add_mul]) (by simp; omega)
        refine ⟨u.cells.toList ++ us, by rw [q1]; simp, ⟨_, us, rfl, c2, r1, q2⟩, fun y hy => ?_⟩
        rcases List.mem_append.1 hy with hy | hy
        · exact r2 y hy
        · exact q3 y hy
    · cases h

theorem frz_new {x : Ctx} {R : Frag} {w : World} (h : Heap x σ R w) (ob : Obj) : Heap (x.frz (Un x.F (oneFrag w.heap.size ob))) σ R (w.alloc ob) := by
  refine h.callP (Le.un_left _ _) ?_ (agree_alloc w ob) fun b hb hlt => ?_
  · refine Le.un (h.hF.agree (agree_alloc w ob)) fun b o' e => ?_
    simp only [oneFrag] at e
    split at e
    · rename_i hb; injection e with e; subst hb e; exact heap_alloc_new w ob
    · cases e
  · simp only [Un, hb, oneFrag]
    rw [if_neg (by omega)]

theorem lst_new {x : Ctx} {R : Frag} {w : World} (h : Heap x σ R w) {t : TypeId} {sz : Nat} {rows : List (List DV)} {us : List Value} (h1 : FRep x.F sz rows us) (h2 : ∀ u ∈ us, u.oneCell' = true) (cap : Nat) (hc : rows.length ≤ cap) :
    DRep (Un x.F (oneFrag w.heap.size (.cells us.toArray t))) (.lst sz rows) (.slice (some ⟨w.heap.size, 0, none⟩) rows.length cap) := by
  refine ⟨_, _, rfl, hc, .inr ⟨_, _, rfl, RRep.of_flat (h1.mono (Le.un_left _ _)) h2 fun j u hj => ?_⟩⟩
  have hn : x.F w.heap.size = none := by
    cases hb : x.F w.heap.size with
    | none => rfl
    | some ob => have := heap_lt h.hF hb; omega
  simp [fcell, Un, hn, oneFrag, hj]

theorem do_lit (hT : okTab P T = true) {t e sz bytes len : Nat} {agg : Bool} {parts : Array (Nat × Operand)} {rows : List (List DV)} (ho : o.op = .buildSlice t len parts) (ht : dstOk o.dst nt = true) (hs : find1 T.sl t = some e) (he : find1 T.ty e = some (sz, bytes, agg)) {z : List Value} (hz : ZIs P e z)
    (hr : litRows sz (parts.toList.map fun p => (p.1, aget fr p.2)) 0 = some rows) (hl : Nat.beq parts.size len = true) (hb : Nat.ble (len * sz) 16777216 = true) (hn : next (fput o.dst (.d (.lst sz rows)) fr) σ) : DoOp P nt o fr σ keep next := by
  refine do_value ht (fun v σ' => v = .d (.lst sz rows) ∧ σ' = σ) (fun v σ' ⟨a, b⟩ => a ▸ b ▸ hn) fun k x A w s => ?_
  obtain ⟨i, zv, e1, e2, e3⟩ := hz.ex
  have hl := Nat.eq_of_beq_eq_true hl
  have hb := Nat.le_of_ble_eq_true hb
  have hrl : ∀ (l : List (Nat × AV)) (i : Nat) (rs : List (List DV)), litRows sz l i = some rs → rs.length = l.length := fun l => by
    induction l with
    | nil => intro i rs h; cases h; rfl
    | cons p l ih =>
      intro i rs h
      unfold litRows at h
      split at h
      · rename_i ds rs' _ hrs
        cases hc : (Nat.beq p.1 i && Nat.beq ds.length sz && oneA p.2) <;> rw [hc] at h <;> cases h
        simp [ih _ _ hrs]
      · cases h
  have hlen := hrl _ _ _ hr
  simp only [List.length_map, Array.length_toList] at hlen
  have hsz := (T.tyIs hT he).size_run w
  generalize hza : ((Array.range (len * sz)).map fun j => (if len * sz = 0 then (#[] : Array Value) else zv.cells)[j % (if len * sz = 0 then (#[] : Array Value) else zv.cells).size]!) = za
  have hzs : za.toList.length = parts.toList.length * sz := by rw [← hza]; simp [hl]
  obtain ⟨us, q1, q2, q3⟩ := fill_lit (x := x) sz (parts.toList.map fun p => (p.1, aget fr p.2)) (parts.toList.map fun p => (p.1, A.eval p.2)) 0 rows [] za.toList (by simp) (fun j p q hp hq => by
    simp only [List.getElem?_map, Option.map_eq_some_iff] at hp hq
    obtain ⟨y, hy, rfl⟩ := hp
    obtain ⟨y', hy', rfl⟩ := hq
    rw [hy] at hy'
    injection hy' with hy'
    subst hy'
    exact ⟨rfl, s.arg y.2⟩) hr (by simp) (by simpa using hzs)
  simp only [List.nil_append, Array.toArray_toList] at q1
  refine ⟨.slice (some ⟨w.heap.size, 0, none⟩) rows.length rows.length, w.alloc (.cells us.toArray e), x.frz (Un x.F (oneFrag w.heap.size (.cells us.toArray e))), .d (.lst sz rows), _, ?_, Ctx.frz_ext (Le.un_left _ _), lst_new s.heap q2 q3 _ (Nat.le_refl _), frz_new s.heap _, s.calm.alloc _, fun _ => agree_alloc _ _, rfl, rfl⟩
  unfold execOp
  have hm : (parts.map fun p => (p.1, A.eval p.2)).toList = parts.toList.map fun p => (p.1, A.eval p.2) := by simp
  have hnot : ¬ (16777216 < len * sz) := by omega
  simp only [ho, Instr.buildSlice, Sem.run_bind, run_underlying (T.slIs hT hs), Result.andThen_ok, hsz]
  by_cases h0 : len * sz = 0
  · rw [if_pos h0] at hza
    simp [hnot, h0, hm] at q1 hza ⊢
    subst hza
    simp [q1, newRow, hlen, hl]
  · rw [if_neg h0] at hza
    simp [hnot, h0, hm, zeroValue, run_typeInfo w e1, e2] at q1 hza ⊢
    rw [hza]
    simp [q1, newRow, hlen, hl]
end
end Go.Proofs.Ytlpgekodoiioaaa
