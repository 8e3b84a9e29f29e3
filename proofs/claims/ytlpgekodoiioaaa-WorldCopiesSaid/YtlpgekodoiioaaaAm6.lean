/- More operations that read: arithmetic, comparisons, lengths, elements, parts of slices. -/
import Derived.Test.YtlpgekodoiioaaaAm5
import Derived.Laws.Cover3
import Derived.Lib.Strings
set_option linter.unusedSimpArgs false
set_option linter.unusedVariables false
namespace Go.Proofs.Ytlpgekodoiioaaa
open Go.RowKit

def intOp : BinOp → IntKind → Int → Int → Option Value
  | .add, k, a, b => some (.int k (k.wrap (a + b)))
  | .sub, k, a, b => some (.int k (k.wrap (a - b)))
  | .mul, k, a, b => some (.int k (k.wrap (a * b)))
  | .eql, _, a, b => some (.bool (a == b))
  | .neq, _, a, b => some (.bool (a != b))
  | .lss, _, a, b => some (.bool (decide (a < b)))
  | .leq, _, a, b => some (.bool (decide (a ≤ b)))
  | .gtr, _, a, b => some (.bool (decide (a > b)))
  | .geq, _, a, b => some (.bool (decide (a ≥ b)))
  | _, _, _, _ => none

section
variable {P : Program} {T : Tab} {fr : Fr} {σ : List AObj} {o : Oper}

theorem rd_int {op : BinOp} {t t' : TypeId} {a b : Operand} {k : IntKind} {m n : Int} {v : Value} (ho : o.op = .binOp op t a b t') (ha : aget fr a = .d (.v (.int k m))) (hb : aget fr b = .d (.v (.int k n)))
    (hv : intOp op k m n = some v) : RdOp P o fr σ (.d (.v v)) := by
  intro x c nt A w s
  have h1 := s.arg a
  have h2 := s.arg b
  rw [ha] at h1
  rw [hb] at h2
  obtain ⟨e1, _⟩ := h1
  obtain ⟨e2, _⟩ := h2
  have hone : v.oneCell' = true := by
    cases op <;> simp only [intOp] at hv <;> first | (injection hv with hv; subst hv; rfl) | cases hv
  refine ⟨v, ⟨rfl, hone⟩, fun w' _ => ?_⟩
  unfold execOp
  simp only [ho, e1, e2]
  cases op <;> simp only [intOp] at hv <;> first
    | (injection hv with hv; subst hv; simp [eqGuard, binOp, Op.intArith, Op.intCmp])
    | cases hv

theorem rd_eqv {v v' : AV} (e : v = v') (h : RdOp P o fr σ v) : RdOp P o fr σ v' := e ▸ h

theorem rd_add64 {t t' : TypeId} {a b : Operand} {m n : Int} (ho : o.op = .binOp .add t a b t') (ha : aget fr a = .d (.v (.int .i64 m))) (hb : aget fr b = .d (.v (.int .i64 n)))
    (h : -9223372036854775808 ≤ m + n ∧ m + n ≤ 9223372036854775807) : RdOp P o fr σ (.d (.v (.int .i64 (m + n)))) :=
  rd_eqv (by rw [IntWalk.i64_in _ (by omega)]) (rd_int ho ha hb rfl)
theorem rd_sub64 {t t' : TypeId} {a b : Operand} {m n : Int} (ho : o.op = .binOp .sub t a b t') (ha : aget fr a = .d (.v (.int .i64 m))) (hb : aget fr b = .d (.v (.int .i64 n)))
    (h : -9223372036854775808 ≤ m - n ∧ m - n ≤ 9223372036854775807) : RdOp P o fr σ (.d (.v (.int .i64 (m - n)))) :=
  rd_eqv (by rw [IntWalk.i64_in _ (by omega)]) (rd_int ho ha hb rfl)

theorem rd_lss_t {t t' : TypeId} {a b : Operand} {k : IntKind} {m n : Int} (ho : o.op = .binOp .lss t a b t') (ha : aget fr a = .d (.v (.int k m))) (hb : aget fr b = .d (.v (.int k n))) (h : m < n) : RdOp P o fr σ (.d (.v (.bool true))) :=
  rd_eqv (by first | (rw [decide_eq_true (by omega)]) | simp [h]) (rd_int ho ha hb rfl)
theorem rd_lss_f {t t' : TypeId} {a b : Operand} {k : IntKind} {m n : Int} (ho : o.op = .binOp .lss t a b t') (ha : aget fr a = .d (.v (.int k m))) (hb : aget fr b = .d (.v (.int k n))) (h : n ≤ m) : RdOp P o fr σ (.d (.v (.bool false))) :=
  rd_eqv (by first | (rw [decide_eq_false (by omega)]) | simp [h]) (rd_int ho ha hb rfl)
theorem rd_leq_t {t t' : TypeId} {a b : Operand} {k : IntKind} {m n : Int} (ho : o.op = .binOp .leq t a b t') (ha : aget fr a = .d (.v (.int k m))) (hb : aget fr b = .d (.v (.int k n))) (h : m ≤ n) : RdOp P o fr σ (.d (.v (.bool true))) :=
  rd_eqv (by first | (rw [decide_eq_true (by omega)]) | simp [h]) (rd_int ho ha hb rfl)
theorem rd_leq_f {t t' : TypeId} {a b : Operand} {k : IntKind} {m n : Int} (ho : o.op = .binOp .leq t a b t') (ha : aget fr a = .d (.v (.int k m))) (hb : aget fr b = .d (.v (.int k n))) (h : n < m) : RdOp P o fr σ (.d (.v (.bool false))) :=
  rd_eqv (by first | (rw [decide_eq_false (by omega)]) | simp [h]) (rd_int ho ha hb rfl)
theorem rd_gtr_t {t t' : TypeId} {a b : Operand} {k : IntKind} {m n : Int} (ho : o.op = .binOp .gtr t a b t') (ha : aget fr a = .d (.v (.int k m))) (hb : aget fr b = .d (.v (.int k n))) (h : n < m) : RdOp P o fr σ (.d (.v (.bool true))) :=
  rd_eqv (by first | (rw [decide_eq_true (by omega)]) | simp [h]) (rd_int ho ha hb rfl)
theorem rd_gtr_f {t t' : TypeId} {a b : Operand} {k : IntKind} {m n : Int} (ho : o.op = .binOp .gtr t a b t') (ha : aget fr a = .d (.v (.int k m))) (hb : aget fr b = .d (.v (.int k n))) (h : m ≤ n) : RdOp P o fr σ (.d (.v (.bool false))) :=
  rd_eqv (by first | (rw [decide_eq_false (by omega)]) | simp [h]) (rd_int ho ha hb rfl)
theorem rd_geq_t {t t' : TypeId} {a b : Operand} {k : IntKind} {m n : Int} (ho : o.op = .binOp .geq t a b t') (ha : aget fr a = .d (.v (.int k m))) (hb : aget fr b = .d (.v (.int k n))) (h : n ≤ m) : RdOp P o fr σ (.d (.v (.bool true))) :=
  rd_eqv (by first | (rw [decide_eq_true (by omega)]) | simp [h]) (rd_int ho ha hb rfl)
theorem rd_geq_f {t t' : TypeId} {a b : Operand} {k : IntKind} {m n : Int} (ho : o.op = .binOp .geq t a b t') (ha : aget fr a = .d (.v (.int k m))) (hb : aget fr b = .d (.v (.int k n))) (h : m < n) : RdOp P o fr σ (.d (.v (.bool false))) :=
  rd_eqv (by first | (rw [decide_eq_false (by omega)]) | simp [h]) (rd_int ho ha hb rfl)
theorem rd_eql_t {t t' : TypeId} {a b : Operand} {k : IntKind} {m n : Int} (ho : o.op = .binOp .eql t a b t') (ha : aget fr a = .d (.v (.int k m))) (hb : aget fr b = .d (.v (.int k n))) (h : m = n) : RdOp P o fr σ (.d (.v (.bool true))) :=
  rd_eqv (by first | (rw [decide_eq_true (by omega)]) | simp [h]) (rd_int ho ha hb rfl)
theorem rd_eql_f {t t' : TypeId} {a b : Operand} {k : IntKind} {m n : Int} (ho : o.op = .binOp .eql t a b t') (ha : aget fr a = .d (.v (.int k m))) (hb : aget fr b = .d (.v (.int k n))) (h : m ≠ n) : RdOp P o fr σ (.d (.v (.bool false))) :=
  rd_eqv (by first | (rw [decide_eq_false (by omega)]) | simp [h]) (rd_int ho ha hb rfl)
theorem rd_neq_t {t t' : TypeId} {a b : Operand} {k : IntKind} {m n : Int} (ho : o.op = .binOp .neq t a b t') (ha : aget fr a = .d (.v (.int k m))) (hb : aget fr b = .d (.v (.int k n))) (h : m ≠ n) : RdOp P o fr σ (.d (.v (.bool true))) :=
  rd_eqv (by first | (rw [decide_eq_true (by omega)]) | simp [h]) (rd_int ho ha hb rfl)
theorem rd_neq_f {t t' : TypeId} {a b : Operand} {k : IntKind} {m n : Int} (ho : o.op = .binOp .neq t a b t') (ha : aget fr a = .d (.v (.int k m))) (hb : aget fr b = .d (.v (.int k n))) (h : m = n) : RdOp P o fr σ (.d (.v (.bool false))) :=
  rd_eqv (by first | (rw [decide_eq_false (by omega)]) | simp [h]) (rd_int ho ha hb rfl)

theorem rd_str_eq {t t' : TypeId} {a b : Operand} {m n : ByteArray} (ho : o.op = .binOp .eql t a b t') (ha : aget fr a = .d (.v (.string m))) (hb : aget fr b = .d (.v (.string n))) : RdOp P o fr σ (.d (.v (.bool (decide (m = n))))) := by
  intro x c nt A w s
  have h1 := s.arg a
  have h2 := s.arg b
  rw [ha] at h1
  rw [hb] at h2
  obtain ⟨e1, _⟩ := h1
  obtain ⟨e2, _⟩ := h2
  have e3 : (m.toList == n.toList) = decide (m = n) := by
    by_cases q : m = n
    · subst q; simp
    · rw [decide_eq_false q]
      simp only [beq_eq_false_iff_ne]
      intro r
      rw [Lib.toList_data, Lib.toList_data] at r
      exact q (by rw [← Lib.mk_data m, ← Lib.mk_data n, r])
  refine ⟨.bool (decide (m = n)), ⟨rfl, rfl⟩, fun w' _ => ?_⟩
  unfold execOp
  simp only [ho, e1, e2]
  simp [eqGuard, binOp, Op.stringOp, e3]
theorem rd_str_ne {t t' : TypeId} {a b : Operand} {m n : ByteArray} (ho : o.op = .binOp .neq t a b t') (ha : aget fr a = .d (.v (.string m))) (hb : aget fr b = .d (.v (.string n))) : RdOp P o fr σ (.d (.v (.bool (!decide (m = n))))) := by
  intro x c nt A w s
  have h1 := s.arg a
  have h2 := s.arg b
  rw [ha] at h1
  rw [hb] at h2
  obtain ⟨e1, _⟩ := h1
  obtain ⟨e2, _⟩ := h2
  have e3 : (m.toList == n.toList) = decide (m = n) := by
    by_cases q : m = n
    · subst q; simp
    · rw [decide_eq_false q]
      simp only [beq_eq_false_iff_ne]
      intro r
      rw [Lib.toList_data, Lib.toList_data] at r
      exact q (by rw [← Lib.mk_data m, ← Lib.mk_data n, r])
  refine ⟨.bool (!decide (m = n)), ⟨rfl, rfl⟩, fun w' _ => ?_⟩
  unfold execOp
  simp only [ho, e1, e2]
  simp [eqGuard, binOp, Op.stringOp, e3]
theorem rd_str_add {t t' : TypeId} {a b : Operand} {m n : ByteArray} (ho : o.op = .binOp .add t a b t') (ha : aget fr a = .d (.v (.string m))) (hb : aget fr b = .d (.v (.string n))) (hs : m.size + n.size ≤ 9223372036854775807) : RdOp P o fr σ (.d (.v (.string (m ++ n)))) := by
  intro x c nt A w s
  have h1 := s.arg a
  have h2 := s.arg b
  rw [ha] at h1
  rw [hb] at h2
  obtain ⟨e1, _⟩ := h1
  obtain ⟨e2, _⟩ := h2
  refine ⟨.string (m ++ n), ⟨rfl, rfl⟩, fun w' _ => ?_⟩
  have h3 : ¬ (9223372036854775807 < (m.size : Int) + (n.size : Int)) := by omega
  unfold execOp
  simp only [ho, e1, e2]
  simp [eqGuard, binOp, Op.stringOp, IntKind.max, IntKind.signed, IntKind.bits]
  omega

theorem rd_bool_eq {t t' : TypeId} {a b : Operand} {m n : Bool} (ht : P.underlying t = some .bool) (ho : o.op = .binOp .eql t a b t') (ha : aget fr a = .d (.v (.bool m))) (hb : aget fr b = .d (.v (.bool n))) : RdOp P o fr σ (.d (.v (.bool (m == n)))) := by
  intro x c nt A w s
  have h1 := s.arg a
  have h2 := s.arg b
  rw [ha] at h1
  rw [hb] at h2
  obtain ⟨e1, _⟩ := h1
  obtain ⟨e2, _⟩ := h2
  refine ⟨.bool (m == n), ⟨rfl, rfl⟩, fun w' _ => ?_⟩
  unfold execOp
  simp only [ho, e1, e2]
  simp only [eqGuard, binOp]
  simp [run_equal_bool w' t m n ht]
theorem rd_bool_ne {t t' : TypeId} {a b : Operand} {m n : Bool} (ht : P.underlying t = some .bool) (ho : o.op = .binOp .neq t a b t') (ha : aget fr a = .d (.v (.bool m))) (hb : aget fr b = .d (.v (.bool n))) : RdOp P o fr σ (.d (.v (.bool (!(m == n))))) := by
  intro x c nt A w s
  have h1 := s.arg a
  have h2 := s.arg b
  rw [ha] at h1
  rw [hb] at h2
  obtain ⟨e1, _⟩ := h1
  obtain ⟨e2, _⟩ := h2
  refine ⟨.bool (!(m == n)), ⟨rfl, rfl⟩, fun w' _ => ?_⟩
  unfold execOp
  simp only [ho, e1, e2]
  simp only [eqGuard, binOp]
  simp [run_equal_bool w' t m n ht]

theorem rd_not {t : TypeId} {a : Operand} {m : Bool} (ho : o.op = .unOp .not t a) (ha : aget fr a = .d (.v (.bool m))) : RdOp P o fr σ (.d (.v (.bool (!m)))) := by
  intro x c nt A w s
  have h1 := s.arg a
  rw [ha] at h1
  obtain ⟨e1, _⟩ := h1
  refine ⟨.bool (!m), ⟨rfl, rfl⟩, fun w' _ => ?_⟩
  unfold execOp
  simp only [ho, e1]
  simp [Op.unary]

theorem rd_convert {s d : TypeId} {a : Operand} {k k' : IntKind} {n : Int} {ds : TypeDesc} (ho : o.op = .convert s d a) (ha : aget fr a = .d (.v (.int k n))) (hs : P.underlying s = some ds) (hd : P.underlying d = some (.int k')) : RdOp P o fr σ (.d (.v (.int k' (k'.wrap n)))) := by
  intro x c nt A w h
  have h1 := h.arg a
  rw [ha] at h1
  obtain ⟨e1, _⟩ := h1
  refine ⟨.int k' (k'.wrap n), ⟨rfl, rfl⟩, fun w' _ => ?_⟩
  unfold execOp
  simp only [ho, e1]
  simp [convert, run_underlying hs, run_underlying hd, Conv.intToInt]

/-! Lengths. -/
def lenA : AV → Option Nat
  | .d (.lst _ rows) => some rows.length
  | .d .nil => some 0
  | .own _ _ _ _ len => some len
  | _ => none

theorem rd_len {t e : TypeId} {a : Operand} {n : Nat} (ho : o.op = .call { callee := .builtin .len, args := #[a], argTypes := #[t] }) (ht : P.underlying t = some (.slice e))
    (ha : lenA (aget fr a) = some n) : RdOp P o fr σ (.d (.v (.int .i64 n))) := by
  intro x c nt A w h
  have h1 := h.arg a
  refine ⟨.int .i64 n, ⟨rfl, rfl⟩, fun w' _ => ?_⟩
  have key : ∃ b c, A.eval a = .slice b n c := by
    generalize aget fr a = v at *
    unfold lenA at ha
    split at ha
    · obtain ⟨b, c, e, _⟩ := h1
      injection ha with ha
      subst ha
      exact ⟨b, c, e⟩
    · obtain ⟨b, e⟩ := h1
      injection ha with ha
      subst ha
      exact ⟨b, 0, e⟩
    · obtain ⟨_, _, b, c, e, _⟩ := h1
      injection ha with ha
      subst ha
      exact ⟨b, c, e⟩
    · cases ha
  obtain ⟨b, c, he⟩ := key
  unfold execOp
  simp [ho, resolve, invoke, builtin, Builtin.len_, run_underlying ht, he, goInt]

theorem rd_lens {t : TypeId} {a : Operand} {s : ByteArray} (ho : o.op = .call { callee := .builtin .len, args := #[a], argTypes := #[t] }) (ht : P.underlying t = some .string) (ha : aget fr a = .d (.v (.string s))) : RdOp P o fr σ (.d (.v (.int .i64 s.size))) := by
  intro x c nt A w h
  have h1 := h.arg a
  rw [ha] at h1
  obtain ⟨he, _⟩ := h1
  refine ⟨.int .i64 s.size, ⟨rfl, rfl⟩, fun w' _ => ?_⟩
  unfold execOp
  simp [ho, resolve, invoke, builtin, Builtin.len_, run_underlying ht, he, goInt]

/-! Elements. -/
theorem RRep.get {F : Frag} {sz : Nat} : ∀ {rs : List (List DV)} {b off i : Nat} {r : List DV}, RRep F sz rs b off → rs[i]? = some r → r.length = sz ∧ CRep F r b (off + i * sz)
  | [], _, _, _, _, _, e => by simp at e
  | a :: rs, b, off, 0, r, h, e => by simp at e; subst e; simpa using ⟨h.1, h.2.1⟩
  | a :: rs, b, off, i + 1, r, h, e => by
    have := RRep.get (i := i) h.2.2 (by simpa using e)
    rw [show off + sz + i * sz = off + (i + 1) * sz by rw [Nat.add_mul]; omega] at this
    exact this

theorem rd_index (hT : okTab P T = true) {t e sz bytes : Nat} {agg : Bool} {a b : Operand} {rows : List (List DV)} {row : List DV} {k : IntKind} {i : Nat} (ho : o.op = .indexAddr t a b) (ht : find1 T.sl t = some e) (he : find1 T.ty e = some (sz, bytes, agg))
    (ha : aget fr a = .d (.lst sz rows)) (hb : aget fr b = .d (.v (.int k (i : Int)))) (hr : rows[i]? = some row) : RdOp P o fr σ (.d (.fptr row)) := by
  intro x c nt A w h
  have h1 := h.arg a
  have h2 := h.arg b
  rw [ha] at h1
  rw [hb] at h2
  obtain ⟨e2, _⟩ := h2
  obtain ⟨ad, cap, e1, hc, hq⟩ := h1
  have hlt := (List.getElem?_eq_some_iff.1 hr).1
  rcases hq with hq | ⟨bl, off, rfl, hR⟩
  · subst hq; simp at hlt
  obtain ⟨_, hcr⟩ := hR.get hr
  refine ⟨.pointer (some ⟨bl, off + i * sz, none⟩), ⟨bl, _, rfl, hcr⟩, fun w' _ => ?_⟩
  unfold execOp
  simp only [ho, e1, e2]
  have hin : (0 : Int) ≤ i ∧ (i : Int) < rows.length := by omega
  simp [Instr.indexAt, asIntOf, run_underlying (T.slIs hT ht), (T.tyIs hT he).size_run, hin, Addr.add_mk, hlt]

theorem rd_index_own (hT : okTab P T = true) {t e sz bytes loc ver off len : Nat} {agg : Bool} {a b : Operand} {k : IntKind} {i : Nat} (ho : o.op = .indexAddr t a b) (ht : find1 T.sl t = some e) (he : find1 T.ty e = some (sz, bytes, agg))
    (ha : aget fr a = .own loc ver sz off len) (hb : aget fr b = .d (.v (.int k (i : Int)))) (hi : i < len) {U : TypeId} {rows : List (List DV)} (hs : σ[loc]? = some (.arr U sz ver rows)) : RdOp P o fr σ (.ptr loc ver ((off + i) * sz)) := by
  intro x0 x nt A w h
  have h1 := h.arg a
  have h2 := h.arg b
  rw [ha] at h1
  rw [hb] at h2
  obtain ⟨e2, _⟩ := h2
  obtain ⟨hl, hv, ad, cap, e1, hq⟩ := h1
  obtain ⟨g, g1, _⟩ := h.heap.own
  obtain ⟨hv2, hg⟩ := g1 loc _ hs
  obtain ⟨q1, q2, q3⟩ := hq hv2.symm
  have hlive : (x.env loc).live = true := by
    cases hlv : (x.env loc).live with
    | true => rfl
    | false => have := q3 hlv; omega
  obtain ⟨rfl, _⟩ := q2 hlive
  refine ⟨.pointer (some ⟨(x.env loc).blk, (off + i) * sz, none⟩), ⟨hl, hv, _, rfl, fun _ => rfl⟩, fun w' _ => ?_⟩
  unfold execOp
  simp only [ho, e1, e2]
  have hin : (0 : Int) ≤ i ∧ (i : Int) < len := by omega
  simp [Instr.indexAt, asIntOf, run_underlying (T.slIs hT ht), (T.tyIs hT he).size_run, hin, Addr.add_mk, hi, Nat.add_mul]

theorem FRep.get {F : Frag} {sz : Nat} : ∀ {rs : List (List DV)} {us : List Value} {i : Nat} {r : List DV}, FRep F sz rs us → rs[i]? = some r → r.length = sz ∧ LRep F r ((us.drop (i * sz)).take sz)
  | [], _, _, _, _, e => by simp at e
  | a :: rs, _, 0, r, ⟨u, us', e1, hl, l, q⟩, e => by
    simp at e; subst e e1
    have : u.length = a.length := LRep.len l
    refine ⟨hl, ?_⟩
    rw [Nat.zero_mul, List.drop_zero, ← hl, ← this, List.take_left]; exact l
  | a :: rs, _, i + 1, r, ⟨u, us', e1, hl, l, q⟩, e => by
    subst e1
    have hu : u.length = sz := by rw [LRep.len l, hl]
    obtain ⟨h1, h2⟩ := FRep.get (i := i) q (by simpa using e)
    refine ⟨h1, ?_⟩
    rw [show (i + 1) * sz = u.length + i * sz by rw [Nat.add_mul, hu]; omega, ← List.drop_drop, List.drop_left]
    exact h2
where
  LRep.len {F : Frag} : ∀ {ds : List DV} {us : List Value}, LRep F ds us → us.length = ds.length
    | [], _, h => by rw [h]; rfl
    | _ :: _, _, ⟨u, us', e, r, q⟩ => by rw [e]; simp [LRep.len q]
end
end Go.Proofs.Ytlpgekodoiioaaa
