/- Further steps of the abstract walk: structs compared, the smaller and greater of two numbers, pointers compared with none; freezing ahead of an operation. -/
import Derived.Test.YtlpgekodoiioaaaR2
import Derived.Laws.Small
import Derived.Laws.StructEq
import Derived.Laws.Pointers
set_option linter.unusedSimpArgs false
set_option linter.unusedVariables false
namespace Go.Proofs.Ytlpgekodoiioaaa
open Go.RowKit

theorem toList_inj {a b : ByteArray} (h : a.toList = b.toList) : a = b := by
  rw [Lib.toList_data, Lib.toList_data] at h
  rw [← Lib.mk_data a, ← Lib.mk_data b, h]

section
open Classical

set_option maxRecDepth 100000 in
theorem run_eq62 (w : World) (f g : AFile) : (Op.equalIn 10000 62 (.agg #[.string f.name, .string f.text]) (.agg #[.string g.name, .string g.text])).run Try.prog w = .ok (decide (f = g)) w := by
  rw [run_equalIn_agg w 9999 62 _ _ (by kernel_rfl) (by kernel_rfl)]
  go_simp
  obtain ⟨a, b⟩ := f
  obtain ⟨c, d⟩ := g
  simp only [AFile.mk.injEq]
  by_cases h1 : a.toList = c.toList
  · by_cases h2 : b.toList = d.toList
    · rw [if_pos h1, if_pos h2, decide_eq_true ⟨toList_inj h1, toList_inj h2⟩]
    · rw [if_pos h1, if_neg h2, decide_eq_false (fun q => h2 (by rw [q.2]))]
  · rw [if_neg h1, decide_eq_false (fun q => h1 (by rw [q.1]))]

set_option maxRecDepth 100000 in
theorem run_eq68 (w : World) (f g : AOp) : (Op.equalIn 10000 68 (ov f) (ov g)).run Try.prog w = .ok (decide (f = g)) w := by
  unfold ov
  rw [run_equalIn_agg w 9999 68 _ _ (by kernel_rfl) (by kernel_rfl)]
  go_simp
  obtain ⟨a, b, c, d, e⟩ := f
  obtain ⟨a', b', c', d', e'⟩ := g
  simp only [AOp.mk.injEq]
  have e1 : (c.toList = c'.toList) = (c = c') := propext ⟨toList_inj, fun q => by rw [q]⟩
  have e2 : (d.toList = d'.toList) = (d = d') := propext ⟨toList_inj, fun q => by rw [q]⟩
  simp only [e1, e2]
  by_cases h1 : a = a' <;> by_cases h2 : b = b' <;> by_cases h3 : c = c' <;> by_cases h4 : d = d' <;> by_cases h5 : e = e' <;> simp [h1, h2, h3, h4, h5]
end

section
variable {P : Program} {T : Tab} {Z : TabZ} {nt : Nat} {Q : Exit → Fr → List AObj → Prop} {next : Fr → List AObj → Prop} {fr : Fr} {σ σ' : List AObj} {ops : Array Oper} {dr : Bool} {dos ends : List Nat} {l : Trr} {i d : Nat} {o : Oper} {v : AV}
variable {dst : Option Tmp} {op : Op} {ty : TypeId} {pos : String} {aft : Array Edge} {gd : Option (Nat × Bool)}

/-- Structs of plain cells, compared. -/
theorem rd_agg_ne {t t' : TypeId} {a b : Operand} {ds es : List DV} {us vs : List Value} {r : Bool} (ho : o.op = .binOp .neq t a b t') (ha : aget fr a = .d (.agg ds)) (hb : aget fr b = .d (.agg es))
    (h1 : ∀ F l, LRep F ds l → l = us) (h2 : ∀ F l, LRep F es l → l = vs) (hm : P.eqGuardType P.depth t = false) (he : ∀ w, (Op.equalIn 10000 t (.agg us.toArray) (.agg vs.toArray)).run P w = .ok r w) : RdOp P o fr σ (.d (.v (.bool (!r)))) := by
  intro x c nt A w s
  have k1 := s.arg a
  have k2 := s.arg b
  rw [ha] at k1
  rw [hb] at k2
  obtain ⟨us', e1, q1, _⟩ := k1
  obtain ⟨vs', e2, q2, _⟩ := k2
  rw [h1 _ _ q1] at e1
  rw [h2 _ _ q2] at e2
  refine ⟨.bool (!r), ⟨rfl, rfl⟩, fun w' _ => ?_⟩
  unfold execOp
  simp only [ho, e1, e2]
  simp [run_eqGuard_agg _ _ _ _ _ _ _ hm, run_neq_struct, he]

theorem rd_min {t t2 : TypeId} {a b : Operand} {k k' : IntKind} {m n : Int} (ho : o.op = .call { callee := .builtin .min, args := #[a, b], argTypes := #[t, t2] }) (ha : aget fr a = .d (.v (.int k m))) (hb : aget fr b = .d (.v (.int k' n))) : RdOp P o fr σ (.d (.v (.int k (if n < m then n else m)))) := by
  intro x c nt A w s
  have k1 := s.arg a
  have k2 := s.arg b
  rw [ha] at k1
  rw [hb] at k2
  obtain ⟨e1, _⟩ := k1
  obtain ⟨e2, _⟩ := k2
  refine ⟨.int k (if n < m then n else m), ⟨rfl, rfl⟩, fun w' _ => ?_⟩
  unfold execOp
  simp [ho, resolve, invoke, builtin, e1, e2, run_min_int2]

theorem rd_max {t t2 : TypeId} {a b : Operand} {k k' : IntKind} {m n : Int} (ho : o.op = .call { callee := .builtin .max, args := #[a, b], argTypes := #[t, t2] }) (ha : aget fr a = .d (.v (.int k m))) (hb : aget fr b = .d (.v (.int k' n))) : RdOp P o fr σ (.d (.v (.int k (if n > m then n else m)))) := by
  intro x c nt A w s
  have k1 := s.arg a
  have k2 := s.arg b
  rw [ha] at k1
  rw [hb] at k2
  obtain ⟨e1, _⟩ := k1
  obtain ⟨e2, _⟩ := k2
  refine ⟨.int k (if n > m then n else m), ⟨rfl, rfl⟩, fun w' _ => ?_⟩
  unfold execOp
  simp [ho, resolve, invoke, builtin, e1, e2, run_max_int2]

theorem rd_ptr_none {t t' : TypeId} {a b : Operand} (hu : P.underlying t = some (.pointer (P.pointee t))) (ho : o.op = .binOp .eql t a b t') (ha : aget fr a = .d (.v (.pointer none))) (hb : aget fr b = .d (.v (.pointer none))) : RdOp P o fr σ (.d (.v (.bool true))) := by
  intro x c nt A w s
  have k1 := s.arg a
  have k2 := s.arg b
  rw [ha] at k1
  rw [hb] at k2
  obtain ⟨e1, _⟩ := k1
  obtain ⟨e2, _⟩ := k2
  refine ⟨.bool true, ⟨rfl, rfl⟩, fun w' _ => ?_⟩
  unfold execOp
  simp only [ho, e1, e2]
  simp [eqGuard, binOp, Op.equal, Op.maxDepth, run_equalIn_pointer_nil w' 9999 t none hu]

theorem rd_ptr_some {t t' : TypeId} {a b : Operand} {loc ver off : Nat} (hu : P.underlying t = some (.pointer (P.pointee t))) (ho : o.op = .binOp .eql t a b t') (ha : aget fr a = .ptr loc ver off) (hb : aget fr b = .d (.v (.pointer none))) : RdOp P o fr σ (.d (.v (.bool false))) := by
  intro x c nt A w s
  have k1 := s.arg a
  have k2 := s.arg b
  rw [ha] at k1
  rw [hb] at k2
  obtain ⟨_, _, ad, e1, _⟩ := k1
  obtain ⟨e2, _⟩ := k2
  refine ⟨.bool false, ⟨rfl, rfl⟩, fun w' _ => ?_⟩
  unfold execOp
  simp only [ho, e1, e2]
  simp [eqGuard, binOp, Op.equal, Op.maxDepth, run_equalIn_pointer_nil w' 9999 t (some ad) hu]

theorem lrep_file {F : Frag} {f : AFile} {l : List Value} (h : LRep F (fileD f) l) : l = [.string f.name, .string f.text] := by
  obtain ⟨a, _, rfl, ⟨e1, _⟩, b, _, rfl, ⟨e2, _⟩, rfl⟩ := h
  subst e1 e2; rfl
theorem lrep_op {F : Frag} {f : AOp} {l : List Value} (h : LRep F (opD f) l) : l = oCells f := by
  obtain ⟨a, _, rfl, ⟨e1, _⟩, b, _, rfl, ⟨e2, _⟩, c, _, rfl, ⟨e3, _⟩, d, _, rfl, ⟨e4, _⟩, e, _, rfl, ⟨e5, _⟩, rfl⟩ := h
  subst e1 e2 e3 e4 e5; rfl

section
open Classical
theorem s_ne62 {t' : TypeId} {a b : Operand} {f g : AFile} (hp : dr = dr) (hg : guardB ops fr gd = some true) (ht : Nat.blt d nt = true) (ha : aget fr a = .d (.agg (fileD f))) (hb : aget fr b = .d (.agg (fileD g))) (h : AL Try.prog nt ops dr dos ends l Q ((d, .d (.v (.bool (!decide (f = g))))) :: fr) σ) : ALo Try.prog nt ops dr dos ends i ⟨some d, .binOp .neq 62 a b t', ty, pos, aft, gd⟩ l Q fr σ :=
  ⟨fun ho => s_read ho hp hg ht (rd_agg_ne rfl ha hb (fun F l => lrep_file) (fun F l => lrep_file) (by kernel_rfl) (fun w => run_eq62 w f g)) h⟩
theorem s_ne68 {t' : TypeId} {a b : Operand} {f g : AOp} (hp : dr = dr) (hg : guardB ops fr gd = some true) (ht : Nat.blt d nt = true) (ha : aget fr a = .d (.agg (opD f))) (hb : aget fr b = .d (.agg (opD g))) (h : AL Try.prog nt ops dr dos ends l Q ((d, .d (.v (.bool (!decide (f = g))))) :: fr) σ) : ALo Try.prog nt ops dr dos ends i ⟨some d, .binOp .neq 68 a b t', ty, pos, aft, gd⟩ l Q fr σ :=
  ⟨fun ho => s_read ho hp hg ht (rd_agg_ne rfl ha hb (fun F l => lrep_op) (fun F l => lrep_op) (by kernel_rfl) (fun w => run_eq68 w f g)) h⟩
end
theorem s_min {t t2 : TypeId} {a b : Operand} {k k' : IntKind} {m n : Int} (hp : dr = dr) (hg : guardB ops fr gd = some true) (ht : Nat.blt d nt = true) (ha : aget fr a = .d (.v (.int k m))) (hb : aget fr b = .d (.v (.int k' n))) (h : AL P nt ops dr dos ends l Q ((d, .d (.v (.int k (if n < m then n else m)))) :: fr) σ) : ALo P nt ops dr dos ends i ⟨some d, .call { callee := .builtin .min, args := #[a, b], argTypes := #[t, t2] }, ty, pos, aft, gd⟩ l Q fr σ :=
  ⟨fun ho => s_read ho hp hg ht (rd_min rfl ha hb) h⟩
theorem s_max {t t2 : TypeId} {a b : Operand} {k k' : IntKind} {m n : Int} (hp : dr = dr) (hg : guardB ops fr gd = some true) (ht : Nat.blt d nt = true) (ha : aget fr a = .d (.v (.int k m))) (hb : aget fr b = .d (.v (.int k' n))) (h : AL P nt ops dr dos ends l Q ((d, .d (.v (.int k (if n > m then n else m)))) :: fr) σ) : ALo P nt ops dr dos ends i ⟨some d, .call { callee := .builtin .max, args := #[a, b], argTypes := #[t, t2] }, ty, pos, aft, gd⟩ l Q fr σ :=
  ⟨fun ho => s_read ho hp hg ht (rd_max rfl ha hb) h⟩
theorem s_pn_t {t' : TypeId} {a b : Operand} (hp : dr = dr) (hg : guardB ops fr gd = some true) (ht : Nat.blt d nt = true) (ha : aget fr a = .d (.v (.pointer none))) (hb : aget fr b = .d (.v (.pointer none))) (h : AL Try.prog nt ops dr dos ends l Q ((d, .d (.v (.bool true))) :: fr) σ) : ALo Try.prog nt ops dr dos ends i ⟨some d, .binOp .eql 28 a b t', ty, pos, aft, gd⟩ l Q fr σ :=
  ⟨fun ho => s_read ho hp hg ht (rd_ptr_none (by kernel_rfl) rfl ha hb) h⟩
theorem s_pn_f {t' : TypeId} {a b : Operand} {loc ver off : Nat} (hp : dr = dr) (hg : guardB ops fr gd = some true) (ht : Nat.blt d nt = true) (ha : aget fr a = .ptr loc ver off) (hb : aget fr b = .d (.v (.pointer none))) (h : AL Try.prog nt ops dr dos ends l Q ((d, .d (.v (.bool false))) :: fr) σ) : ALo Try.prog nt ops dr dos ends i ⟨some d, .binOp .eql 28 a b t', ty, pos, aft, gd⟩ l Q fr σ :=
  ⟨fun ho => s_read ho hp hg ht (rd_ptr_some (by kernel_rfl) rfl ha hb) h⟩

/-- A ghost step ahead of an operation. -/
theorem o_freeze (ts : List (Nat × DV)) {loc : Nat} {ob : AObj} {fr' : Fr} (hl : σ[loc]? = some ob) (ha : ∀ p ∈ ts, asD σ (fget fr p.1) loc p.2) (hfr : seqL (ts.map (fun p => (p.1, AV.d p.2)) ++ fr) some = some fr') (hs : seqL (σ.set loc .dead) some = some σ') (h : ALo P nt ops dr dos ends i o l Q fr' σ') : ALo P nt ops dr dos ends i o l Q fr σ :=
  ⟨fun ho => s_freeze ts hl ha hfr hs (h.out ho)⟩
end
end Go.Proofs.Ytlpgekodoiioaaa
