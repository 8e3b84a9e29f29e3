/- Operations that make or write memory; calls. -/
import Derived.Test.YtlpgekodoiioaaaAm7
import Derived.Laws.CopyRow
set_option linter.unusedSimpArgs false
set_option linter.unusedVariables false
namespace Go.Proofs.Ytlpgekodoiioaaa
open Go.RowKit

section
variable {P : Program} {T : Tab} {nt : Nat} {fr : Fr} {σ : List AObj} {o : Oper} {next : Fr → List AObj → Prop} {keep : Bool}

theorem Sim.to {k : K0} {x x' : Ctx} {σ' : List AObj} {A : Act} {w w' : World} (s : Sim k x nt fr σ A w) (hx : CtxExt x x') (hh : Heap x' σ' k.R w') (hc : Calm k.B w') : Sim k x' nt fr σ' A w' :=
  ⟨s.size, s.defers, fun i => (s.tmps i).ext hx, hh, hc⟩

theorem do_value (ht : dstOk o.dst nt = true) (next' : AV → List AObj → Prop) (hn : ∀ v σ', next' v σ' → next (fput o.dst v fr) σ')
    (hr : ∀ k x A w, Sim k x nt fr σ A w → ∃ u w' x' v σ', (execOp A.eval o).run P w = .ok (.value u) w' ∧ CtxExt x x' ∧ ARep x' v u ∧ Heap x' σ' k.R w' ∧ Calm k.B w' ∧ (keep = true → Agree w w') ∧ next' v σ') : DoOp P nt o fr σ keep next := by
  intro k x A w Q s
  obtain ⟨u, w', x', v, σ', h1, h2, h3, h4, h5, h6, h7⟩ := hr k x A w s
  unfold Oper.wp
  rw [h1, Oper.upon_value]
  exact ⟨h6, x', _, σ', h2, (s.to h2 h4 h5).put ht h3, hn v σ' h7⟩

theorem do_skip (ht : o.dst = none) {σ' : List AObj} (hn : next fr σ')
    (hr : ∀ k x A w, Sim k x nt fr σ A w → ∃ w' x', (execOp A.eval o).run P w = .ok .skip w' ∧ CtxExt x x' ∧ Heap x' σ' k.R w' ∧ Calm k.B w' ∧ (keep = true → Agree w w')) : DoOp P nt o fr σ keep next := by
  intro k x A w Q s
  obtain ⟨w', x', h1, h2, h4, h5, h6⟩ := hr k x A w s
  unfold Oper.wp
  rw [h1, Oper.upon_skip, ht]
  exact ⟨h6, x', fr, σ', h2, s.to h2 h4 h5, hn⟩

/-- A type's zero, in cells. -/
structure ZIs (P : Program) (t : TypeId) (z : List Value) : Prop where
  ex : ∃ i zv, P.info? t = some i ∧ i.zero = some zv ∧ zv.cells.toList = z
  one : z.all (·.oneCell') = true

theorem constL_rep (x : Ctx) : ∀ z : List Value, ALRep x (z.map constAV) z
  | [] => rfl
  | a :: z => ⟨a, z, rfl, constAV_rep x.F a, constL_rep x z⟩

theorem row_new {x : Ctx} {k : K0} {w : World} (hh : Heap x σ k.R w) (hc : Calm k.B w) {t : TypeId} {cells : List AV} {us : List Value} (h1 : ALRep x cells us) (h2 : ∀ u ∈ us, u.oneCell' = true) :
    ∃ x', CtxExt x x' ∧ ARep x' (.ptr σ.length 0 0) (.pointer (some ⟨w.heap.size, 0, none⟩)) ∧ Heap x' (σ ++ [.row t cells]) k.R (w.alloc (.cells us.toArray t)) ∧ Calm k.B (w.alloc (.cells us.toArray t)) ∧ Agree w (w.alloc (.cells us.toArray t)) := by
  refine ⟨x.push ⟨w.heap.size, 0, 0, true⟩, x.push_ext _, ?_, hh.new ?_, hc.alloc _, agree_alloc _ _⟩
  · refine ⟨by simp [Ctx.push, hh.n], by simp, _, rfl, fun _ => ?_⟩
    simp [Ctx.push, hh.n]
  · exact ⟨rfl, us, by simp [oneFrag], h1.ext (x.push_ext _), h2⟩

theorem do_alloc {t : TypeId} {z : List Value} (hz : ZIs P t z) (ho : o.op = .alloc t) (ht : dstOk o.dst nt = true) (hn : next (fput o.dst (.ptr σ.length 0 0) fr) (σ ++ [.row t (z.map constAV)])) : DoOp P nt o fr σ keep next := by
  refine do_value ht (fun v σ' => v = .ptr σ.length 0 0 ∧ σ' = σ ++ [.row t (z.map constAV)]) (fun v σ' ⟨a, b⟩ => a ▸ b ▸ hn) fun k x A w s => ?_
  obtain ⟨i, zv, e1, e2, e3⟩ := hz.ex
  obtain ⟨x', h1, h2, h3, h4, h5⟩ := row_new (t := t) s.heap s.calm (constL_rep x z) (fun u hu => List.all_eq_true.1 hz.one u hu)
  refine ⟨_, _, x', _, _, ?_, h1, h2, h3, h4, fun _ => h5, rfl, rfl⟩
  have e4 : zv.cells = z.toArray := by rw [← e3]
  unfold execOp
  simp [ho, Instr.alloc, zeroValue, run_typeInfo w e1, e2, newVar, newRow, e4]

theorem do_box {t : TypeId} {a : Operand} (ho : o.op = .box t a) (ht : dstOk o.dst nt = true) (h1 : oneA (aget fr a) = true) (hn : next (fput o.dst (.ptr σ.length 0 0) fr) (σ ++ [.row t (cellsA (aget fr a))])) : DoOp P nt o fr σ keep next := by
  refine do_value ht (fun v σ' => v = .ptr σ.length 0 0 ∧ σ' = σ ++ [.row t (cellsA (aget fr a))]) (fun v σ' ⟨a, b⟩ => a ▸ b ▸ hn) fun k x A w s => ?_
  obtain ⟨r1, r2⟩ := cellsA_rep (s.arg a) h1
  obtain ⟨x', h1, h2, h3, h4, h5⟩ := row_new (t := t) s.heap s.calm r1 r2
  refine ⟨_, _, x', _, _, ?_, h1, h2, h3, h4, fun _ => h5, rfl, rfl⟩
  unfold execOp
  simp [ho, Instr.box, newVar, newRow]

/-- A store into an owned row of cells. -/
theorem do_store (hT : okTab P T = true) {t sz bytes loc off : Nat} {agg : Bool} {a b : Operand} {U : TypeId} {cells : List AV} (ho : o.op = .store t a b) (hd : o.dst = none) (ht : find1 T.ty t = some (sz, bytes, agg)) (ha : aget fr a = .ptr loc 0 off) (hs : σ[loc]? = some (.row U cells))
    (h1 : oneA (aget fr b) = true) (h2 : (cellsA (aget fr b)).length = sz) (h3 : Nat.ble (off + sz) cells.length = true) (hn : next fr (σ.set loc (.row U (spliceL cells off (cellsA (aget fr b)))))) : DoOp P nt o fr σ false next := by
  refine do_skip hd hn fun k x A w s => ?_
  obtain ⟨r1, r2⟩ := cellsA_rep (s.arg b) h1
  have hr := s.arg a
  rw [ha] at hr
  obtain ⟨hl, hver, ad, e, hc⟩ := hr
  obtain ⟨g, g1, g2, g3, g4⟩ := s.heap.own
  obtain ⟨hv0, us, e1, e2, e3⟩ := g1 loc _ hs
  have had := hc hv0.symm
  subst had
  have hus := e2.len
  have hvl := r1.len
  have hle := Nat.le_of_ble_eq_true h3
  have hsz : (A.eval b).cells.size = sz := by simpa [h2] using hvl
  have hrun := run_storeCells_at P (x.env loc).blk off U (A.eval b).cells.toList 0 us.toArray w (g2 loc _ _ e1) (by simp; omega) r2
  generalize hw2 : w.setRow (x.env loc).blk (us.toArray.toList.take (off + 0) ++ (A.eval b).cells.toList ++ us.toArray.toList.drop (off + 0 + (A.eval b).cells.toList.length)).toArray = w2 at hrun
  have hnew : w2.heap[(x.env loc).blk]? = some (.cells (spliceL us off (A.eval b).cells.toList).toArray U (0, 0)) := by
    rw [← hw2, setRow_heap w _ us.toArray _ U (0, 0) (g2 loc _ _ e1)]
    simp [spliceL]
  have hx : CtxExt x (x.upd loc (x.env loc)) := Ctx.upd_ext (Nat.le_refl _) fun _ => ⟨rfl, rfl, rfl⟩
  refine ⟨w2, x.upd loc (x.env loc), ?_, hx, s.heap.upd hs hx fun g0 hg0 hle0 => ⟨⟨oneFrag (x.env loc).blk (.cells (spliceL us off (A.eval b).cells.toList).toArray U (0, 0)), ?_, ?_, ?_⟩, ?_⟩, ?_, fun h => by cases h⟩
  · unfold execOp
    simp [ho, Instr.storeAt, e, Instr.sureAddr, storeVar, (T.tyIs hT ht).size_run w, hsz, hrun]
  · refine ⟨hv0, spliceL us off (A.eval b).cells.toList, by simp [oneFrag], ?_, ?_⟩
    · refine ALRep.ext hx ?_
      unfold spliceL
      rw [← hvl]
      exact ALRep.append (ALRep.append (e2.take off) r1) (e2.drop _)
    · intro y hy
      unfold spliceL at hy
      simp only [List.mem_append] at hy
      rcases hy with (hy | hy) | hy
      · exact e3 y (List.mem_of_mem_take hy)
      · exact r2 y hy
      · exact e3 y (List.mem_of_mem_drop hy)
  · intro c ob hb
    unfold oneFrag at hb
    split at hb
    · rename_i hcb; injection hb with hb; subst hcb hb; exact hnew
    · cases hb
  · intro c hc
    left
    unfold oneFrag at hc
    split at hc
    · rename_i hcb
      subst hcb
      obtain ⟨_, us', q1, _⟩ := hg0
      rw [q1]; simp
    · exact absurd rfl hc
  · intro c hc hlt
    rw [← hw2]
    refine setRow_other w _ c _ fun q => ?_
    subst q
    obtain ⟨_, us', q1, _⟩ := hg0
    rw [hc] at q1; cases q1
  · rw [← hw2]
    exact ⟨s.calm.os, s.calm.tape, s.calm.output⟩

/-! Calls. -/
def cloOf : AV → Option (FuncId × List AV × List AV)
  | .d (.clo (.func g) fs cs) => some (g, fs.map .d, cs.map .d)
  | .clo (.func g) fs cs => some (g, fs, cs)
  | _ => none

theorem callFunc_run {g : FuncId} (hg : isGo P g = true) (args : Array Value) (w : World) : (callFunc g args).run P w = .ok (.enter g args) w := by
  unfold isGo at hg
  cases h : P.funcs[g]? with
  | none => rw [h] at hg; cases hg
  | some fn =>
    rw [h] at hg
    simp only [Bool.and_eq_true, bne_iff_ne, ne_eq] at hg
    cases hb : fn.body with
    | none => rw [hb] at hg; cases hg.2
    | some c =>
      unfold callFunc
      simp [h, hg.1, hb]

theorem call_run {g : FuncId} {fs cs : List AV} {f : Operand} {args : Array Operand} {tys : Array TypeId} {k : K0} {x : Ctx} {A : Act} {w : World} (s : Sim k x nt fr σ A w) (hg : isGo P g = true) (ho : o.op = .call { callee := .value f, args := args, argTypes := tys })
    (hf : cloOf (aget fr f) = some (g, fs, cs)) : ∃ vs : List Value, (execOp A.eval o).run P w = .ok (.enter g vs.toArray) w ∧ ALRep x (fs ++ args.toList.map (aget fr) ++ cs) vs := by
  have h1 : ∃ us ws : List Value, A.eval f = .func (.func g) us.toArray ws.toArray ∧ ALRep x fs us ∧ ALRep x cs ws := by
    have r := s.arg f
    generalize aget fr f = y at *
    unfold cloOf at hf
    split at hf
    · obtain ⟨us, ws, e, a, b⟩ := r
      cases hf
      exact ⟨us, ws, e, .ofD a, .ofD b⟩
    · obtain ⟨us, ws, e, a, b⟩ := r
      cases hf
      exact ⟨us, ws, e, a, b⟩
    · cases hf
  obtain ⟨us, ws, e, a, b⟩ := h1
  refine ⟨us ++ args.toList.map A.eval ++ ws, ?_, ALRep.append (ALRep.append a (aget_map s args.toList)) b⟩
  have hm : args.map A.eval = (args.toList.map A.eval).toArray := by apply Array.ext'; simp
  unfold execOp
  simp [ho, resolve, e, Deferred.ofValue, invoke, callFunc_run hg, hm]

theorem do_callS {g : FuncId} {fs cs : List AV} {f : Operand} {args : Array Operand} {tys : Array TypeId} {post : AV → List AObj → Prop} (ho : o.op = .call { callee := .value f, args := args, argTypes := tys })
    (hf : cloOf (aget fr f) = some (g, fs, cs)) (ht : dstOk o.dst nt = true) (hr : Runs P g (fs ++ args.toList.map (aget fr) ++ cs) σ post) (hn : ∀ v σ', post v σ' → next (fput o.dst v fr) σ') : DoOp P nt o fr σ false next := by
  intro k x A w Q s
  obtain ⟨vs, h1, h2⟩ := call_run s hr.1 ho hf
  unfold Oper.wp
  rw [h1, Oper.upon_enter]
  refine Calls.mono (hr.2 k.B k.R x w vs h2 s.heap s.calm) fun e w' ⟨u, v, x', σ', e1, e2, e3, e4, e5, e6⟩ => ?_
  subst e1
  exact ⟨(fun h => by cases h), x', _, σ', e2, (s.to e2 e4 e5).put ht e3, hn v σ' e6⟩

theorem Heap.callP {x : Ctx} {R : Frag} {w w' : World} (h : Heap x σ R w) {F' : Frag} (h1 : Le x.F F') (h2 : Le F' (fun b => w'.heap[b]?)) (h3 : Agree w w') (h4 : ∀ b, x.F b = none → b < w.heap.size → F' b = none) : Heap (x.frz F') σ R w' := by
  obtain ⟨g, g1, g2, g3, g4⟩ := h.own
  have dis : ∀ k : Frag, Disj k x.F → Le k (fun b => w.heap[b]?) → Disj k F' := fun k dk hk b => by
    cases hb : k b with
    | none => exact .inl rfl
    | some ob =>
      right
      refine h4 b ?_ (heap_lt hk hb)
      exact (dk b).resolve_left (by rw [hb]; simp)
  refine ⟨h2, h.hR.agree h3, h.n, (dis _ h.FR.symm h.hR).symm, g, fun l ob hl => (g1 l ob hl).ext (Ctx.frz_ext h1), fun l => (g2 l).agree h3, g3, fun l => ⟨dis _ (g4 l).1 (g2 l), (g4 l).2⟩⟩

theorem do_callP {g : FuncId} {fs cs : List AV} {ds : List DV} {f : Operand} {args : Array Operand} {tys : Array TypeId} {post : DV → Prop} (ho : o.op = .call { callee := .value f, args := args, argTypes := tys })
    (hf : cloOf (aget fr f) = some (g, fs, cs)) (ht : dstOk o.dst nt = true) (hd : allD (fs ++ args.toList.map (aget fr) ++ cs) = some ds) (hr : RunsP P g ds post) (hn : ∀ v, post v → next (fput o.dst (.d v) fr) σ) : DoOp P nt o fr σ keep next := by
  intro k x A w Q s
  obtain ⟨vs, h1, h2⟩ := call_run s hr.1 ho hf
  rw [allD_map hd] at h2
  unfold Oper.wp
  rw [h1, Oper.upon_enter]
  refine Calls.mono (hr.2 k.B x.F w vs h2.toD s.heap.hF s.calm) fun e w' ⟨u, v, F', e1, e2, e3, e4, e5, e6, e7, e8⟩ => ?_
  subst e1
  have hx : CtxExt x (x.frz F') := Ctx.frz_ext e2
  exact ⟨fun _ => e5, _, _, σ, hx, (s.to hx (s.heap.callP e2 e4 e5 e6) e7).put (v := .d v) ht e3, hn v e8⟩
end
end Go.Proofs.Ytlpgekodoiioaaa
