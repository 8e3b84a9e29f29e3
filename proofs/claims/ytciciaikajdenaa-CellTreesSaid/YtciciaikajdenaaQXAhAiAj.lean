/- Ah, Ai, Aj: in one. -/
import Derived.Recover
import Derived.Test.YtciciaikajdenaaQAf
set_option linter.unusedSimpArgs false
set_option linter.unusedVariables false
/- Ah: contracts made weaker, arguments that say more, owned results frozen. -/
namespace Go.Proofs.Ytciciaikajdenaa
open Go.RowKit

section
variable {P : Program} {nt : Nat} {Q : Exit → Fr → List AObj → Prop} {fr : Fr} {σ : List AObj}
theorem w_shrinkF {c : Code} {loc U sz ver : Nat} {rows : List (List DV)} (n : Nat) (hl : σ[loc]? = some (.arr U sz ver rows)) (h : ∀ σ', Chg σ loc (.arr U sz ver (rows.take n)) σ' → AWk P nt c Q fr σ') : AWk P nt c Q fr σ :=
  aw_ghost (ghost_shrink n hl) (h _ (chg_set hl))
end

section
variable {P : Program} {f : FuncId} {args args' : List DV}

theorem RunsP.weak {y : DV} (h : RunsP P f args (fun v => Wk v y)) : RunsP P f args (fun v => v = y) :=
  ⟨h.1, fun B F w vs a b c => Calls.mono (h.2 B F w vs a b c) fun e w' ⟨u, v, F', h1, h2, h3, h4, h5, h6, h7, h8⟩ => ⟨u, y, F', h1, h2, h8 F' u h3, h4, h5, h6, h7, rfl⟩⟩

theorem RunsP.wkA {post : DV → Prop} (h : RunsP P f args post) (hw : WkL args' args) : RunsP P f args' post :=
  ⟨h.1, fun B F w vs a b c => h.2 B F w vs (hw.rep a) b c⟩

/-- An owned slice that comes back, frozen. -/
theorem RunsP.ofOwn {sz : Nat} {rows : List (List DV)} (h : Runs P f (args.map .d) [] fun v σ' => ∃ loc ver U, v = .own loc ver sz 0 rows.length ∧ σ'[loc]? = some (.arr U sz ver rows)) : RunsP P f args (fun v => v = .lst sz rows) := by
  refine Runs.pure ⟨h.1, fun B R x w vs a b c => Calls.mono (h.2 B R x w vs a b c) fun e w' ⟨u, v, x', σ', h1, h2, h3, h4, h5, loc, ver, U, h6, h7⟩ => ?_⟩
  subst h6
  obtain ⟨g, ho, hd, hh⟩ := h4.freeze h7
  have hx : CtxExt x' (x'.frz (Un x'.F g)) := Ctx.frz_ext (Le.un_left _ _)
  refine ⟨u, .d (.lst sz rows), _, _, h1, h2.trans hx, ?_, hh, h5, _, rfl, rfl⟩
  exact asD_rep (σ := σ') h3 ⟨rfl, U, rows, h7, by simp, by omega⟩ h7 ho hd

end
/-! A skipped operation leaves 'undef': the empty tuple. -/
section
variable {P : Program} {nt : Nat} {Q : Exit → Fr → List AObj → Prop} {fr : Fr} {σ : List AObj} {ops : Array Oper} {dr : Bool} {dos ends : List Nat} {l : Trr} {i d : Nat} {o : Oper}
variable {dst : Option Tmp} {op : Op} {ty : TypeId} {pos : String} {aft : Array Edge} {gd : Option (Nat × Bool)}
theorem al_skipU (ho : ops[i]? = some o) (ht : dstOk o.dst nt = true) (hw : ∀ k x A w, Sim k x nt fr σ A w → Region.wanted o (yielded ops A.tmps) = false)
    (h : AL P nt ops dr dos ends l Q (fput o.dst (.tup []) fr) σ) : AL P nt ops dr dos ends (.one i l) Q fr σ := by
  refine ⟨fun k x A w s => ?_⟩
  have hu : ARep x (.tup []) undef := ⟨[], rfl, rfl⟩
  unfold walkW stepW
  cases hd : (dr && dos.contains i) with
  | false => exact .inl ⟨rfl, o, undef, ho, .inr ⟨hw k x A w s, rfl⟩, h.out k x _ w (s.put ht hu)⟩
  | true =>
    refine .inr ⟨by rw [Bool.and_eq_true] at hd; rw [hd.1, hd.2]; rfl, ?_⟩
    unfold wpOp
    simp only [ho, hw k x A w s]
    exact ⟨fun _ => Agree.refl w, h.out k x _ w (s.put ht hu)⟩
theorem s_skipV {j : Nat} {w : Bool} (hg : guardB ops fr (some (j, w)) = some false) (ht : Nat.blt d nt = true) (h : AL P nt ops dr dos ends l Q ((d, .tup []) :: fr) σ) : ALo P nt ops dr dos ends i ⟨some d, op, ty, pos, aft, some (j, w)⟩ l Q fr σ :=
  ⟨fun ho => al_skipU ho ht (fun k x A w s => guardA_spec s (guardB_eq hg)) h⟩
theorem s_skipU {j t : Nat} {w : Bool} (hj : guardT ops (some (j, w)) = some t) (hu : fget fr t = .tup []) (ht : Nat.blt d nt = true) (h : AL P nt ops dr dos ends l Q ((d, .tup []) :: fr) σ) : ALo P nt ops dr dos ends i ⟨some d, op, ty, pos, aft, some (j, w)⟩ l Q fr σ :=
  ⟨fun ho => al_skipU ho ht (fun k x A w2 s => by
    have h1 := s.tmps t
    rw [hu] at h1
    obtain ⟨us, e, e2⟩ := h1
    have e2 : us = [] := e2
    subst e2
    unfold Region.wanted yielded
    have hj : (ops[j]?).bind (·.dst) = some t := hj
    simp only [hj, Option.bind_some]
    rw [Array.getD_eq_getD_getElem?] at e
    cases hq : A.tmps[t]? with
    | none => rfl
    | some q => rw [hq] at e; simp only [Option.getD_some] at e; subst e; rfl) h⟩
end

theorem o_keep (ks : List Nat) {P : Program} {nt : Nat} {Q : Exit → Fr → List AObj → Prop} {fr fr' : Fr} {σ : List AObj} {ops : Array Oper} {dr : Bool} {dos ends : List Nat} {l : Trr} {i : Nat} {o : Oper} {vs : List AV}
    (hv : getO ks fr = some vs) (hf : seqL (ks.zip vs) some = some fr') (h : ALo P nt ops dr dos ends i o l Q fr' σ) : ALo P nt ops dr dos ends i o l Q fr σ := by
  rw [seqL_eq] at hf
  injection hf with hf
  subst hf
  refine ⟨fun ho => al_ghost (ghost_frame fun i => ?_) (h.out ho)⟩
  rw [getO_eq hv]; exact fget_zip ks fr i

section
variable {P : Program} {nt : Nat} {Q : Exit → Fr → List AObj → Prop} {fr : Fr} {σ : List AObj} {ops : Array Oper} {dr : Bool} {dos ends : List Nat} {l : Trr} {i d : Nat} {o : Oper}
variable {dst : Option Tmp} {op : Op} {ty : TypeId} {pos : String} {aft : Array Edge} {gd : Option (Nat × Bool)}
theorem rd_min {t t2 : TypeId} {a b : Operand} {k k' : IntKind} {m n : Int} (ho : o.op = .call { callee := .builtin .min, args := #[a, b], argTypes := #[t, t2] }) (ha : aget fr a = .d (.v (.int k m))) (hb : aget fr b = .d (.v (.int k' n))) : RdOp P o fr σ (.d (.v (.int k (if n < m then n else m)))) := by
  intro x c nt A w s
  have k1 := s.arg a
  have k2 := s.arg b
  rw [ha] at k1
  rw [hb] at k2
  obtain ⟨e1, _⟩ := k1
  obtain ⟨e2, _⟩ := k2
  refine ⟨.int k (if n < m then n else m), ⟨rfl, rfl⟩, fun w' _ => ?_⟩
  unfold execOp
  simp [ho, resolve, invoke, builtin, e1, e2, run_min_int2]
theorem rd_max {t t2 : TypeId} {a b : Operand} {k k' : IntKind} {m n : Int} (ho : o.op = .call { callee := .builtin .max, args := #[a, b], argTypes := #[t, t2] }) (ha : aget fr a = .d (.v (.int k m))) (hb : aget fr b = .d (.v (.int k' n))) : RdOp P o fr σ (.d (.v (.int k (if n > m then n else m)))) := by
  intro x c nt A w s
  have k1 := s.arg a
  have k2 := s.arg b
  rw [ha] at k1
  rw [hb] at k2
  obtain ⟨e1, _⟩ := k1
  obtain ⟨e2, _⟩ := k2
  refine ⟨.int k (if n > m then n else m), ⟨rfl, rfl⟩, fun w' _ => ?_⟩
  unfold execOp
  simp [ho, resolve, invoke, builtin, e1, e2, run_max_int2]
theorem s_min {t t2 : TypeId} {a b : Operand} {k k' : IntKind} {m n : Int} (hp : dr = dr) (hg : guardB ops fr gd = some true) (ht : Nat.blt d nt = true) (ha : aget fr a = .d (.v (.int k m))) (hb : aget fr b = .d (.v (.int k' n))) (h : AL P nt ops dr dos ends l Q ((d, .d (.v (.int k (if n < m then n else m)))) :: fr) σ) : ALo P nt ops dr dos ends i ⟨some d, .call { callee := .builtin .min, args := #[a, b], argTypes := #[t, t2] }, ty, pos, aft, gd⟩ l Q fr σ :=
  ⟨fun ho => s_read ho hp hg ht (rd_min rfl ha hb) h⟩
theorem s_max {t t2 : TypeId} {a b : Operand} {k k' : IntKind} {m n : Int} (hp : dr = dr) (hg : guardB ops fr gd = some true) (ht : Nat.blt d nt = true) (ha : aget fr a = .d (.v (.int k m))) (hb : aget fr b = .d (.v (.int k' n))) (h : AL P nt ops dr dos ends l Q ((d, .d (.v (.int k (if n > m then n else m)))) :: fr) σ) : ALo P nt ops dr dos ends i ⟨some d, .call { callee := .builtin .max, args := #[a, b], argTypes := #[t, t2] }, ty, pos, aft, gd⟩ l Q fr σ :=
  ⟨fun ho => s_read ho hp hg ht (rd_max rfl ha hb) h⟩
end

section
variable {P : Program} {nt : Nat} {Q : Exit → Fr → List AObj → Prop} {fr : Fr} {σ σ' : List AObj} {ops : Array Oper} {dr : Bool} {dos ends : List Nat} {l : Trr} {i d : Nat} {o : Oper} {next : Fr → List AObj → Prop} {keep : Bool}
variable {dst : Option Tmp} {op : Op} {ty : TypeId} {pos : String} {aft : Array Edge} {gd : Option (Nat × Bool)}
/-- A ghost step ahead of an operation. -/
theorem o_freeze (ts : List (Nat × DV)) {loc : Nat} {ob : AObj} {fr' : Fr} (hl : σ[loc]? = some ob) (ha : ∀ p ∈ ts, asD σ (fget fr p.1) loc p.2) (hfr : seqL (ts.map (fun p => (p.1, AV.d p.2)) ++ fr) some = some fr') (hs : seqL (σ.set loc .dead) some = some σ') (h : ALo P nt ops dr dos ends i o l Q fr' σ') : ALo P nt ops dr dos ends i o l Q fr σ :=
  ⟨fun ho => s_freeze ts hl ha hfr hs (h.out ho)⟩

theorem allD_mapd : ∀ l : List DV, allD (l.map AV.d) = some l
  | [] => rfl
  | a :: l => by simp [allD, allD_mapd l]

/-- A box that no one writes: frozen from the start. -/
theorem do_boxZ {t : TypeId} {a : Operand} {cs : List DV} (ho : o.op = .box t a) (ht : dstOk o.dst nt = true) (h1 : oneA (aget fr a) = true) (hc : allD (cellsA (aget fr a)) = some cs) (hn : next (fput o.dst (.d (.fptr cs)) fr) σ) : DoOp P nt o fr σ keep next := by
  refine do_value ht (fun v σ' => v = .d (.fptr cs) ∧ σ' = σ) (fun v σ' ⟨a, b⟩ => a ▸ b ▸ hn) fun k x A w s => ?_
  obtain ⟨r1, r2⟩ := cellsA_rep (s.arg a) h1
  rw [allD_map hc] at r1
  have r1 := r1.toD
  refine ⟨.pointer (some ⟨w.heap.size, 0, none⟩), w.alloc (.cells (A.eval a).cells.toList.toArray t), x.frz (Un x.F (oneFrag w.heap.size (.cells (A.eval a).cells.toList.toArray t))), _, _, ?_, Ctx.frz_ext (Le.un_left _ _), ?_, frz_new s.heap _, s.calm.alloc _, fun _ => agree_alloc _ _, rfl, rfl⟩
  · unfold execOp
    simp [ho, Instr.box, newVar, newRow]
  · refine ⟨_, _, rfl, CRep.of_list (r1.mono (Le.un_left _ _)) r2 fun j u hj => ?_⟩
    have hn : x.F w.heap.size = none := by
      cases hb : x.F w.heap.size with
      | none => rfl
      | some ob => have := heap_lt s.heap.hF hb; omega
    simp only [Ctx.frz, fcell, Un, hn, oneFrag, if_true]
    simpa using hj
theorem s_boxZ {t : TypeId} {a : Operand} {cs : List DV} (hp : (dr && !dos.contains i) = false) (hg : guardB ops fr gd = some true) (hk : (dr && !ends.contains i && !true) = false) (ht : Nat.blt d nt = true) (h1 : oneA (aget fr a) = true) (hc : allD (cellsA (aget fr a)) = some cs) (h : AL P nt ops dr dos ends l Q ((d, .d (.fptr cs)) :: fr) σ) : ALo P nt ops dr dos ends i ⟨some d, .box t a, ty, pos, aft, gd⟩ l Q fr σ := by
  refine ⟨fun ho => s_do (keep := true) ho hp hg hk ?_⟩
  exact do_boxZ (o := ⟨some d, .box t a, ty, pos, aft, gd⟩) rfl ht h1 hc h
end
/-! What comes behind a region, as a letter: a step costs what its postcondition weighs. -/
section
variable {P : Program} {nt : Nat} {Q : Exit → Fr → List AObj → Prop} {fr : Fr} {σ : List AObj} {ops : Array Oper}
theorem aw_regQ {id : Nat} (h : ∀ Q', Q' = Q → AL P nt ops false [] [] (upto ops.size 0) Q' fr σ) : AWk P nt (.region id ops false) Q fr σ := aw_reg (h Q rfl)
theorem aw_drawsQ {id : Nat} (l : Trr) (dos ends : List Nat) (hm : P.follows .mixedOrders = true) (hB : orderT ops dos ends l = true) (h : ∀ Q', Q' = Q → AL P nt ops true dos ends l Q' fr σ) : AWk P nt (.region id ops true) Q fr σ := aw_draws l dos ends hm hB (h Q rfl)
theorem q_abs {Q' : Exit → Fr → List AObj → Prop} {e : Exit} (hQ : Q' = Q) (h : Q e fr σ) : Q' e fr σ := hQ ▸ h
end
end Go.Proofs.Ytciciaikajdenaa

/- Ai: comparisons that part the way in two. -/
namespace Go.Proofs.Ytciciaikajdenaa
open Go.RowKit

section
variable {P : Program} {T : Tab} {Z : TabZ} {nt : Nat} {Q : Exit → Fr → List AObj → Prop} {fr : Fr} {σ : List AObj} {ops : Array Oper} {dr : Bool} {dos ends : List Nat} {l : Trr} {i d : Nat}
variable {ty : TypeId} {pos : String} {aft : Array Edge} {gd : Option (Nat × Bool)}
theorem s_eqlS {t t' : TypeId} {a b : Operand} {k : IntKind} {m n : Int} (hp : dr = dr) (hg : guardB ops fr gd = some true) (ht : Nat.blt d nt = true) (ha : aget fr a = .d (.v (.int k m))) (hb : aget fr b = .d (.v (.int k n))) (h1 : m = n → AL P nt ops dr dos ends l Q ((d, .d (.v (.bool true))) :: fr) σ) (h2 : m ≠ n → AL P nt ops dr dos ends l Q ((d, .d (.v (.bool false))) :: fr) σ) : ALo P nt ops dr dos ends i ⟨some d, .binOp .eql t a b t', ty, pos, aft, gd⟩ l Q fr σ := by
  by_cases e : m = n
  · exact s_eql_t hp hg ht ha hb e (h1 e)
  · exact s_eql_f hp hg ht ha hb (by omega) (h2 (by omega))
theorem s_neqS {t t' : TypeId} {a b : Operand} {k : IntKind} {m n : Int} (hp : dr = dr) (hg : guardB ops fr gd = some true) (ht : Nat.blt d nt = true) (ha : aget fr a = .d (.v (.int k m))) (hb : aget fr b = .d (.v (.int k n))) (h1 : m ≠ n → AL P nt ops dr dos ends l Q ((d, .d (.v (.bool true))) :: fr) σ) (h2 : m = n → AL P nt ops dr dos ends l Q ((d, .d (.v (.bool false))) :: fr) σ) : ALo P nt ops dr dos ends i ⟨some d, .binOp .neq t a b t', ty, pos, aft, gd⟩ l Q fr σ := by
  by_cases e : m ≠ n
  · exact s_neq_t hp hg ht ha hb e (h1 e)
  · exact s_neq_f hp hg ht ha hb (by omega) (h2 (by omega))
theorem s_lssS {t t' : TypeId} {a b : Operand} {k : IntKind} {m n : Int} (hp : dr = dr) (hg : guardB ops fr gd = some true) (ht : Nat.blt d nt = true) (ha : aget fr a = .d (.v (.int k m))) (hb : aget fr b = .d (.v (.int k n))) (h1 : m < n → AL P nt ops dr dos ends l Q ((d, .d (.v (.bool true))) :: fr) σ) (h2 : n ≤ m → AL P nt ops dr dos ends l Q ((d, .d (.v (.bool false))) :: fr) σ) : ALo P nt ops dr dos ends i ⟨some d, .binOp .lss t a b t', ty, pos, aft, gd⟩ l Q fr σ := by
  by_cases e : m < n
  · exact s_lss_t hp hg ht ha hb e (h1 e)
  · exact s_lss_f hp hg ht ha hb (by omega) (h2 (by omega))
theorem s_gtrS {t t' : TypeId} {a b : Operand} {k : IntKind} {m n : Int} (hp : dr = dr) (hg : guardB ops fr gd = some true) (ht : Nat.blt d nt = true) (ha : aget fr a = .d (.v (.int k m))) (hb : aget fr b = .d (.v (.int k n))) (h1 : n < m → AL P nt ops dr dos ends l Q ((d, .d (.v (.bool true))) :: fr) σ) (h2 : m ≤ n → AL P nt ops dr dos ends l Q ((d, .d (.v (.bool false))) :: fr) σ) : ALo P nt ops dr dos ends i ⟨some d, .binOp .gtr t a b t', ty, pos, aft, gd⟩ l Q fr σ := by
  by_cases e : n < m
  · exact s_gtr_t hp hg ht ha hb e (h1 e)
  · exact s_gtr_f hp hg ht ha hb (by omega) (h2 (by omega))
theorem s_leqS {t t' : TypeId} {a b : Operand} {k : IntKind} {m n : Int} (hp : dr = dr) (hg : guardB ops fr gd = some true) (ht : Nat.blt d nt = true) (ha : aget fr a = .d (.v (.int k m))) (hb : aget fr b = .d (.v (.int k n))) (h1 : m ≤ n → AL P nt ops dr dos ends l Q ((d, .d (.v (.bool true))) :: fr) σ) (h2 : n < m → AL P nt ops dr dos ends l Q ((d, .d (.v (.bool false))) :: fr) σ) : ALo P nt ops dr dos ends i ⟨some d, .binOp .leq t a b t', ty, pos, aft, gd⟩ l Q fr σ := by
  by_cases e : m ≤ n
  · exact s_leq_t hp hg ht ha hb e (h1 e)
  · exact s_leq_f hp hg ht ha hb (by omega) (h2 (by omega))
theorem s_geqS {t t' : TypeId} {a b : Operand} {k : IntKind} {m n : Int} (hp : dr = dr) (hg : guardB ops fr gd = some true) (ht : Nat.blt d nt = true) (ha : aget fr a = .d (.v (.int k m))) (hb : aget fr b = .d (.v (.int k n))) (h1 : n ≤ m → AL P nt ops dr dos ends l Q ((d, .d (.v (.bool true))) :: fr) σ) (h2 : m < n → AL P nt ops dr dos ends l Q ((d, .d (.v (.bool false))) :: fr) σ) : ALo P nt ops dr dos ends i ⟨some d, .binOp .geq t a b t', ty, pos, aft, gd⟩ l Q fr σ := by
  by_cases e : n ≤ m
  · exact s_geq_t hp hg ht ha hb e (h1 e)
  · exact s_geq_f hp hg ht ha hb (by omega) (h2 (by omega))
theorem s_streqS {t t' : TypeId} {a b : Operand} {m n : ByteArray} (hp : dr = dr) (hg : guardB ops fr gd = some true) (ht : Nat.blt d nt = true) (ha : aget fr a = .d (.v (.string m))) (hb : aget fr b = .d (.v (.string n))) (h1 : m = n → AL P nt ops dr dos ends l Q ((d, .d (.v (.bool true))) :: fr) σ) (h2 : m ≠ n → AL P nt ops dr dos ends l Q ((d, .d (.v (.bool false))) :: fr) σ) : ALo P nt ops dr dos ends i ⟨some d, .binOp .eql t a b t', ty, pos, aft, gd⟩ l Q fr σ := by
  by_cases e : m = n
  · exact s_streq_t hp hg ht ha hb e (h1 e)
  · exact s_streq_f hp hg ht ha hb e (h2 e)
theorem s_strneS {t t' : TypeId} {a b : Operand} {m n : ByteArray} (hp : dr = dr) (hg : guardB ops fr gd = some true) (ht : Nat.blt d nt = true) (ha : aget fr a = .d (.v (.string m))) (hb : aget fr b = .d (.v (.string n))) (h1 : m ≠ n → AL P nt ops dr dos ends l Q ((d, .d (.v (.bool true))) :: fr) σ) (h2 : m = n → AL P nt ops dr dos ends l Q ((d, .d (.v (.bool false))) :: fr) σ) : ALo P nt ops dr dos ends i ⟨some d, .binOp .neq t a b t', ty, pos, aft, gd⟩ l Q fr σ := by
  by_cases e : m = n
  · exact s_strne_f hp hg ht ha hb e (h2 e)
  · exact s_strne_t hp hg ht ha hb e (h1 e)
end
end Go.Proofs.Ytciciaikajdenaa

/- Aj: rows that become frozen pointers; what a run keeps of the objects that were there. -/
namespace Go.Proofs.Ytciciaikajdenaa
open Go.RowKit

section
variable {P : Program} {T : Tab} {Z : TabZ} {nt : Nat} {Q : Exit → Fr → List AObj → Prop} {next : Fr → List AObj → Prop} {fr : Fr} {σ σ' : List AObj} {ops : Array Oper} {dr : Bool} {dos ends : List Nat} {l : Trr} {i d : Nat} {o : Oper} {v : AV}
theorem freezeP (t : Nat) {loc U : Nat} {cells : List AV} {ds : List DV} (ht : fget fr t = .ptr loc 0 0) (hl : σ[loc]? = some (.row U cells)) (hd : allD cells = some ds) : Ghost fr σ ((t, .d (.fptr ds)) :: fr) (σ.set loc .dead) :=
  ghost_freeze (ts := [(t, .fptr ds)]) hl fun p hp => by
    simp at hp
    subst hp
    rw [ht]
    exact ⟨rfl, rfl, U, cells, ds, hl, hd, by simp⟩
theorem o_freezeP (t : Nat) {loc U : Nat} {cells : List AV} {ds : List DV} (ht : fget fr t = .ptr loc 0 0) (hl : σ[loc]? = some (.row U cells)) (hd : allD cells = some ds) (h : ∀ σ', Chg σ loc .dead σ' → ALo P nt ops dr dos ends i o l Q ((t, .d (.fptr ds)) :: fr) σ') : ALo P nt ops dr dos ends i o l Q fr σ :=
  ⟨fun ho => al_ghost (freezeP t ht hl hd) ((h _ (chg_set hl)).out ho)⟩
theorem s_freezeP (t : Nat) {loc U : Nat} {cells : List AV} {ds : List DV} (ht : fget fr t = .ptr loc 0 0) (hl : σ[loc]? = some (.row U cells)) (hd : allD cells = some ds) (h : ∀ σ', Chg σ loc .dead σ' → AL P nt ops dr dos ends l Q ((t, .d (.fptr ds)) :: fr) σ') : AL P nt ops dr dos ends l Q fr σ :=
  al_ghost (freezeP t ht hl hd) (h _ (chg_set hl))
theorem w_freezeP {c : Code} (t : Nat) {loc U : Nat} {cells : List AV} {ds : List DV} (ht : fget fr t = .ptr loc 0 0) (hl : σ[loc]? = some (.row U cells)) (hd : allD cells = some ds) (h : ∀ σ', Chg σ loc .dead σ' → AWk P nt c Q ((t, .d (.fptr ds)) :: fr) σ') : AWk P nt c Q fr σ :=
  aw_ghost (freezeP t ht hl hd) (h _ (chg_set hl))
end

/-- A row of cells, some of which are what is at l, as frozen data. -/
def asDC (σ : List AObj) (l : Nat) : List AV → List DV → Prop
  | [], ds => ds = []
  | a :: as, ds => ∃ d ds', ds = d :: ds' ∧ (a = .d d ∨ asD σ a l d) ∧ asDC σ l as ds'
theorem asDC_rep {σ : List AObj} {x : Ctx} {l : Nat} {ob : AObj} {f : Frag} (hl : σ[l]? = some ob) (ho : ORep x (x.env l) ob f) (hd : Disj f x.F) : ∀ {cells : List AV} {ds : List DV} {us : List Value}, ALRep x cells us → asDC σ l cells ds → LRep (Un x.F f) ds us
  | [], _, _, h, e => by
    have e : _ = [] := e
    subst e
    exact h
  | a :: as, _, _, ⟨u, us', e, r, q⟩, ⟨d, ds', e2, h, k⟩ => by
    subst e e2
    refine ⟨u, us', rfl, ?_, asDC_rep hl ho hd q k⟩
    rcases h with rfl | h
    · exact DRep.mono (Le.un_left _ _) r
    · exact asD_rep r h hl ho hd
section
variable {P : Program} {nt : Nat} {Q : Exit → Fr → List AObj → Prop} {fr : Fr} {σ : List AObj} {ops : Array Oper} {dr : Bool} {dos ends : List Nat} {l : Trr} {i : Nat} {o : Oper}
theorem freezeA (t : Nat) {loc : Nat} {ob : AObj} {cells : List AV} {ds : List DV} (ht : fget fr t = .agg cells) (hl : σ[loc]? = some ob) (h : asDC σ loc cells ds) : Ghost fr σ ((t, .d (.agg ds)) :: fr) (σ.set loc .dead) := by
  intro k x nt A w s
  obtain ⟨f, ho, hd, hh⟩ := s.heap.freeze hl
  have hx : CtxExt x (x.frz (Un x.F f)) := Ctx.frz_ext (Le.un_left _ _)
  refine ⟨_, hx, s.size, s.defers, fun i => ?_, hh, s.calm⟩
  by_cases e : t = i
  · subst e
    rw [fget_cons_self]
    have := s.tmps t
    rw [ht] at this
    obtain ⟨us, e, r, o⟩ := this
    exact ⟨us, e, asDC_rep hl ho hd r h, o⟩
  · rw [fget_cons_ne _ _ e]; exact (s.tmps i).ext hx
theorem o_freezeA (t : Nat) {loc : Nat} {ob : AObj} {cells : List AV} {ds : List DV} (ht : fget fr t = .agg cells) (hl : σ[loc]? = some ob) (hd : asDC σ loc cells ds) (h : ∀ σ', Chg σ loc .dead σ' → ALo P nt ops dr dos ends i o l Q ((t, .d (.agg ds)) :: fr) σ') : ALo P nt ops dr dos ends i o l Q fr σ :=
  ⟨fun ho => al_ghost (freezeA t ht hl hd) ((h _ (chg_set hl)).out ho)⟩
end

/-- A result of which less is said. -/
theorem Runs.weakR {P : Program} {f : FuncId} {args : List AV} {σ : List AObj} {y : DV} {post : List AObj → Prop} (h : Runs P f args σ (fun v σ' => ∃ x, v = .d x ∧ Wk x y ∧ post σ')) : Runs P f args σ (fun v σ' => v = .d y ∧ post σ') :=
  ⟨h.1, fun B R x w vs a b c => Calls.mono (h.2 B R x w vs a b c) fun e w' ⟨u, v, x', σ', h1, h2, h3, h4, h5, z, h6, h7, h8⟩ => ⟨u, .d y, x', σ', h1, h2, by subst h6; exact h7 x'.F u h3, h4, h5, rfl, h8⟩⟩

/-- The objects of p that were there are there, as they were. -/
def KeptP (p : Nat → Prop) (σ σ' : List AObj) : Prop := ∀ k o, p k → σ[k]? = some o → σ'[k]? = some o
/-- What is at loc was not there; or is none of p. -/
def OutP (p : Nat → Prop) (σ : List AObj) (loc : Nat) : Prop := ∀ o, p loc → σ[loc]? ≠ some o
section
variable {p : Nat → Prop} {σ0 σ σ' σ2 : List AObj} {loc : Nat} {o : AObj}
theorem KeptP.refl (p : Nat → Prop) (σ : List AObj) : KeptP p σ σ := fun _ _ _ h => h
theorem KeptP.trans (h : KeptP p σ σ') (k : KeptP p σ' σ2) : KeptP p σ σ2 := fun n o hp e => k n o hp (h n o hp e)
theorem KeptP.fresh (h : KeptP p σ0 σ) (hc : Fresh σ loc o σ') : KeptP p σ0 σ' := fun n o' hp e => hc.keep (h n o' hp e)
theorem KeptP.out (h : KeptP p σ0 σ) (hc : Fresh σ loc o σ') : OutP p σ0 loc := fun o' hp e => hc.ne (h loc o' hp e) rfl
theorem KeptP.chg (h : KeptP p σ0 σ) (n : OutP p σ0 loc) (hc : Chg σ loc o σ') : KeptP p σ0 σ' := fun k o' hp e => by
  refine hc.keep ?_ (h k o' hp e)
  intro hk
  subst hk
  exact n o' hp e
theorem KeptP.of {q : Nat → Prop} (h : KeptP p σ0 σ) (hq : ∀ k, q k → p k) : KeptP q σ0 σ := fun k o hk e => h k o (hq k hk) e
theorem KeptP.all (h : KeptP (fun _ => True) σ0 σ) {k : Nat} {o : AObj} (e : σ0[k]? = some o) : σ[k]? = some o := h k o trivial e
theorem KeptP.but {L : Nat} (h : KeptP (· ≠ L) σ0 σ) {k : Nat} {o : AObj} (hk : k ≠ L) (e : σ0[k]? = some o) : σ[k]? = some o := h k o hk e
theorem KeptP.adopt {t L U sz : Nat} {c : List AV} (h : KeptP p σ0 σ) (n : OutP p σ0 loc) (hc : AdoptC σ loc t c L U sz σ') : KeptP p σ0 σ' ∧ OutP p σ0 L :=
  ⟨fun k o' hp e => hc.keep (fun hk => by subst hk; exact n o' hp e) (h k o' hp e), fun o' hp e => hc.fresh L o' (h L o' hp e) rfl⟩
theorem Fresh.keptP (p : Nat → Prop) (hc : Fresh σ loc o σ') : KeptP p σ σ' := fun k o' _ e => hc.keep e
end
section
variable {P : Program} {nt : Nat} {Q : Exit → Fr → List AObj → Prop} {fr : Fr} {σ : List AObj}
theorem w_adoptC {c : Code} (loc j U sz : Nat) {t : TypeId} {cells : List AV} (hl : σ[loc]? = some (.row t cells)) (hj : cells[j]? = some (.d .nil))
    (h : ∀ L σ', AdoptC σ loc t (cells.set j (.own L 0 sz 0 0)) L U sz σ' → AWk P nt c Q fr σ') : AWk P nt c Q fr σ := by
  refine aw_ghost (ghost_adopt_cell (U := U) (sz := sz) hl hj) (h σ.length _ ?_)
  have hlt := (List.getElem?_eq_some_iff.1 hl).1
  refine ⟨?_, ?_, by omega, fun k o e hk => ?_, fun k o e => ?_⟩
  · rw [List.getElem?_set_self (by simp; omega)]
  · rw [List.getElem?_set_ne (by omega)]; simp
  · rw [List.getElem?_set_ne (Ne.symm hk), List.getElem?_append_left (List.getElem?_eq_some_iff.1 e).1]; exact e
  · have := (List.getElem?_eq_some_iff.1 e).1; omega
end
theorem wrap64 {z : Int} (h1 : -9223372036854775808 ≤ z) (h2 : z ≤ 9223372036854775807) : IntKind.wrap .i64 z = z := by
  rw [IntKind.wrap_i64]; omega
end Go.Proofs.Ytciciaikajdenaa
/- XAlAl2: Al, Al2 in one. -/
set_option linter.unusedSimpArgs false
set_option linter.unusedVariables false
/- Al: a slice that is written out, owned. -/
namespace Go.Proofs.Ytciciaikajdenaa
open Go.RowKit

section
variable {P : Program} {T : Tab} {Z : TabZ} {nt : Nat} {Q : Exit → Fr → List AObj → Prop} {fr : Fr} {σ : List AObj} {ops : Array Oper} {dr : Bool} {dos ends : List Nat} {l : Trr} {o : Oper} {i d : Nat} {next : Fr → List AObj → Prop} {keep : Bool}
variable {ty : TypeId} {pos : String} {aft : Array Edge} {gd : Option (Nat × Bool)}

theorem do_litO (hT : okTab P T = true) {t e sz bytes len : Nat} {agg : Bool} {parts : Array (Nat × Operand)} {rows : List (List DV)} (ho : o.op = .buildSlice t len parts) (ht : dstOk o.dst nt = true) (hs : find1 T.sl t = some e) (he : find1 T.ty e = some (sz, bytes, agg)) {z : List Value} (hz : ZIs P e z)
    (hr : litRows sz (parts.toList.map fun p => (p.1, aget fr p.2)) 0 = some rows) (hl : Nat.beq parts.size len = true) (hb : Nat.ble (len * sz) 16777216 = true) (hlb : Nat.ble len 16777216 = true) (h : next (fput o.dst (.own σ.length 0 sz 0 rows.length) fr) (σ ++ [.arr e sz 0 rows])) : DoOp P nt o fr σ keep next := by
  refine do_value ht (fun v σ' => v = .own σ.length 0 sz 0 rows.length ∧ σ' = σ ++ [.arr e sz 0 rows]) (fun v σ' ⟨a, b⟩ => a ▸ b ▸ h) fun k x A w s => ?_
  obtain ⟨i, zv, e1, e2, e3⟩ := hz.ex
  have hl := Nat.eq_of_beq_eq_true hl
  have hb := Nat.le_of_ble_eq_true hb
  have hlb := Nat.le_of_ble_eq_true hlb
  have hrl : ∀ (l : List (Nat × AV)) (i : Nat) (rs : List (List DV)), litRows sz l i = some rs → rs.length = l.length := fun l => by
    induction l with
    | nil => intro i rs h; cases h; rfl
    | cons p l ih =>
      intro i rs h
      unfold litRows at h
      split at h
      · rename_i ds rs' _ hrs
        cases hc : (Nat.beq p.1 i && Nat.beq ds.length sz && oneA p.2) <;> rw [hc] at h <;> cases h
        simp [ih _ _ hrs]
      · cases h
  have hlen := hrl _ _ _ hr
  simp only [List.length_map, Array.length_toList] at hlen
  have hsz := (T.tyIs hT he).size_run w
  generalize hza : ((Array.range (len * sz)).map fun j => (if len * sz = 0 then (#[] : Array Value) else zv.cells)[j % (if len * sz = 0 then (#[] : Array Value) else zv.cells).size]!) = za
  have hzs : za.toList.length = parts.toList.length * sz := by rw [← hza]; simp [hl]
  obtain ⟨us, q1, q2, q3⟩ := fill_lit (x := x) sz (parts.toList.map fun p => (p.1, aget fr p.2)) (parts.toList.map fun p => (p.1, A.eval p.2)) 0 rows [] za.toList (by simp) (fun j p q hp hq => by
    simp only [List.getElem?_map, Option.map_eq_some_iff] at hp hq
    obtain ⟨y, hy, rfl⟩ := hp
    obtain ⟨y', hy', rfl⟩ := hq
    rw [hy] at hy'
    injection hy' with hy'
    subst hy'
    exact ⟨rfl, s.arg y.2⟩) hr (by simp) (by simpa using hzs)
  simp only [List.nil_append, Array.toArray_toList] at q1
  have hx := x.push_ext ⟨w.heap.size, rows.length, 0, true⟩
  refine ⟨.slice (some ⟨w.heap.size, 0, none⟩) rows.length rows.length, w.alloc (.cells us.toArray e), x.push ⟨w.heap.size, rows.length, 0, true⟩, _, _, ?_, hx, ?_, s.heap.new ?_, s.calm.alloc _, fun _ => agree_alloc _ _, rfl, rfl⟩
  · unfold execOp
    have hm : (parts.map fun p => (p.1, A.eval p.2)).toList = parts.toList.map fun p => (p.1, A.eval p.2) := by simp
    have hnot : ¬ (16777216 < len * sz) := by omega
    simp only [ho, Instr.buildSlice, Sem.run_bind, run_underlying (T.slIs hT hs), Result.andThen_ok, hsz]
    by_cases h0 : len * sz = 0
    · rw [if_pos h0] at hza
      simp [hnot, h0, hm] at q1 hza ⊢
      subst hza
      simp [q1, newRow, hlen, hl]
    · rw [if_neg h0] at hza
      simp [hnot, h0, hm, zeroValue, run_typeInfo w e1, e2] at q1 hza ⊢
      rw [hza]
      simp [q1, newRow, hlen, hl]
  · refine ⟨by simp [Ctx.push, s.heap.n], by simp, _, rows.length, rfl, fun _ => ⟨Nat.le_refl _, fun _ => ?_, fun q => ?_⟩⟩
    · simp [Ctx.push, s.heap.n]
    · simp [Ctx.push, s.heap.n] at q
  · refine ⟨rfl, .inr ⟨rfl, us, [], ?_, q2.mono hx.F, q3, Nat.le_refl _, by show rows.length ≤ maxLen; unfold maxLen; omega, ?_⟩⟩
    · simp [oneFrag]
    · rw [q2.len]; simp
/-- A slice that is written out is owned. -/
theorem s_litO (hT : okTab P T = true) (hZ : okTabZ P Z = true) {t e sz bytes len m : Nat} {agg : Bool} {parts : Array (Nat × Operand)} {rows : List (List DV)} {z : List Value} (hp : (dr && !dos.contains i) = false) (hg : guardB ops fr gd = some true) (hk : (dr && !ends.contains i && !true) = false) (ht : Nat.blt d nt = true) (hs : find1 T.sl t = some e) (he : find1 T.ty e = some (sz, bytes, agg)) (hz : find1 Z.zs e = some z)
    (hr : litRows sz (parts.toList.map fun p => (p.1, aget fr p.2)) 0 = some rows) (hl : Nat.beq parts.size len = true) (hb : Nat.ble (len * sz) 16777216 = true) (hlb : Nat.ble len 16777216 = true) (hm : rows.length = m)
    (h : ∀ loc σ', Fresh σ loc (.arr e sz 0 rows) σ' → AL P nt ops dr dos ends l Q ((d, .own loc 0 sz 0 m) :: fr) σ') : ALo P nt ops dr dos ends i ⟨some d, .buildSlice t len parts, ty, pos, aft, gd⟩ l Q fr σ := by
  subst hm
  refine ⟨fun ho => s_do (keep := true) ho hp hg hk ?_⟩
  exact do_litO hT rfl ht hs he (TabZ.z hZ hz) hr hl hb hlb (h _ _ (fresh_app _ _))

/-- An owned slice in a row's cell becomes frozen. -/
theorem ghost_freezeC {loc j t locC U sz ver n : Nat} {cells : List AV} {rows : List (List DV)} (hl : σ[loc]? = some (.row t cells)) (hj : cells[j]? = some (.own locC ver sz 0 n)) (hC : σ[locC]? = some (.arr U sz ver rows)) (hn : n = rows.length) :
    Ghost fr σ fr ((σ.set locC .dead).set loc (.row t (cells.set j (.d (.lst sz rows))))) := by
  intro k x nt A w s
  have hne : locC ≠ loc := fun e => by rw [e, hl] at hC; cases hC
  obtain ⟨f, ho, hd, hh⟩ := s.heap.freeze hC
  have hx : CtxExt x (x.frz (Un x.F f)) := Ctx.frz_ext (Le.un_left _ _)
  have hl2 : (σ.set locC .dead)[loc]? = some (.row t cells) := by rw [List.getElem?_set_ne hne]; exact hl
  have hx2 : CtxExt (x.frz (Un x.F f)) ((x.frz (Un x.F f)).upd loc ((x.frz (Un x.F f)).env loc)) := Ctx.upd_ext (Nat.le_refl _) fun _ => ⟨rfl, rfl, rfl⟩
  refine ⟨_, hx.trans hx2, s.size, s.defers, fun i => (s.tmps i).ext (hx.trans hx2), hh.upd hl2 hx2 fun g0 hg0 hle => ⟨⟨g0, ?_, hle, fun b hb => .inl hb⟩, fun b _ _ => rfl⟩, s.calm⟩
  obtain ⟨hv, us, h1, h2, h3⟩ := hg0
  refine ⟨hv, us, h1, ?_, h3⟩
  have key : ∀ u, ARep x (.own locC ver sz 0 n) u → DRep (Un x.F f) (.lst sz rows) u := fun u hu => asD_rep hu ⟨rfl, U, rows, hC, by simp [hn], by omega⟩ hC ho hd
  clear h1 h3 hl hl2 hh
  have h2' : ALRep (x.frz (Un x.F f)) cells us := h2
  clear h2
  induction cells generalizing us j with
  | nil => simp at hj
  | cons c cs ih =>
    obtain ⟨u, us', e3, r, q⟩ := h2'
    cases j with
    | zero =>
      simp at hj
      subst hj
      exact ⟨u, us', e3, key u r, q.ext hx2⟩
    | succ j => exact ⟨u, us', e3, r.ext hx2, ih (by simpa using hj) _ q⟩
structure FrzC (σ : List AObj) (loc : Nat) (t : TypeId) (c : List AV) (L : Nat) (σ' : List AObj) : Prop where
  row : σ'[loc]? = some (.row t c)
  keep' : ∀ k o, σ[k]? = some o → k ≠ loc → k ≠ L → σ'[k]? = some o
theorem frzC {loc j t locC U sz ver : Nat} {cells : List AV} {rows : List (List DV)} (hl : σ[loc]? = some (.row t cells)) (hC : σ[locC]? = some (.arr U sz ver rows)) : FrzC σ loc t (cells.set j (.d (.lst sz rows))) locC ((σ.set locC .dead).set loc (.row t (cells.set j (.d (.lst sz rows))))) :=
  ⟨by rw [List.getElem?_set_self (by simp; exact (List.getElem?_eq_some_iff.1 hl).1)], fun k o e h1 h2 => by rw [List.getElem?_set_ne (Ne.symm h1), List.getElem?_set_ne (Ne.symm h2)]; exact e⟩
theorem w_freezeC {c : Code} (loc j : Nat) {t locC U sz ver n : Nat} {cells : List AV} {rows : List (List DV)} (hl : σ[loc]? = some (.row t cells)) (hj : cells[j]? = some (.own locC ver sz 0 n)) (hC : σ[locC]? = some (.arr U sz ver rows)) (hn : n = rows.length)
    (h : ∀ σ', FrzC σ loc t (cells.set j (.d (.lst sz rows))) locC σ' → AWk P nt c Q fr σ') : AWk P nt c Q fr σ :=
  aw_ghost (ghost_freezeC hl hj hC hn) (h _ (frzC hl hC))
theorem o_freezeC (loc j : Nat) {t locC U sz ver n : Nat} {cells : List AV} {rows : List (List DV)} (hl : σ[loc]? = some (.row t cells)) (hj : cells[j]? = some (.own locC ver sz 0 n)) (hC : σ[locC]? = some (.arr U sz ver rows)) (hn : n = rows.length)
    (h : ∀ σ', FrzC σ loc t (cells.set j (.d (.lst sz rows))) locC σ' → ALo P nt ops dr dos ends i o l Q fr σ') : ALo P nt ops dr dos ends i o l Q fr σ :=
  ⟨fun ho => al_ghost (ghost_freezeC hl hj hC hn) ((h _ (frzC hl hC)).out ho)⟩
end
end Go.Proofs.Ytciciaikajdenaa

/- Al2: a field of a struct that stands in no memory. -/
namespace Go.Proofs.Ytciciaikajdenaa
open Go.RowKit

section
variable {P : Program} {T : Tab} {Z : TabZ} {nt : Nat} {Q : Exit → Fr → List AObj → Prop} {fr : Fr} {σ : List AObj} {ops : Array Oper} {dr : Bool} {dos ends : List Nat} {l : Trr} {o : Oper} {i d : Nat}
variable {ty : TypeId} {pos : String} {aft : Array Edge} {gd : Option (Nat × Bool)}
theorem rd_field (hT : okTab P T = true) {s f off bytes : Nat} {a : Operand} {cells : List DV} {y : DV} (ho : o.op = .field s a f) (hf : ∃ fs fd, P.underlying s = some (.struct fs) ∧ fs[f]? = some fd ∧ fd.offset = off ∧ find1 T.ty fd.type = some (1, bytes, false)) (ha : aget fr a = .d (.agg cells)) (hy : cells[off]? = some y) : RdOp P o fr σ (.d y) := by
  intro k x nt A w h
  obtain ⟨fs, fd, e1, e2, e3, e4⟩ := hf
  have hr := h.arg a
  rw [ha] at hr
  obtain ⟨us, e, hl, h1⟩ := hr
  have key : ∀ {ds : List DV} {us : List Value} {n : Nat} {y : DV}, LRep x.F ds us → ds[n]? = some y → ∃ u, us[n]? = some u ∧ DRep x.F y u := fun {ds} => by
    induction ds with
    | nil => intro us n y _ hn; simp at hn
    | cons d ds ih =>
      intro us n y hl hn
      obtain ⟨u, us', rfl, r, q⟩ := hl
      cases n with
      | zero => simp at hn; subst hn; exact ⟨u, rfl, r⟩
      | succ n => obtain ⟨u', h1, h2⟩ := ih q (by simpa using hn); exact ⟨u', by simpa using h1, h2⟩
  obtain ⟨u, hu, hr⟩ := key hl hy
  refine ⟨u, hr, fun w' _ => ?_⟩
  have hag := (T.tyIs hT e4).agg_run w'
  simp [execOp, ho, Instr.field, run_underlying e1, e2, e, asAgg, part, hag, e3, hu]
theorem s_field (hT : okTab P T = true) (off bytes : Nat) {s f : Nat} {a : Operand} {cells : List DV} {y : DV} (hp : dr = dr) (hg : guardB ops fr gd = some true) (ht : Nat.blt d nt = true) (ha : aget fr a = .d (.agg cells)) (hf : ∃ fs fd, P.underlying s = some (.struct fs) ∧ fs[f]? = some fd ∧ fd.offset = off ∧ find1 T.ty fd.type = some (1, bytes, false)) (hy : cells[off]? = some y) (h : AL P nt ops dr dos ends l Q ((d, .d y) :: fr) σ) : ALo P nt ops dr dos ends i ⟨some d, .field s a f, ty, pos, aft, gd⟩ l Q fr σ :=
  ⟨fun ho => s_read ho hp hg ht (rd_field hT rfl hf ha hy) h⟩
end
end Go.Proofs.Ytciciaikajdenaa
/- Ap: panics in the abstract walk: a function that panics; a call of it; a function that defers a closure that recovers. -/
set_option linter.unusedSimpArgs false
set_option linter.unusedVariables false
namespace Go.Proofs.Ytciciaikajdenaa
open Go.RowKit

/-- What a panic is, that nothing has recovered yet. -/
def chainOf (v : Value) : List PanicEntry := [{ v := v, recovered := false }]

/-- A function that does not come back: it panics. -/
def RunsE (P : Program) (f : FuncId) (args : List AV) (σ : List AObj) (pan : Value → List AObj → Prop) : Prop :=
  isGo P f = true ∧ ∀ (B : Base) (R : Frag) (x : Ctx) (w : World) (vs : List Value), ALRep x args vs → Heap x σ R w → Calm B w →
    Calls P f vs.toArray w fun e w' => ∃ pv x' σ', e = .panicked (chainOf pv) ∧ CtxExt x x' ∧ Heap x' σ' R w' ∧ Calm B w' ∧ pan pv σ'

theorem RunsE.mono {P : Program} {f : FuncId} {args : List AV} {σ : List AObj} {pan pan' : Value → List AObj → Prop} (h : RunsE P f args σ pan) (q : ∀ v σ', pan v σ' → pan' v σ') : RunsE P f args σ pan' :=
  ⟨h.1, fun B R x w vs a b c => Calls.mono (h.2 B R x w vs a b c) fun e w' ⟨pv, x', σ', h1, h2, h3, h4, h5⟩ => ⟨pv, x', σ', h1, h2, h3, h4, q _ _ h5⟩⟩

/-- How code ends that panics. -/
def panQ (pan : Value → List AObj → Prop) : Exit → Fr → List AObj → Prop
  | .panic ch, _, σ => ∃ pv, ch = chainOf pv ∧ pan pv σ
  | _, _, _ => False

section
variable {P : Program} {T : Tab} {nt : Nat} {Q : Exit → Fr → List AObj → Prop} {fr : Fr} {σ : List AObj} {ops : Array Oper} {dr : Bool} {dos ends : List Nat} {l : Trr} {o : Oper} {i d : Nat}
variable {ty : TypeId} {pos : String} {aft : Array Edge} {gd : Option (Nat × Bool)}

theorem runs_enterE {f : FuncId} {fn : Func} {c : Code} {args : List AV} {pan : Value → List AObj → Prop} (hf : P.funcs[f]? = some fn) (hb : fn.body = some c) (hg : isGo P f = true) (hn : Nat.ble args.length fn.ntmps = true)
    (h : AWk P fn.ntmps c (panQ pan) (frameOf args 0) σ) : RunsE P f args σ pan := by
  refine ⟨hg, fun B R x w vs ha hh hc => ?_⟩
  refine calls_of_wp hf hb ?_
  have hl := ha.len
  have hn := Nat.le_of_ble_eq_true hn
  have s : Sim ⟨B, R, []⟩ x fn.ntmps (frameOf args 0) σ { tmps := vs.toArray ++ Array.replicate (fn.ntmps - vs.toArray.size) undef, defers := [] } w := by
    refine ⟨by simp; omega, rfl, fun i => ?_, hh, hc⟩
    have := frame_rep (Array.replicate (fn.ntmps - vs.toArray.size) undef) #[] ha i
    simpa using this
  refine wp_mono (h.out _ x _ w s) fun e A w' p => ?_
  cases e with
  | normal => obtain ⟨x', fr, σ', hx, hs, hp⟩ := p; exact hp.elim
  | ret => obtain ⟨x', fr, σ', hx, hs, hp⟩ := p; exact hp.elim
  | exit i => obtain ⟨x', fr, σ', hx, hs, hp⟩ := p; exact hp.elim
  | goto i => obtain ⟨x', fr, σ', hx, hs, hp⟩ := p; exact hp.elim
  | panic ch =>
    obtain ⟨hd, x', σ', hx, hh', hc', pv, rfl, hp⟩ := p
    exact ⟨hd, pv, x', σ', rfl, hx, hh', hc', hp⟩
  | outgrown => exact p.elim
theorem enterE {f : FuncId} {fn : Func} {c : Code} {args : List AV} {pan : Value → List AObj → Prop} (nt : Nat) {fr : Fr} (hf : P.funcs[f]? = some fn) (hb : fn.body = some c) (hg : isGo P f = true) (hnt : Nat.beq fn.ntmps nt = true) (hn : Nat.ble args.length nt = true)
    (hfr : seqL (frameOf args 0) some = some fr) (h : AWk P nt c (panQ pan) fr σ) : RunsE P f args σ pan := by
  have e := Nat.eq_of_beq_eq_true hnt
  subst e
  rw [seqL_eq] at hfr
  injection hfr with hfr
  subst hfr
  exact runs_enterE hf hb hg hn h

/-- An operation that panics. -/
def PanOp (P : Program) (nt : Nat) (o : Oper) (fr : Fr) (σ : List AObj) (Q : Exit → Fr → List AObj → Prop) : Prop :=
  ∀ k x A w next, Sim k x nt fr σ A w → o.wp P A w next (Post k x nt Q)
theorem al_pan {i : Nat} {o : Oper} (ho : ops[i]? = some o) (hd : (dr && !dos.contains i) = false) (hg : guardA ops fr o = some true) (h : PanOp P nt o fr σ Q) : AL P nt ops dr dos ends (.one i l) Q fr σ := by
  refine ⟨fun k x A w s => ?_⟩
  unfold walkW stepW
  refine .inr ⟨hd, ?_⟩
  unfold wpOp
  simp only [ho, guardA_spec s hg, if_true]
  exact .inl (h k x A w _ s)
theorem do_callE {g : FuncId} {fs cs : List AV} {f : Operand} {args : Array Operand} {tys : Array TypeId} {pan : Value → List AObj → Prop} (ho : o.op = .call { callee := .value f, args := args, argTypes := tys })
    (hf : cloOf (aget fr f) = some (g, fs, cs)) (hr : RunsE P g (fs ++ args.toList.map (aget fr) ++ cs) σ pan) (hn : ∀ v σ', pan v σ' → Q (.panic (chainOf v)) [] σ') : PanOp P nt o fr σ Q := by
  intro k x A w next s
  obtain ⟨vs, h1, h2⟩ := call_run s hr.1 ho hf
  unfold Oper.wp
  rw [h1, Oper.upon_enter]
  refine Calls.mono (hr.2 k.B k.R x w vs h2 s.heap s.calm) fun e w' ⟨pv, x', σ', e1, e2, e3, e4, e5⟩ => ?_
  subst e1
  exact ⟨s.defers, x', σ', e2, e3, e4, hn pv σ' e5⟩
theorem s_callE {g : FuncId} {fs cs as : List AV} {d : Option Nat} {f : Operand} {args : Array Operand} {tys : Array TypeId} {pan : Value → List AObj → Prop} (hp : (dr && !dos.contains i) = false) (hg : guardB ops fr gd = some true) (hf : cloOf (aget fr f) = some (g, fs, cs)) (has : seqL (fs ++ args.toList.map (aget fr) ++ cs) some = some as) (hr : RunsE P g as σ pan) (h : ∀ v σ', pan v σ' → Q (.panic (chainOf v)) [] σ') : ALo P nt ops dr dos ends i ⟨d, .call { callee := .value f, args := args, argTypes := tys }, ty, pos, aft, gd⟩ l Q fr σ := by
  refine ⟨fun ho => al_pan ho hp (guardB_eq hg) ?_⟩
  simp only [seqL_eq, Option.some.injEq] at has
  subst has
  exact do_callE rfl hf hr h

/-- A function of numbers that does nothing but panic. -/
theorem RunsE.of_calls {f : FuncId} {args : List DV} {vals : List Value} {pan : Value → List AObj → Prop} {pv : Value} (hg : isGo P f = true) (ha : ∀ F us, LRep F args us → us = vals) (hc : ∀ w, Calls P f vals.toArray w fun e w' => e = .panicked (chainOf pv) ∧ w' = w) (hp : pan pv σ) : RunsE P f (args.map .d) σ pan :=
  ⟨hg, fun B R x w vs h1 h2 h3 => by
    rw [ha _ _ h1.toD]
    exact Calls.mono (hc w) fun e w' ⟨e1, e2⟩ => by subst e2; exact ⟨pv, x, σ, e1, .refl x, h2, h3, hp⟩⟩
end
end Go.Proofs.Ytciciaikajdenaa
