/- Ah, Ai, Aj: in one. -/
import Derived.Test.YtjflembhgjcgkaaTP11Ag
set_option linter.unusedSimpArgs false
set_option linter.unusedVariables false
/- Ah: contracts made weaker, arguments that say more, owned results frozen. -/
namespace Go.Proofs.Ytjflembhgjcgkaa
open Go.RowKit

section
variable {P : Program} {nt : Nat} {Q : Exit → Fr → List AObj → Prop} {fr : Fr} {σ : List AObj}
theorem w_shrinkF {c : Code} {loc U sz ver : Nat} {rows : List (List DV)} (n : Nat) (hl : σ[loc]? = some (.arr U sz ver rows)) (h : ∀ σ', Chg σ loc (.arr U sz ver (rows.take n)) σ' → AWk P nt c Q fr σ') : AWk P nt c Q fr σ :=
  aw_ghost (ghost_shrink n hl) (h _ (chg_set hl))
end

section
variable {P : Program} {f : FuncId} {args args' : List DV}

theorem RunsP.weak {y : DV} (h : RunsP P f args (fun v => Wk v y)) : RunsP P f args (fun v => v = y) :=
  ⟨h.1, fun B F w vs a b c => Calls.mono (h.2 B F w vs a b c) fun e w' ⟨u, v, F', h1, h2, h3, h4, h5, h6, h7, h8⟩ => ⟨u, y, F', h1, h2, h8 F' u h3, h4, h5, h6, h7, rfl⟩⟩

theorem RunsP.wkA {post : DV → Prop} (h : RunsP P f args post) (hw : WkL args' args) : RunsP P f args' post :=
  ⟨h.1, fun B F w vs a b c => h.2 B F w vs (hw.rep a) b c⟩

/-- An owned slice that comes back, frozen. -/
theorem RunsP.ofOwn {sz : Nat} {rows : List (List DV)} (h : Runs P f (args.map .d) [] fun v σ' => ∃ loc ver U, v = .own loc ver sz 0 rows.length ∧ σ'[loc]? = some (.arr U sz ver rows)) : RunsP P f args (fun v => v = .lst sz rows) := by
  refine Runs.pure ⟨h.1, fun B R x w vs a b c => Calls.mono (h.2 B R x w vs a b c) fun e w' ⟨u, v, x', σ', h1, h2, h3, h4, h5, loc, ver, U, h6, h7⟩ => ?_⟩
  subst h6
  obtain ⟨g, ho, hd, hh⟩ := h4.freeze h7
  have hx : CtxExt x' (x'.frz (Un x'.F g)) := Ctx.frz_ext (Le.un_left _ _)
  refine ⟨u, .d (.lst sz rows), _, _, h1, h2.trans hx, ?_, hh, h5, _, rfl, rfl⟩
  exact asD_rep (σ := σ') h3 ⟨rfl, U, rows, h7, by simp, by omega⟩ h7 ho hd

end
/-! A skipped operation leaves 'undef': the empty tuple. -/
section
variable {P : Program} {nt : Nat} {Q : Exit → Fr → List AObj → Prop} {fr : Fr} {σ : List AObj} {ops : Array Oper} {dr : Bool} {dos ends : List Nat} {l : Trr} {i d : Nat} {o : Oper}
variable {dst : Option Tmp} {op : Op} {ty : TypeId} {pos : String} {aft : Array Edge} {gd : Option (Nat × Bool)}
theorem al_skipU (ho : ops[i]? = some o) (ht : dstOk o.dst nt = true) (hw : ∀ k x A w, Sim k x nt fr σ A w → Region.wanted o (yielded ops A.tmps) = false)
    (h : AL P nt ops dr dos ends l Q (fput o.dst (.tup []) fr) σ) : AL P nt ops dr dos ends (.one i l) Q fr σ := by
  refine ⟨fun k x A w s => ?_⟩
  have hu : ARep x (.tup []) undef := ⟨[], rfl, rfl⟩
  unfold walkW stepW
  cases hd : (dr && dos.contains i) with
  | false => exact .inl ⟨rfl, o, undef, ho, .inr ⟨hw k x A w s, rfl⟩, h.out k x _ w (s.put ht hu)⟩
  | true =>
    refine .inr ⟨by rw [Bool.and_eq_true] at hd; rw [hd.1, hd.2]; rfl, ?_⟩
    unfold wpOp
    simp only [ho, hw k x A w s]
    exact ⟨fun _ => Agree.refl w, h.out k x _ w (s.put ht hu)⟩
theorem s_skipV {j : Nat} {w : Bool} (hg : guardB ops fr (some (j, w)) = some false) (ht : Nat.blt d nt = true) (h : AL P nt ops dr dos ends l Q ((d, .tup []) :: fr) σ) : ALo P nt ops dr dos ends i ⟨some d, op, ty, pos, aft, some (j, w)⟩ l Q fr σ :=
  ⟨fun ho => al_skipU ho ht (fun k x A w s => guardA_spec s (guardB_eq hg)) h⟩
theorem s_skipU {j t : Nat} {w : Bool} (hj : guardT ops (some (j, w)) = some t) (hu : fget fr t = .tup []) (ht : Nat.blt d nt = true) (h : AL P nt ops dr dos ends l Q ((d, .tup []) :: fr) σ) : ALo P nt ops dr dos ends i ⟨some d, op, ty, pos, aft, some (j, w)⟩ l Q fr σ :=
  ⟨fun ho => al_skipU ho ht (fun k x A w2 s => by
    have h1 := s.tmps t
    rw [hu] at h1
    obtain ⟨us, e, e2⟩ := h1
    have e2 : us = [] := e2
    subst e2
    unfold Region.wanted yielded
    have hj : (ops[j]?).bind (·.dst) = some t := hj
    simp only [hj, Option.bind_some]
    rw [Array.getD_eq_getD_getElem?] at e
    cases hq : A.tmps[t]? with
    | none => rfl
    | some q => rw [hq] at e; simp only [Option.getD_some] at e; subst e; rfl) h⟩
end

section
variable {P : Program} {nt : Nat} {Q : Exit → Fr → List AObj → Prop} {fr : Fr} {σ : List AObj} {ops : Array Oper} {dr : Bool} {dos ends : List Nat} {l : Trr} {i d : Nat} {o : Oper}
variable {dst : Option Tmp} {op : Op} {ty : TypeId} {pos : String} {aft : Array Edge} {gd : Option (Nat × Bool)}
theorem rd_max {t t2 : TypeId} {a b : Operand} {k k' : IntKind} {m n : Int} (ho : o.op = .call { callee := .builtin .max, args := #[a, b], argTypes := #[t, t2] }) (ha : aget fr a = .d (.v (.int k m))) (hb : aget fr b = .d (.v (.int k' n))) : RdOp P o fr σ (.d (.v (.int k (if n > m then n else m)))) := by
  intro x c nt A w s
  have k1 := s.arg a
  have k2 := s.arg b
  rw [ha] at k1
  rw [hb] at k2
  obtain ⟨e1, _⟩ := k1
  obtain ⟨e2, _⟩ := k2
  refine ⟨.int k (if n > m then n else m), ⟨rfl, rfl⟩, fun w' _ => ?_⟩
  unfold execOp
  simp [ho, resolve, invoke, builtin, e1, e2, run_max_int2]
theorem s_max {t t2 : TypeId} {a b : Operand} {k k' : IntKind} {m n : Int} (hp : dr = dr) (hg : guardB ops fr gd = some true) (ht : Nat.blt d nt = true) (ha : aget fr a = .d (.v (.int k m))) (hb : aget fr b = .d (.v (.int k' n))) (h : AL P nt ops dr dos ends l Q ((d, .d (.v (.int k (if n > m then n else m)))) :: fr) σ) : ALo P nt ops dr dos ends i ⟨some d, .call { callee := .builtin .max, args := #[a, b], argTypes := #[t, t2] }, ty, pos, aft, gd⟩ l Q fr σ :=
  ⟨fun ho => s_read ho hp hg ht (rd_max rfl ha hb) h⟩
end

section
variable {P : Program} {nt : Nat} {Q : Exit → Fr → List AObj → Prop} {fr : Fr} {σ σ' : List AObj} {ops : Array Oper} {dr : Bool} {dos ends : List Nat} {l : Trr} {i d : Nat} {o : Oper} {next : Fr → List AObj → Prop} {keep : Bool}
variable {dst : Option Tmp} {op : Op} {ty : TypeId} {pos : String} {aft : Array Edge} {gd : Option (Nat × Bool)}
/-- A box that no one writes: frozen from the start. -/
theorem do_boxZ {t : TypeId} {a : Operand} {cs : List DV} (ho : o.op = .box t a) (ht : dstOk o.dst nt = true) (h1 : oneA (aget fr a) = true) (hc : allD (cellsA (aget fr a)) = some cs) (hn : next (fput o.dst (.d (.fptr cs)) fr) σ) : DoOp P nt o fr σ keep next := by
  refine do_value ht (fun v σ' => v = .d (.fptr cs) ∧ σ' = σ) (fun v σ' ⟨a, b⟩ => a ▸ b ▸ hn) fun k x A w s => ?_
  obtain ⟨r1, r2⟩ := cellsA_rep (s.arg a) h1
  rw [allD_map hc] at r1
  have r1 := r1.toD
  refine ⟨.pointer (some ⟨w.heap.size, 0, none⟩), w.alloc (.cells (A.eval a).cells.toList.toArray t), x.frz (Un x.F (oneFrag w.heap.size (.cells (A.eval a).cells.toList.toArray t))), _, _, ?_, Ctx.frz_ext (Le.un_left _ _), ?_, frz_new s.heap _, s.calm.alloc _, fun _ => agree_alloc _ _, rfl, rfl⟩
  · unfold execOp
    simp [ho, Instr.box, newVar, newRow]
  · refine ⟨_, _, rfl, CRep.of_list (r1.mono (Le.un_left _ _)) r2 fun j u hj => ?_⟩
    have hn : x.F w.heap.size = none := by
      cases hb : x.F w.heap.size with
      | none => rfl
      | some ob => have := heap_lt s.heap.hF hb; omega
    simp only [Ctx.frz, fcell, Un, hn, oneFrag, if_true]
    simpa using hj
theorem s_boxZ {t : TypeId} {a : Operand} {cs : List DV} (hp : (dr && !dos.contains i) = false) (hg : guardB ops fr gd = some true) (hk : (dr && !ends.contains i && !true) = false) (ht : Nat.blt d nt = true) (h1 : oneA (aget fr a) = true) (hc : allD (cellsA (aget fr a)) = some cs) (h : AL P nt ops dr dos ends l Q ((d, .d (.fptr cs)) :: fr) σ) : ALo P nt ops dr dos ends i ⟨some d, .box t a, ty, pos, aft, gd⟩ l Q fr σ := by
  refine ⟨fun ho => s_do (keep := true) ho hp hg hk ?_⟩
  exact do_boxZ (o := ⟨some d, .box t a, ty, pos, aft, gd⟩) rfl ht h1 hc h
end
/-! What comes behind a region, as a letter: a step costs what its postcondition weighs. -/
section
variable {P : Program} {nt : Nat} {Q : Exit → Fr → List AObj → Prop} {fr : Fr} {σ : List AObj} {ops : Array Oper}
theorem aw_drawsQ {id : Nat} (l : Trr) (dos ends : List Nat) (hm : P.follows .mixedOrders = true) (hB : orderT ops dos ends l = true) (h : ∀ Q', Q' = Q → AL P nt ops true dos ends l Q' fr σ) : AWk P nt (.region id ops true) Q fr σ := aw_draws l dos ends hm hB (h Q rfl)
theorem q_abs {Q' : Exit → Fr → List AObj → Prop} {e : Exit} (hQ : Q' = Q) (h : Q e fr σ) : Q' e fr σ := hQ ▸ h
end
end Go.Proofs.Ytjflembhgjcgkaa

/- Ai: comparisons that part the way in two. -/
namespace Go.Proofs.Ytjflembhgjcgkaa
open Go.RowKit

section
variable {P : Program} {T : Tab} {Z : TabZ} {nt : Nat} {Q : Exit → Fr → List AObj → Prop} {fr : Fr} {σ : List AObj} {ops : Array Oper} {dr : Bool} {dos ends : List Nat} {l : Trr} {i d : Nat}
variable {ty : TypeId} {pos : String} {aft : Array Edge} {gd : Option (Nat × Bool)}
theorem s_eqlS {t t' : TypeId} {a b : Operand} {k : IntKind} {m n : Int} (hp : dr = dr) (hg : guardB ops fr gd = some true) (ht : Nat.blt d nt = true) (ha : aget fr a = .d (.v (.int k m))) (hb : aget fr b = .d (.v (.int k n))) (h1 : m = n → AL P nt ops dr dos ends l Q ((d, .d (.v (.bool true))) :: fr) σ) (h2 : m ≠ n → AL P nt ops dr dos ends l Q ((d, .d (.v (.bool false))) :: fr) σ) : ALo P nt ops dr dos ends i ⟨some d, .binOp .eql t a b t', ty, pos, aft, gd⟩ l Q fr σ := by
  by_cases e : m = n
  · exact s_eql_t hp hg ht ha hb e (h1 e)
  · exact s_eql_f hp hg ht ha hb (by omega) (h2 (by omega))
theorem s_neqS {t t' : TypeId} {a b : Operand} {k : IntKind} {m n : Int} (hp : dr = dr) (hg : guardB ops fr gd = some true) (ht : Nat.blt d nt = true) (ha : aget fr a = .d (.v (.int k m))) (hb : aget fr b = .d (.v (.int k n))) (h1 : m ≠ n → AL P nt ops dr dos ends l Q ((d, .d (.v (.bool true))) :: fr) σ) (h2 : m = n → AL P nt ops dr dos ends l Q ((d, .d (.v (.bool false))) :: fr) σ) : ALo P nt ops dr dos ends i ⟨some d, .binOp .neq t a b t', ty, pos, aft, gd⟩ l Q fr σ := by
  by_cases e : m ≠ n
  · exact s_neq_t hp hg ht ha hb e (h1 e)
  · exact s_neq_f hp hg ht ha hb (by omega) (h2 (by omega))
theorem s_gtrS {t t' : TypeId} {a b : Operand} {k : IntKind} {m n : Int} (hp : dr = dr) (hg : guardB ops fr gd = some true) (ht : Nat.blt d nt = true) (ha : aget fr a = .d (.v (.int k m))) (hb : aget fr b = .d (.v (.int k n))) (h1 : n < m → AL P nt ops dr dos ends l Q ((d, .d (.v (.bool true))) :: fr) σ) (h2 : m ≤ n → AL P nt ops dr dos ends l Q ((d, .d (.v (.bool false))) :: fr) σ) : ALo P nt ops dr dos ends i ⟨some d, .binOp .gtr t a b t', ty, pos, aft, gd⟩ l Q fr σ := by
  by_cases e : n < m
  · exact s_gtr_t hp hg ht ha hb e (h1 e)
  · exact s_gtr_f hp hg ht ha hb (by omega) (h2 (by omega))
theorem s_leqS {t t' : TypeId} {a b : Operand} {k : IntKind} {m n : Int} (hp : dr = dr) (hg : guardB ops fr gd = some true) (ht : Nat.blt d nt = true) (ha : aget fr a = .d (.v (.int k m))) (hb : aget fr b = .d (.v (.int k n))) (h1 : m ≤ n → AL P nt ops dr dos ends l Q ((d, .d (.v (.bool true))) :: fr) σ) (h2 : n < m → AL P nt ops dr dos ends l Q ((d, .d (.v (.bool false))) :: fr) σ) : ALo P nt ops dr dos ends i ⟨some d, .binOp .leq t a b t', ty, pos, aft, gd⟩ l Q fr σ := by
  by_cases e : m ≤ n
  · exact s_leq_t hp hg ht ha hb e (h1 e)
  · exact s_leq_f hp hg ht ha hb (by omega) (h2 (by omega))
theorem s_geqS {t t' : TypeId} {a b : Operand} {k : IntKind} {m n : Int} (hp : dr = dr) (hg : guardB ops fr gd = some true) (ht : Nat.blt d nt = true) (ha : aget fr a = .d (.v (.int k m))) (hb : aget fr b = .d (.v (.int k n))) (h1 : n ≤ m → AL P nt ops dr dos ends l Q ((d, .d (.v (.bool true))) :: fr) σ) (h2 : m < n → AL P nt ops dr dos ends l Q ((d, .d (.v (.bool false))) :: fr) σ) : ALo P nt ops dr dos ends i ⟨some d, .binOp .geq t a b t', ty, pos, aft, gd⟩ l Q fr σ := by
  by_cases e : n ≤ m
  · exact s_geq_t hp hg ht ha hb e (h1 e)
  · exact s_geq_f hp hg ht ha hb (by omega) (h2 (by omega))
theorem s_streqS {t t' : TypeId} {a b : Operand} {m n : ByteArray} (hp : dr = dr) (hg : guardB ops fr gd = some true) (ht : Nat.blt d nt = true) (ha : aget fr a = .d (.v (.string m))) (hb : aget fr b = .d (.v (.string n))) (h1 : m = n → AL P nt ops dr dos ends l Q ((d, .d (.v (.bool true))) :: fr) σ) (h2 : m ≠ n → AL P nt ops dr dos ends l Q ((d, .d (.v (.bool false))) :: fr) σ) : ALo P nt ops dr dos ends i ⟨some d, .binOp .eql t a b t', ty, pos, aft, gd⟩ l Q fr σ := by
  by_cases e : m = n
  · exact s_streq_t hp hg ht ha hb e (h1 e)
  · exact s_streq_f hp hg ht ha hb e (h2 e)
theorem s_strneS {t t' : TypeId} {a b : Operand} {m n : ByteArray} (hp : dr = dr) (hg : guardB ops fr gd = some true) (ht : Nat.blt d nt = true) (ha : aget fr a = .d (.v (.string m))) (hb : aget fr b = .d (.v (.string n))) (h1 : m ≠ n → AL P nt ops dr dos ends l Q ((d, .d (.v (.bool true))) :: fr) σ) (h2 : m = n → AL P nt ops dr dos ends l Q ((d, .d (.v (.bool false))) :: fr) σ) : ALo P nt ops dr dos ends i ⟨some d, .binOp .neq t a b t', ty, pos, aft, gd⟩ l Q fr σ := by
  by_cases e : m = n
  · exact s_strne_f hp hg ht ha hb e (h2 e)
  · exact s_strne_t hp hg ht ha hb e (h1 e)
end
end Go.Proofs.Ytjflembhgjcgkaa

/- Aj: rows that become frozen pointers; what a run keeps of the objects that were there. -/
namespace Go.Proofs.Ytjflembhgjcgkaa
open Go.RowKit

section
variable {P : Program} {T : Tab} {Z : TabZ} {nt : Nat} {Q : Exit → Fr → List AObj → Prop} {next : Fr → List AObj → Prop} {fr : Fr} {σ σ' : List AObj} {ops : Array Oper} {dr : Bool} {dos ends : List Nat} {l : Trr} {i d : Nat} {o : Oper} {v : AV}
theorem freezeP (t : Nat) {loc U : Nat} {cells : List AV} {ds : List DV} (ht : fget fr t = .ptr loc 0 0) (hl : σ[loc]? = some (.row U cells)) (hd : allD cells = some ds) : Ghost fr σ ((t, .d (.fptr ds)) :: fr) (σ.set loc .dead) :=
  ghost_freeze (ts := [(t, .fptr ds)]) hl fun p hp => by
    simp at hp
    subst hp
    rw [ht]
    exact ⟨rfl, rfl, U, cells, ds, hl, hd, by simp⟩
theorem s_freezeP (t : Nat) {loc U : Nat} {cells : List AV} {ds : List DV} (ht : fget fr t = .ptr loc 0 0) (hl : σ[loc]? = some (.row U cells)) (hd : allD cells = some ds) (h : ∀ σ', Chg σ loc .dead σ' → AL P nt ops dr dos ends l Q ((t, .d (.fptr ds)) :: fr) σ') : AL P nt ops dr dos ends l Q fr σ :=
  al_ghost (freezeP t ht hl hd) (h _ (chg_set hl))
end

/-- A row of cells, some of which are what is at l, as frozen data. -/
def asDC (σ : List AObj) (l : Nat) : List AV → List DV → Prop
  | [], ds => ds = []
  | a :: as, ds => ∃ d ds', ds = d :: ds' ∧ (a = .d d ∨ asD σ a l d) ∧ asDC σ l as ds'
theorem asDC_rep {σ : List AObj} {x : Ctx} {l : Nat} {ob : AObj} {f : Frag} (hl : σ[l]? = some ob) (ho : ORep x (x.env l) ob f) (hd : Disj f x.F) : ∀ {cells : List AV} {ds : List DV} {us : List Value}, ALRep x cells us → asDC σ l cells ds → LRep (Un x.F f) ds us
  | [], _, _, h, e => by
    have e : _ = [] := e
    subst e
    exact h
  | a :: as, _, _, ⟨u, us', e, r, q⟩, ⟨d, ds', e2, h, k⟩ => by
    subst e e2
    refine ⟨u, us', rfl, ?_, asDC_rep hl ho hd q k⟩
    rcases h with rfl | h
    · exact DRep.mono (Le.un_left _ _) r
    · exact asD_rep r h hl ho hd
section
variable {P : Program} {nt : Nat} {Q : Exit → Fr → List AObj → Prop} {fr : Fr} {σ : List AObj} {ops : Array Oper} {dr : Bool} {dos ends : List Nat} {l : Trr} {i : Nat} {o : Oper}
theorem freezeA (t : Nat) {loc : Nat} {ob : AObj} {cells : List AV} {ds : List DV} (ht : fget fr t = .agg cells) (hl : σ[loc]? = some ob) (h : asDC σ loc cells ds) : Ghost fr σ ((t, .d (.agg ds)) :: fr) (σ.set loc .dead) := by
  intro k x nt A w s
  obtain ⟨f, ho, hd, hh⟩ := s.heap.freeze hl
  have hx : CtxExt x (x.frz (Un x.F f)) := Ctx.frz_ext (Le.un_left _ _)
  refine ⟨_, hx, s.size, s.defers, fun i => ?_, hh, s.calm⟩
  by_cases e : t = i
  · subst e
    rw [fget_cons_self]
    have := s.tmps t
    rw [ht] at this
    obtain ⟨us, e, r, o⟩ := this
    exact ⟨us, e, asDC_rep hl ho hd r h, o⟩
  · rw [fget_cons_ne _ _ e]; exact (s.tmps i).ext hx
theorem o_freezeA (t : Nat) {loc : Nat} {ob : AObj} {cells : List AV} {ds : List DV} (ht : fget fr t = .agg cells) (hl : σ[loc]? = some ob) (hd : asDC σ loc cells ds) (h : ∀ σ', Chg σ loc .dead σ' → ALo P nt ops dr dos ends i o l Q ((t, .d (.agg ds)) :: fr) σ') : ALo P nt ops dr dos ends i o l Q fr σ :=
  ⟨fun ho => al_ghost (freezeA t ht hl hd) ((h _ (chg_set hl)).out ho)⟩
end

/-- A result of which less is said. -/
theorem Runs.weakR {P : Program} {f : FuncId} {args : List AV} {σ : List AObj} {y : DV} {post : List AObj → Prop} (h : Runs P f args σ (fun v σ' => ∃ x, v = .d x ∧ Wk x y ∧ post σ')) : Runs P f args σ (fun v σ' => v = .d y ∧ post σ') :=
  ⟨h.1, fun B R x w vs a b c => Calls.mono (h.2 B R x w vs a b c) fun e w' ⟨u, v, x', σ', h1, h2, h3, h4, h5, z, h6, h7, h8⟩ => ⟨u, .d y, x', σ', h1, h2, by subst h6; exact h7 x'.F u h3, h4, h5, rfl, h8⟩⟩

/-- The objects of p that were there are there, as they were. -/
def KeptP (p : Nat → Prop) (σ σ' : List AObj) : Prop := ∀ k o, p k → σ[k]? = some o → σ'[k]? = some o
/-- What is at loc was not there; or is none of p. -/
def OutP (p : Nat → Prop) (σ : List AObj) (loc : Nat) : Prop := ∀ o, p loc → σ[loc]? ≠ some o
section
variable {p : Nat → Prop} {σ0 σ σ' σ2 : List AObj} {loc : Nat} {o : AObj}
theorem KeptP.refl (p : Nat → Prop) (σ : List AObj) : KeptP p σ σ := fun _ _ _ h => h
theorem KeptP.trans (h : KeptP p σ σ') (k : KeptP p σ' σ2) : KeptP p σ σ2 := fun n o hp e => k n o hp (h n o hp e)
theorem KeptP.fresh (h : KeptP p σ0 σ) (hc : Fresh σ loc o σ') : KeptP p σ0 σ' := fun n o' hp e => hc.keep (h n o' hp e)
theorem KeptP.out (h : KeptP p σ0 σ) (hc : Fresh σ loc o σ') : OutP p σ0 loc := fun o' hp e => hc.ne (h loc o' hp e) rfl
theorem KeptP.chg (h : KeptP p σ0 σ) (n : OutP p σ0 loc) (hc : Chg σ loc o σ') : KeptP p σ0 σ' := fun k o' hp e => by
  refine hc.keep ?_ (h k o' hp e)
  intro hk
  subst hk
  exact n o' hp e
theorem KeptP.of {q : Nat → Prop} (h : KeptP p σ0 σ) (hq : ∀ k, q k → p k) : KeptP q σ0 σ := fun k o hk e => h k o (hq k hk) e
theorem KeptP.all (h : KeptP (fun _ => True) σ0 σ) {k : Nat} {o : AObj} (e : σ0[k]? = some o) : σ[k]? = some o := h k o trivial e
theorem KeptP.but {L : Nat} (h : KeptP (· ≠ L) σ0 σ) {k : Nat} {o : AObj} (hk : k ≠ L) (e : σ0[k]? = some o) : σ[k]? = some o := h k o hk e
theorem KeptP.adopt {t L U sz : Nat} {c : List AV} (h : KeptP p σ0 σ) (n : OutP p σ0 loc) (hc : AdoptC σ loc t c L U sz σ') : KeptP p σ0 σ' ∧ OutP p σ0 L :=
  ⟨fun k o' hp e => hc.keep (fun hk => by subst hk; exact n o' hp e) (h k o' hp e), fun o' hp e => hc.fresh L o' (h L o' hp e) rfl⟩
theorem Fresh.keptP (p : Nat → Prop) (hc : Fresh σ loc o σ') : KeptP p σ σ' := fun k o' _ e => hc.keep e
end
section
variable {P : Program} {nt : Nat} {Q : Exit → Fr → List AObj → Prop} {fr : Fr} {σ : List AObj}
theorem w_adoptC {c : Code} (loc j U sz : Nat) {t : TypeId} {cells : List AV} (hl : σ[loc]? = some (.row t cells)) (hj : cells[j]? = some (.d .nil))
    (h : ∀ L σ', AdoptC σ loc t (cells.set j (.own L 0 sz 0 0)) L U sz σ' → AWk P nt c Q fr σ') : AWk P nt c Q fr σ := by
  refine aw_ghost (ghost_adopt_cell (U := U) (sz := sz) hl hj) (h σ.length _ ?_)
  have hlt := (List.getElem?_eq_some_iff.1 hl).1
  refine ⟨?_, ?_, by omega, fun k o e hk => ?_, fun k o e => ?_⟩
  · rw [List.getElem?_set_self (by simp; omega)]
  · rw [List.getElem?_set_ne (by omega)]; simp
  · rw [List.getElem?_set_ne (Ne.symm hk), List.getElem?_append_left (List.getElem?_eq_some_iff.1 e).1]; exact e
  · have := (List.getElem?_eq_some_iff.1 e).1; omega
end
theorem wrap64 {z : Int} (h1 : -9223372036854775808 ≤ z) (h2 : z ≤ 9223372036854775807) : IntKind.wrap .i64 z = z := by
  rw [IntKind.wrap_i64]; omega
end Go.Proofs.Ytjflembhgjcgkaa
