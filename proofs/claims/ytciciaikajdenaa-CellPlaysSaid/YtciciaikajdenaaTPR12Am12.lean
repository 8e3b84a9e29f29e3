/- The steps of a walk, ready for use: one theorem a kind of operation, each side condition by computing; what is computed is laid out whole. -/
import Derived.Test.YtciciaikajdenaaTPR12Ab
set_option linter.unusedSimpArgs false
set_option linter.unusedVariables false
namespace Go.Proofs.Ytciciaikajdenaa
open Go.RowKit

/-- A list laid out, cell by cell. -/
def seqL {α β : Type} : List α → (List α → β) → β
  | [], k => k []
  | a :: l, k => seqL l fun t => k (a :: t)
theorem seqL_eq {α β : Type} : ∀ (l : List α) (k : List α → β), seqL l k = k l
  | [], _ => rfl
  | a :: l, k => seqL_eq l fun t => k (a :: t)

def forceAV : AV → Option AV
  | .d x => some (.d x)
  | .own a b c d e => some (.own a b c d e)
  | .ptr a b c => some (.ptr a b c)
  | .mp a => some (.mp a)
  | .agg a => some (.agg a)
  | .tup a => some (.tup a)
  | .clo a b c => some (.clo a b c)
  | .any => some .any
theorem forceAV_eq {x y : AV} (h : forceAV x = some y) : x = y := by cases x <;> (simp [forceAV] at h; exact h)

/-- What is computed of a frame. -/
def lenO {α : Type} : List α → Nat → Option Nat
  | [], n => some n
  | _ :: l, n => lenO l (n + 1)
theorem lenO_eq {α : Type} : ∀ (l : List α) (n m : Nat), lenO l n = some m → m = l.length + n
  | [], n, m, h => by cases h; simp
  | _ :: l, n, m, h => by have := lenO_eq l (n + 1) m h; simp; omega
def dropO {α : Type} : Nat → List α → Option (List α)
  | 0, l => some l
  | n + 1, _ :: l => dropO n l
  | _ + 1, [] => some []
theorem dropO_eq {α : Type} : ∀ (n : Nat) (l m : List α), dropO n l = some m → m = l.drop n
  | 0, l, m, h => by cases h; rfl
  | n + 1, a :: l, m, h => dropO_eq n l m h
  | n + 1, [], m, h => by cases h; rfl
def ldDO (agg : Bool) (sz : Nat) (cells : List DV) : Option DV := bif agg then (bif Nat.ble sz cells.length then seqL (cells.take sz) fun c => some (.agg c) else none) else cells.head?
theorem ldDO_eq {agg : Bool} {sz : Nat} {cells : List DV} {v : DV} (h : ldDO agg sz cells = some v) : ldD agg sz cells = some v := by
  unfold ldDO at h; simp only [seqL_eq] at h; exact h
def aggO (l : List AV) : Option AV := match allD l with
  | some ds => some (.d (.agg ds))
  | none => some (.agg l)
theorem aggO_eq {l : List AV} {v : AV} (h : aggO l = some v) : aggOf l = v := by
  unfold aggO at h; unfold aggOf; split at h <;> (rename_i e; rw [e]; cases h; rfl)
def ldAO (agg : Bool) (sz off : Nat) (cells : List AV) : Option AV := match dropO off cells with
  | some cells => bif agg then (bif Nat.ble sz cells.length then seqL (cells.take sz) aggO else none) else cells.head?
  | none => none
theorem ldAO_eq {agg : Bool} {sz off : Nat} {cells : List AV} {v : AV} (h : ldAO agg sz off cells = some v) : ldA agg sz (cells.drop off) = some v := by
  unfold ldAO at h
  split at h
  · rename_i cs e
    rw [← dropO_eq _ _ _ e]
    unfold ldA
    cases agg with
    | true =>
      simp only [cond_true, seqL_eq] at h ⊢
      cases hb : Nat.ble sz cs.length with
      | true => rw [hb] at h; simp only [cond_true] at h ⊢; rw [aggO_eq h]
      | false => rw [hb] at h; cases h
    | false => exact h
  · cases h
def cloO (fn : Fn) (fs cs : List AV) : Option AV := match allD fs, allD cs with
  | some a, some b => some (.d (.clo fn a b))
  | _, _ => seqL fs fun a => seqL cs fun b => some (.clo fn a b)
theorem cloO_eq {fn : Fn} {fs cs : List AV} {v : AV} (h : cloO fn fs cs = some v) : cloA fn fs cs = v := by
  unfold cloO at h; unfold cloA
  split at h
  · rename_i a b e1 e2; rw [e1, e2]; cases h; rfl
  · rename_i h1
    simp only [seqL_eq] at h
    cases h
    split
    · rename_i a b e1 e2; exact absurd rfl (fun q : a = a => h1 a b e1 e2)
    · rfl
def buildO (pl : List (Nat × Nat)) (cells : List AV) (parts : List (Nat × AV)) : Option AV := match fillA pl cells parts with
  | some out => seqL out aggO
  | none => none
theorem buildO_eq {pl : List (Nat × Nat)} {cells : List AV} {parts : List (Nat × AV)} {v : AV} (h : buildO pl cells parts = some v) : ∃ out, fillA pl cells parts = some out ∧ aggOf out = v := by
  unfold buildO at h
  split at h
  · rename_i out e; rw [seqL_eq] at h; exact ⟨out, e, aggO_eq h⟩
  · cases h

theorem ldD_full {sz : Nat} {cells : List DV} (h : cells.length = sz) : ldD true sz cells = some (.agg cells) := by
  subst h
  have : Nat.ble cells.length cells.length = true := Nat.ble_eq_true_of_le (Nat.le_refl _)
  simp [ldD, this]

section
variable {P : Program} {T : Tab} {Z : TabZ} {nt : Nat} {Q : Exit → Fr → List AObj → Prop} {next : Fr → List AObj → Prop} {fr : Fr} {σ σ' : List AObj} {ops : Array Oper} {dr : Bool} {dos ends : List Nat} {l : Trr} {i d : Nat} {o : Oper} {v : AV}

theorem q_then_n (h : next fr σ) : thenQ next Q .normal fr σ := h
theorem q_then_e {j : Nat} (h : Q (.exit j) fr σ) : thenQ next Q (.exit j) fr σ := h
theorem q_then_r (h : Q .ret fr σ) : thenQ next Q .ret fr σ := h
theorem q_blk_n {j : Nat} (h : Q .normal fr σ) : blockQ j Q .normal fr σ := h
theorem q_blk_r {j : Nat} (h : Q .ret fr σ) : blockQ j Q .ret fr σ := h
theorem q_blk_e {j : Nat} (h : Q .normal fr σ) : blockQ j Q (.exit j) fr σ := by simp only [blockQ, if_true]; exact h
theorem q_blk_o {j k : Nat} (e : Nat.beq k j = false) (h : Q (.exit k) fr σ) : blockQ j Q (.exit k) fr σ := by
  simp only [blockQ]; rw [if_neg (fun q => by rw [q] at e; simp at e)]; exact h
theorem q_ret {fn : Func} {post : AV → List AObj → Prop} {v : AV} (e : resA fn fr = some v) (h : post v σ) : retQ fn post .ret fr σ := ⟨v, e, h⟩
theorem q_end {fn : Func} {post : AV → List AObj → Prop} {v : AV} (e : resA fn fr = some v) (h : post v σ) : retQ fn post .normal fr σ := ⟨v, e, h⟩

/-- A function's body. -/
theorem enter {f : FuncId} {fn : Func} {c : Code} {args : List AV} {post : AV → List AObj → Prop} (nt : Nat) {fr : Fr} (hf : P.funcs[f]? = some fn) (hb : fn.body = some c) (hg : isGo P f = true) (hnt : Nat.beq fn.ntmps nt = true) (hn : Nat.ble args.length nt = true)
    (hfr : seqL (frameOf args 0) some = some fr) (h : AWk P nt c (retQ fn post) fr σ) : Runs P f args σ post := by
  have e := Nat.eq_of_beq_eq_true hnt
  subst e
  rw [seqL_eq] at hfr
  injection hfr with hfr
  subst hfr
  exact runs_enter hf hb hg hn h
theorem enterP {f : FuncId} {fn : Func} {c : Code} {args : List DV} {post : DV → Prop} (nt : Nat) {fr : Fr} (hf : P.funcs[f]? = some fn) (hb : fn.body = some c) (hg : isGo P f = true) (hnt : Nat.beq fn.ntmps nt = true) (hn : Nat.ble (args.map AV.d).length nt = true)
    (hfr : seqL (frameOf (args.map AV.d) 0) some = some fr) (h : AWk P nt c (retQ fn fun v _ => ∃ d, v = .d d ∧ post d) fr []) : RunsP P f args post := Runs.pure (enter nt hf hb hg hnt hn hfr h)

/-- The next operation, laid open. -/
structure ALo (P : Program) (nt : Nat) (ops : Array Oper) (dr : Bool) (dos ends : List Nat) (i : Nat) (o : Oper) (l : Trr) (Q : Exit → Fr → List AObj → Prop) (fr : Fr) (σ : List AObj) : Prop where
  out : ops[i]? = some o → AL P nt ops dr dos ends (.one i l) Q fr σ

theorem s_op (ho : ops[i]? = some o) (h : ALo P nt ops dr dos ends i o l Q fr σ) : AL P nt ops dr dos ends (.one i l) Q fr σ := h.out ho

def guardB (ops : Array Oper) (fr : Fr) : Option (Nat × Bool) → Option Bool
  | none => some true
  | some (j, want) => match (ops[j]?).bind (·.dst) with
    | some t => match fget fr t with
      | .d (.v (.bool b)) => some (b == want)
      | _ => none
    | none => none
theorem guardB_eq {b : Option Bool} (h : guardB ops fr o.guard = b) : guardA ops fr o = b := by
  rw [← h]; unfold guardA guardB
  cases o.guard <;> rfl
def guardT (ops : Array Oper) : Option (Nat × Bool) → Option Tmp
  | some (j, _) => (ops[j]?).bind (·.dst)
  | none => none

variable {dst : Option Tmp} {op : Op} {ty : TypeId} {pos : String} {aft : Array Edge} {gd : Option (Nat × Bool)}

theorem s_guard {j t : Nat} {w b : Bool} (hg : guardT ops (some (j, w)) = some t) (hb : fget fr t = .d (.v (.bool b))) (ht : b = true → ALo P nt ops dr dos ends i ⟨dst, op, ty, pos, aft, some (j, w)⟩ l Q ((t, .d (.v (.bool true))) :: fr) σ)
    (hf : b = false → ALo P nt ops dr dos ends i ⟨dst, op, ty, pos, aft, some (j, w)⟩ l Q ((t, .d (.v (.bool false))) :: fr) σ) : ALo P nt ops dr dos ends i ⟨dst, op, ty, pos, aft, some (j, w)⟩ l Q fr σ :=
  ⟨fun ho => al_split hb (fun e => (ht e).out ho) (fun e => (hf e).out ho)⟩
theorem s_read (ho : ops[i]? = some ⟨some d, op, ty, pos, aft, gd⟩) (hp : dr = dr) (hg : guardB ops fr gd = some true) (ht : Nat.blt d nt = true) (hr : RdOp P ⟨some d, op, ty, pos, aft, gd⟩ fr σ v) (h : AL P nt ops dr dos ends l Q ((d, v) :: fr) σ) : AL P nt ops dr dos ends (.one i l) Q fr σ :=
  al_read ho (guardB_eq hg) ht hr h
theorem s_do {keep : Bool} (ho : ops[i]? = some ⟨dst, op, ty, pos, aft, gd⟩) (hp : (dr && !dos.contains i) = false) (hg : guardB ops fr gd = some true) (hk : (dr && !ends.contains i && !keep) = false)
    (h : DoOp P nt ⟨dst, op, ty, pos, aft, gd⟩ fr σ keep (AL P nt ops dr dos ends l Q)) : AL P nt ops dr dos ends (.one i l) Q fr σ := al_do ho hp hk (guardB_eq hg) h

theorem s_move  {a : Operand} (hp : dr = dr) (hg : guardB ops fr gd = some true) (ht : Nat.blt d nt = true) (hv : forceAV (aget fr a) = some v) (h : AL P nt ops dr dos ends l Q ((d, v) :: fr) σ) : ALo P nt ops dr dos ends i ⟨some d, .move a, ty, pos, aft, gd⟩ l Q fr σ :=
  ⟨fun ho => s_read ho hp hg ht (rd_eqv (forceAV_eq hv) (rd_move (.inl rfl))) h⟩
theorem s_assign  {a : Operand} (hp : dr = dr) (hg : guardB ops fr gd = some true) (ht : Nat.blt d nt = true) (hv : forceAV (aget fr a) = some v) (h : AL P nt ops dr dos ends l Q ((d, v) :: fr) σ) : ALo P nt ops dr dos ends i ⟨some d, .assign a, ty, pos, aft, gd⟩ l Q fr σ :=
  ⟨fun ho => s_read ho hp hg ht (rd_eqv (forceAV_eq hv) (rd_move (.inr rfl))) h⟩
theorem s_pick_t  {c a b : Operand} (hp : dr = dr) (hg : guardB ops fr gd = some true) (ht : Nat.blt d nt = true) (hc : aget fr c = .d (.v (.bool true))) (hv : forceAV (aget fr a) = some v) (h : AL P nt ops dr dos ends l Q ((d, v) :: fr) σ) : ALo P nt ops dr dos ends i ⟨some d, .pick c a b, ty, pos, aft, gd⟩ l Q fr σ :=
  ⟨fun ho => s_read ho hp hg ht (rd_eqv (forceAV_eq hv) (rd_pick_t rfl hc)) h⟩
theorem s_pick_f  {c a b : Operand} (hp : dr = dr) (hg : guardB ops fr gd = some true) (ht : Nat.blt d nt = true) (hc : aget fr c = .d (.v (.bool false))) (hv : forceAV (aget fr b) = some v) (h : AL P nt ops dr dos ends l Q ((d, v) :: fr) σ) : ALo P nt ops dr dos ends i ⟨some d, .pick c a b, ty, pos, aft, gd⟩ l Q fr σ :=
  ⟨fun ho => s_read ho hp hg ht (rd_eqv (forceAV_eq hv) (rd_pick_f rfl hc)) h⟩
theorem s_fa_f (hT : okTab P T = true) {s f off : Nat} {a : Operand} {cells cs : List DV} (hp : dr = dr) (hg : guardB ops fr gd = some true) (ht : Nat.blt d nt = true) (ha : aget fr a = .d (.fptr cells)) (hf : find2 T.fld s f = some off) (hc : dropO off cells = some cs) (h : AL P nt ops dr dos ends l Q ((d, .d (.fptr cs)) :: fr) σ) : ALo P nt ops dr dos ends i ⟨some d, .fieldAddr s a f, ty, pos, aft, gd⟩ l Q fr σ :=
  ⟨fun ho => s_read ho hp hg ht (rd_eqv (by rw [dropO_eq _ _ _ hc]) (rd_fieldAddr_f hT rfl hf ha)) h⟩
theorem s_fa_p (hT : okTab P T = true) {s f off loc ver o0 : Nat} {a : Operand} (hp : dr = dr) (hg : guardB ops fr gd = some true) (ht : Nat.blt d nt = true) (ha : aget fr a = .ptr loc ver o0) (hf : find2 T.fld s f = some off) (h : AL P nt ops dr dos ends l Q ((d, .ptr loc ver (o0 + off)) :: fr) σ) : ALo P nt ops dr dos ends i ⟨some d, .fieldAddr s a f, ty, pos, aft, gd⟩ l Q fr σ :=
  ⟨fun ho => s_read ho hp hg ht (rd_fieldAddr_p hT rfl hf ha) h⟩
theorem s_ld_f (hT : okTab P T = true) {t sz bytes : Nat} {agg : Bool} {a : Operand} {cells : List DV} {w : DV} (hp : dr = dr) (hg : guardB ops fr gd = some true) (ht : Nat.blt d nt = true) (ha : aget fr a = .d (.fptr cells)) (hy : find1 T.ty t = some (sz, bytes, agg)) (hv : ldDO agg sz cells = some w) (h : AL P nt ops dr dos ends l Q ((d, .d w) :: fr) σ) : ALo P nt ops dr dos ends i ⟨some d, .load t a, ty, pos, aft, gd⟩ l Q fr σ :=
  ⟨fun ho => s_read ho hp hg ht (rd_load_f hT rfl hy ha (ldDO_eq hv)) h⟩
theorem s_ld_w (hT : okTab P T = true) {t sz bytes : Nat} {a : Operand} {cells : List DV} (hp : dr = dr) (hg : guardB ops fr gd = some true) (ht : Nat.blt d nt = true) (ha : aget fr a = .d (.fptr cells)) (hy : find1 T.ty t = some (sz, bytes, true)) (hc : cells.length = sz) (h : AL P nt ops dr dos ends l Q ((d, .d (.agg cells)) :: fr) σ) : ALo P nt ops dr dos ends i ⟨some d, .load t a, ty, pos, aft, gd⟩ l Q fr σ :=
  ⟨fun ho => s_read ho hp hg ht (rd_load_f hT rfl hy ha (ldD_full hc)) h⟩
theorem s_ld_p (hT : okTab P T = true) {t sz bytes U loc off : Nat} {agg : Bool} {a : Operand} {cells : List AV} (hp : dr = dr) (hg : guardB ops fr gd = some true) (ht : Nat.blt d nt = true) (ha : aget fr a = .ptr loc 0 off) (hy : find1 T.ty t = some (sz, bytes, agg)) (hs : σ[loc]? = some (.row U cells)) (hv : ldAO agg sz off cells = some v) (h : AL P nt ops dr dos ends l Q ((d, v) :: fr) σ) : ALo P nt ops dr dos ends i ⟨some d, .load t a, ty, pos, aft, gd⟩ l Q fr σ :=
  ⟨fun ho => s_read ho hp hg ht (rd_load_p hT rfl hy ha hs (ldAO_eq hv)) h⟩
theorem s_len (hT : okTab P T = true) {t e : Nat} {a : Operand} {n : Nat} (hp : dr = dr) (hg : guardB ops fr gd = some true) (ht : Nat.blt d nt = true) (ha : lenA (aget fr a) = some n) (hs : find1 T.sl t = some e) (h : AL P nt ops dr dos ends l Q ((d, .d (.v (.int .i64 n))) :: fr) σ) : ALo P nt ops dr dos ends i ⟨some d, .call { callee := .builtin .len, args := #[a], argTypes := #[t] }, ty, pos, aft, gd⟩ l Q fr σ :=
  ⟨fun ho => s_read ho hp hg ht (rd_len rfl (Tab.slIs hT hs) ha) h⟩
theorem s_lens (hy : P.underlying 9 = some .string) {a : Operand} {s : ByteArray} (hp : dr = dr) (hg : guardB ops fr gd = some true) (ht : Nat.blt d nt = true) (ha : aget fr a = .d (.v (.string s))) (h : AL P nt ops dr dos ends l Q ((d, .d (.v (.int .i64 s.size))) :: fr) σ) : ALo P nt ops dr dos ends i ⟨some d, .call { callee := .builtin .len, args := #[a], argTypes := #[9] }, ty, pos, aft, gd⟩ l Q fr σ :=
  ⟨fun ho => s_read ho hp hg ht (rd_lens rfl hy ha) h⟩
theorem s_idx (hT : okTab P T = true) {t e sz bytes : Nat} {agg : Bool} {a b : Operand} {rows : List (List DV)} {row : List DV} {k : IntKind} {j : Nat} (hp : dr = dr) (hg : guardB ops fr gd = some true) (ht : Nat.blt d nt = true) (ha : aget fr a = .d (.lst sz rows)) (hb : aget fr b = .d (.v (.int k (j : Int)))) (hs : find1 T.sl t = some e) (he : find1 T.ty e = some (sz, bytes, agg)) (hr : rows[j]? = some row) (h : AL P nt ops dr dos ends l Q ((d, .d (.fptr row)) :: fr) σ) : ALo P nt ops dr dos ends i ⟨some d, .indexAddr t a b, ty, pos, aft, gd⟩ l Q fr σ :=
  ⟨fun ho => s_read ho hp hg ht (rd_index hT rfl hs he ha hb hr) h⟩
theorem s_slice (hT : okTab P T = true) {t e sz bytes : Nat} {agg : Bool} {a : Operand} {lo hi : Option Operand} {rows : List (List DV)} {lw hg2 : Option Int} (hp : dr = dr) (hg : guardB ops fr gd = some true) (ht : Nat.blt d nt = true) (ha : aget fr a = .d (.lst sz rows)) (hs : find1 T.sl t = some e) (he : find1 T.ty e = some (sz, bytes, agg)) (hl : bndA fr lo = some lw) (hh : bndA fr hi = some hg2) (h3 : 0 ≤ lw.getD 0 ∧ lw.getD 0 ≤ hg2.getD rows.length ∧ hg2.getD rows.length ≤ rows.length) (h : AL P nt ops dr dos ends l Q ((d, .d (.lst sz ((rows.take (hg2.getD rows.length).toNat).drop (lw.getD 0).toNat))) :: fr) σ) : ALo P nt ops dr dos ends i ⟨some d, .slice t a lo hi none, ty, pos, aft, gd⟩ l Q fr σ :=
  ⟨fun ho => s_read ho hp hg ht (rd_slice hT rfl hs he ha hl hh h3.1 h3.2.1 h3.2.2) h⟩
theorem s_ext  {a : Operand} {j : Nat} {w : AV} (hp : dr = dr) (hg : guardB ops fr gd = some true) (ht : Nat.blt d nt = true) (hw : tupA (aget fr a) j = some w) (hv : forceAV w = some v) (h : AL P nt ops dr dos ends l Q ((d, v) :: fr) σ) : ALo P nt ops dr dos ends i ⟨some d, .extract a j, ty, pos, aft, gd⟩ l Q fr σ :=
  ⟨fun ho => s_read ho hp hg ht (rd_eqv (forceAV_eq hv) (rd_extract rfl hw)) h⟩
theorem s_nilc  {a : Operand} (hp : dr = dr) (hg : guardB ops fr gd = some true) (ht : Nat.blt d nt = true) (hs : soundA (aget fr a) = true) (hv : forceAV (aget fr a) = some v) (h : AL P nt ops dr dos ends l Q ((d, v) :: fr) σ) : ALo P nt ops dr dos ends i ⟨some d, .nilCheck a, ty, pos, aft, gd⟩ l Q fr σ :=
  ⟨fun ho => s_read ho hp hg ht (rd_eqv (forceAV_eq hv) (rd_nilCheck rfl hs)) h⟩
theorem s_mkf  {fn : Fn} {fs cs : Array Operand} (hp : dr = dr) (hg : guardB ops fr gd = some true) (ht : Nat.blt d nt = true) (hv : cloO fn (fs.toList.map (aget fr)) (cs.toList.map (aget fr)) = some v) (h : AL P nt ops dr dos ends l Q ((d, v) :: fr) σ) : ALo P nt ops dr dos ends i ⟨some d, .makeFunc fn fs cs, ty, pos, aft, gd⟩ l Q fr σ :=
  ⟨fun ho => s_read ho hp hg ht (rd_eqv (cloO_eq hv) (rd_makeFunc rfl)) h⟩
theorem s_build (hZ : okTabZ P Z = true) {t : TypeId} {pl : List (Nat × Nat)} {z : List Value} {parts : Array (Nat × Operand)} (hp : dr = dr) (hg : guardB ops fr gd = some true) (ht : Nat.blt d nt = true) (hz : find1 Z.st t = some (pl, z)) (hv : buildO pl (z.map constAV) (parts.toList.map fun p => (p.1, aget fr p.2)) = some v) (h : AL P nt ops dr dos ends l Q ((d, v) :: fr) σ) : ALo P nt ops dr dos ends i ⟨some d, .build t parts, ty, pos, aft, gd⟩ l Q fr σ :=
  ⟨fun ho => s_read ho hp hg ht ((let ⟨_, h1, h2⟩ := buildO_eq hv; rd_eqv h2 (rd_build (TabZ.s hZ hz) rfl h1))) h⟩
theorem s_lss_t  {t t' : TypeId} {a b : Operand} {k : IntKind} {m n : Int} (hp : dr = dr) (hg : guardB ops fr gd = some true) (ht : Nat.blt d nt = true) (ha : aget fr a = .d (.v (.int k m))) (hb : aget fr b = .d (.v (.int k n))) (hc : m < n) (h : AL P nt ops dr dos ends l Q ((d, .d (.v (.bool true))) :: fr) σ) : ALo P nt ops dr dos ends i ⟨some d, .binOp .lss t a b t', ty, pos, aft, gd⟩ l Q fr σ :=
  ⟨fun ho => s_read ho hp hg ht (rd_lss_t rfl ha hb hc) h⟩
theorem s_lss_f  {t t' : TypeId} {a b : Operand} {k : IntKind} {m n : Int} (hp : dr = dr) (hg : guardB ops fr gd = some true) (ht : Nat.blt d nt = true) (ha : aget fr a = .d (.v (.int k m))) (hb : aget fr b = .d (.v (.int k n))) (hc : n ≤ m) (h : AL P nt ops dr dos ends l Q ((d, .d (.v (.bool false))) :: fr) σ) : ALo P nt ops dr dos ends i ⟨some d, .binOp .lss t a b t', ty, pos, aft, gd⟩ l Q fr σ :=
  ⟨fun ho => s_read ho hp hg ht (rd_lss_f rfl ha hb hc) h⟩
theorem s_lss  {t t' : TypeId} {a b : Operand} {k : IntKind} {m n : Int} {w : Value} (hp : dr = dr) (hg : guardB ops fr gd = some true) (ht : Nat.blt d nt = true) (ha : aget fr a = .d (.v (.int k m))) (hb : aget fr b = .d (.v (.int k n))) (hv : intOp .lss k m n = some w) (h : AL P nt ops dr dos ends l Q ((d, .d (.v w)) :: fr) σ) : ALo P nt ops dr dos ends i ⟨some d, .binOp .lss t a b t', ty, pos, aft, gd⟩ l Q fr σ :=
  ⟨fun ho => s_read ho hp hg ht (rd_int rfl ha hb hv) h⟩
theorem s_leq_t  {t t' : TypeId} {a b : Operand} {k : IntKind} {m n : Int} (hp : dr = dr) (hg : guardB ops fr gd = some true) (ht : Nat.blt d nt = true) (ha : aget fr a = .d (.v (.int k m))) (hb : aget fr b = .d (.v (.int k n))) (hc : m ≤ n) (h : AL P nt ops dr dos ends l Q ((d, .d (.v (.bool true))) :: fr) σ) : ALo P nt ops dr dos ends i ⟨some d, .binOp .leq t a b t', ty, pos, aft, gd⟩ l Q fr σ :=
  ⟨fun ho => s_read ho hp hg ht (rd_leq_t rfl ha hb hc) h⟩
theorem s_leq_f  {t t' : TypeId} {a b : Operand} {k : IntKind} {m n : Int} (hp : dr = dr) (hg : guardB ops fr gd = some true) (ht : Nat.blt d nt = true) (ha : aget fr a = .d (.v (.int k m))) (hb : aget fr b = .d (.v (.int k n))) (hc : n < m) (h : AL P nt ops dr dos ends l Q ((d, .d (.v (.bool false))) :: fr) σ) : ALo P nt ops dr dos ends i ⟨some d, .binOp .leq t a b t', ty, pos, aft, gd⟩ l Q fr σ :=
  ⟨fun ho => s_read ho hp hg ht (rd_leq_f rfl ha hb hc) h⟩
theorem s_gtr_t  {t t' : TypeId} {a b : Operand} {k : IntKind} {m n : Int} (hp : dr = dr) (hg : guardB ops fr gd = some true) (ht : Nat.blt d nt = true) (ha : aget fr a = .d (.v (.int k m))) (hb : aget fr b = .d (.v (.int k n))) (hc : n < m) (h : AL P nt ops dr dos ends l Q ((d, .d (.v (.bool true))) :: fr) σ) : ALo P nt ops dr dos ends i ⟨some d, .binOp .gtr t a b t', ty, pos, aft, gd⟩ l Q fr σ :=
  ⟨fun ho => s_read ho hp hg ht (rd_gtr_t rfl ha hb hc) h⟩
theorem s_gtr_f  {t t' : TypeId} {a b : Operand} {k : IntKind} {m n : Int} (hp : dr = dr) (hg : guardB ops fr gd = some true) (ht : Nat.blt d nt = true) (ha : aget fr a = .d (.v (.int k m))) (hb : aget fr b = .d (.v (.int k n))) (hc : m ≤ n) (h : AL P nt ops dr dos ends l Q ((d, .d (.v (.bool false))) :: fr) σ) : ALo P nt ops dr dos ends i ⟨some d, .binOp .gtr t a b t', ty, pos, aft, gd⟩ l Q fr σ :=
  ⟨fun ho => s_read ho hp hg ht (rd_gtr_f rfl ha hb hc) h⟩
theorem s_gtr  {t t' : TypeId} {a b : Operand} {k : IntKind} {m n : Int} {w : Value} (hp : dr = dr) (hg : guardB ops fr gd = some true) (ht : Nat.blt d nt = true) (ha : aget fr a = .d (.v (.int k m))) (hb : aget fr b = .d (.v (.int k n))) (hv : intOp .gtr k m n = some w) (h : AL P nt ops dr dos ends l Q ((d, .d (.v w)) :: fr) σ) : ALo P nt ops dr dos ends i ⟨some d, .binOp .gtr t a b t', ty, pos, aft, gd⟩ l Q fr σ :=
  ⟨fun ho => s_read ho hp hg ht (rd_int rfl ha hb hv) h⟩
theorem s_geq_t  {t t' : TypeId} {a b : Operand} {k : IntKind} {m n : Int} (hp : dr = dr) (hg : guardB ops fr gd = some true) (ht : Nat.blt d nt = true) (ha : aget fr a = .d (.v (.int k m))) (hb : aget fr b = .d (.v (.int k n))) (hc : n ≤ m) (h : AL P nt ops dr dos ends l Q ((d, .d (.v (.bool true))) :: fr) σ) : ALo P nt ops dr dos ends i ⟨some d, .binOp .geq t a b t', ty, pos, aft, gd⟩ l Q fr σ :=
  ⟨fun ho => s_read ho hp hg ht (rd_geq_t rfl ha hb hc) h⟩
theorem s_geq_f  {t t' : TypeId} {a b : Operand} {k : IntKind} {m n : Int} (hp : dr = dr) (hg : guardB ops fr gd = some true) (ht : Nat.blt d nt = true) (ha : aget fr a = .d (.v (.int k m))) (hb : aget fr b = .d (.v (.int k n))) (hc : m < n) (h : AL P nt ops dr dos ends l Q ((d, .d (.v (.bool false))) :: fr) σ) : ALo P nt ops dr dos ends i ⟨some d, .binOp .geq t a b t', ty, pos, aft, gd⟩ l Q fr σ :=
  ⟨fun ho => s_read ho hp hg ht (rd_geq_f rfl ha hb hc) h⟩
theorem s_eql_t  {t t' : TypeId} {a b : Operand} {k : IntKind} {m n : Int} (hp : dr = dr) (hg : guardB ops fr gd = some true) (ht : Nat.blt d nt = true) (ha : aget fr a = .d (.v (.int k m))) (hb : aget fr b = .d (.v (.int k n))) (hc : m = n) (h : AL P nt ops dr dos ends l Q ((d, .d (.v (.bool true))) :: fr) σ) : ALo P nt ops dr dos ends i ⟨some d, .binOp .eql t a b t', ty, pos, aft, gd⟩ l Q fr σ :=
  ⟨fun ho => s_read ho hp hg ht (rd_eql_t rfl ha hb hc) h⟩
theorem s_eql_f  {t t' : TypeId} {a b : Operand} {k : IntKind} {m n : Int} (hp : dr = dr) (hg : guardB ops fr gd = some true) (ht : Nat.blt d nt = true) (ha : aget fr a = .d (.v (.int k m))) (hb : aget fr b = .d (.v (.int k n))) (hc : m ≠ n) (h : AL P nt ops dr dos ends l Q ((d, .d (.v (.bool false))) :: fr) σ) : ALo P nt ops dr dos ends i ⟨some d, .binOp .eql t a b t', ty, pos, aft, gd⟩ l Q fr σ :=
  ⟨fun ho => s_read ho hp hg ht (rd_eql_f rfl ha hb hc) h⟩
theorem s_neq_t  {t t' : TypeId} {a b : Operand} {k : IntKind} {m n : Int} (hp : dr = dr) (hg : guardB ops fr gd = some true) (ht : Nat.blt d nt = true) (ha : aget fr a = .d (.v (.int k m))) (hb : aget fr b = .d (.v (.int k n))) (hc : m ≠ n) (h : AL P nt ops dr dos ends l Q ((d, .d (.v (.bool true))) :: fr) σ) : ALo P nt ops dr dos ends i ⟨some d, .binOp .neq t a b t', ty, pos, aft, gd⟩ l Q fr σ :=
  ⟨fun ho => s_read ho hp hg ht (rd_neq_t rfl ha hb hc) h⟩
theorem s_neq_f  {t t' : TypeId} {a b : Operand} {k : IntKind} {m n : Int} (hp : dr = dr) (hg : guardB ops fr gd = some true) (ht : Nat.blt d nt = true) (ha : aget fr a = .d (.v (.int k m))) (hb : aget fr b = .d (.v (.int k n))) (hc : m = n) (h : AL P nt ops dr dos ends l Q ((d, .d (.v (.bool false))) :: fr) σ) : ALo P nt ops dr dos ends i ⟨some d, .binOp .neq t a b t', ty, pos, aft, gd⟩ l Q fr σ :=
  ⟨fun ho => s_read ho hp hg ht (rd_neq_f rfl ha hb hc) h⟩
theorem s_add64  {t t' : TypeId} {a b : Operand} {m n : Int} (hp : dr = dr) (hg : guardB ops fr gd = some true) (ht : Nat.blt d nt = true) (ha : aget fr a = .d (.v (.int .i64 m))) (hb : aget fr b = .d (.v (.int .i64 n))) (hr : -9223372036854775808 ≤ m + n ∧ m + n ≤ 9223372036854775807) (h : AL P nt ops dr dos ends l Q ((d, .d (.v (.int .i64 (m + n)))) :: fr) σ) : ALo P nt ops dr dos ends i ⟨some d, .binOp .add t a b t', ty, pos, aft, gd⟩ l Q fr σ :=
  ⟨fun ho => s_read ho hp hg ht (rd_add64 rfl ha hb hr) h⟩
theorem s_add  {t t' : TypeId} {a b : Operand} {k : IntKind} {m n : Int} {w : Value} (hp : dr = dr) (hg : guardB ops fr gd = some true) (ht : Nat.blt d nt = true) (ha : aget fr a = .d (.v (.int k m))) (hb : aget fr b = .d (.v (.int k n))) (hv : intOp .add k m n = some w) (h : AL P nt ops dr dos ends l Q ((d, .d (.v w)) :: fr) σ) : ALo P nt ops dr dos ends i ⟨some d, .binOp .add t a b t', ty, pos, aft, gd⟩ l Q fr σ :=
  ⟨fun ho => s_read ho hp hg ht (rd_int rfl ha hb hv) h⟩
theorem s_sub64  {t t' : TypeId} {a b : Operand} {m n : Int} (hp : dr = dr) (hg : guardB ops fr gd = some true) (ht : Nat.blt d nt = true) (ha : aget fr a = .d (.v (.int .i64 m))) (hb : aget fr b = .d (.v (.int .i64 n))) (hr : -9223372036854775808 ≤ m - n ∧ m - n ≤ 9223372036854775807) (h : AL P nt ops dr dos ends l Q ((d, .d (.v (.int .i64 (m - n)))) :: fr) σ) : ALo P nt ops dr dos ends i ⟨some d, .binOp .sub t a b t', ty, pos, aft, gd⟩ l Q fr σ :=
  ⟨fun ho => s_read ho hp hg ht (rd_sub64 rfl ha hb hr) h⟩
theorem s_streq_t  {t t' : TypeId} {a b : Operand} {m n : ByteArray} (hp : dr = dr) (hg : guardB ops fr gd = some true) (ht : Nat.blt d nt = true) (ha : aget fr a = .d (.v (.string m))) (hb : aget fr b = .d (.v (.string n))) (hc : m = n) (h : AL P nt ops dr dos ends l Q ((d, .d (.v (.bool true))) :: fr) σ) : ALo P nt ops dr dos ends i ⟨some d, .binOp .eql t a b t', ty, pos, aft, gd⟩ l Q fr σ :=
  ⟨fun ho => s_read ho hp hg ht (rd_eqv (by rw [decide_eq_true hc]; try rfl) (rd_str_eq rfl ha hb)) h⟩
theorem s_streq_f  {t t' : TypeId} {a b : Operand} {m n : ByteArray} (hp : dr = dr) (hg : guardB ops fr gd = some true) (ht : Nat.blt d nt = true) (ha : aget fr a = .d (.v (.string m))) (hb : aget fr b = .d (.v (.string n))) (hc : m ≠ n) (h : AL P nt ops dr dos ends l Q ((d, .d (.v (.bool false))) :: fr) σ) : ALo P nt ops dr dos ends i ⟨some d, .binOp .eql t a b t', ty, pos, aft, gd⟩ l Q fr σ :=
  ⟨fun ho => s_read ho hp hg ht (rd_eqv (by rw [decide_eq_false hc]; try rfl) (rd_str_eq rfl ha hb)) h⟩
theorem s_strne_t  {t t' : TypeId} {a b : Operand} {m n : ByteArray} (hp : dr = dr) (hg : guardB ops fr gd = some true) (ht : Nat.blt d nt = true) (ha : aget fr a = .d (.v (.string m))) (hb : aget fr b = .d (.v (.string n))) (hc : m ≠ n) (h : AL P nt ops dr dos ends l Q ((d, .d (.v (.bool true))) :: fr) σ) : ALo P nt ops dr dos ends i ⟨some d, .binOp .neq t a b t', ty, pos, aft, gd⟩ l Q fr σ :=
  ⟨fun ho => s_read ho hp hg ht (rd_eqv (by rw [decide_eq_false hc]; try rfl) (rd_str_ne rfl ha hb)) h⟩
theorem s_strne_f  {t t' : TypeId} {a b : Operand} {m n : ByteArray} (hp : dr = dr) (hg : guardB ops fr gd = some true) (ht : Nat.blt d nt = true) (ha : aget fr a = .d (.v (.string m))) (hb : aget fr b = .d (.v (.string n))) (hc : m = n) (h : AL P nt ops dr dos ends l Q ((d, .d (.v (.bool false))) :: fr) σ) : ALo P nt ops dr dos ends i ⟨some d, .binOp .neq t a b t', ty, pos, aft, gd⟩ l Q fr σ :=
  ⟨fun ho => s_read ho hp hg ht (rd_eqv (by rw [decide_eq_true hc]; try rfl) (rd_str_ne rfl ha hb)) h⟩
theorem s_boolne (hy : P.underlying 4 = some .bool) {t' : TypeId} {a b : Operand} {m n : Bool} (hp : dr = dr) (hg : guardB ops fr gd = some true) (ht : Nat.blt d nt = true) (ha : aget fr a = .d (.v (.bool m))) (hb : aget fr b = .d (.v (.bool n))) (h : AL P nt ops dr dos ends l Q ((d, .d (.v (.bool (!(m == n))))) :: fr) σ) : ALo P nt ops dr dos ends i ⟨some d, .binOp .neq 4 a b t', ty, pos, aft, gd⟩ l Q fr σ :=
  ⟨fun ho => s_read ho hp hg ht (rd_bool_ne hy rfl ha hb) h⟩
theorem s_not_t  {t : TypeId} {a : Operand} (hp : dr = dr) (hg : guardB ops fr gd = some true) (ht : Nat.blt d nt = true) (ha : aget fr a = .d (.v (.bool true))) (h : AL P nt ops dr dos ends l Q ((d, .d (.v (.bool false))) :: fr) σ) : ALo P nt ops dr dos ends i ⟨some d, .unOp .not t a, ty, pos, aft, gd⟩ l Q fr σ :=
  ⟨fun ho => s_read ho hp hg ht (rd_not rfl ha) h⟩
theorem s_not_f  {t : TypeId} {a : Operand} (hp : dr = dr) (hg : guardB ops fr gd = some true) (ht : Nat.blt d nt = true) (ha : aget fr a = .d (.v (.bool false))) (h : AL P nt ops dr dos ends l Q ((d, .d (.v (.bool true))) :: fr) σ) : ALo P nt ops dr dos ends i ⟨some d, .unOp .not t a, ty, pos, aft, gd⟩ l Q fr σ :=
  ⟨fun ho => s_read ho hp hg ht (rd_not rfl ha) h⟩
theorem s_not  {t : TypeId} {a : Operand} {m : Bool} (hp : dr = dr) (hg : guardB ops fr gd = some true) (ht : Nat.blt d nt = true) (ha : aget fr a = .d (.v (.bool m))) (h : AL P nt ops dr dos ends l Q ((d, .d (.v (.bool (!m)))) :: fr) σ) : ALo P nt ops dr dos ends i ⟨some d, .unOp .not t a, ty, pos, aft, gd⟩ l Q fr σ :=
  ⟨fun ho => s_read ho hp hg ht (rd_not rfl ha) h⟩
theorem s_alloc (hZ : okTabZ P Z = true) {t n : Nat} {z : List Value} (hp : (dr && !dos.contains i) = false) (hg : guardB ops fr gd = some true) (hk : (dr && !ends.contains i && !true) = false) (ht : Nat.blt d nt = true) (hz : find1 Z.zs t = some z) (hl : lenO σ 0 = some n) (hs : seqL (z.map constAV) (fun c => seqL (σ ++ [.row t c]) some) = some σ') (h : AL P nt ops dr dos ends l Q ((d, .ptr n 0 0) :: fr) σ') : ALo P nt ops dr dos ends i ⟨some d, .alloc t, ty, pos, aft, gd⟩ l Q fr σ := by
  refine ⟨fun ho => s_do (keep := true) ho hp hg hk ?_⟩
  have e1 := lenO_eq _ _ _ hl
  simp only [seqL_eq, Option.some.injEq] at hs
  subst hs e1
  exact do_alloc (TabZ.z hZ hz) rfl ht h
theorem s_store (hT : okTab P T = true) {t sz bytes loc off : Nat} {agg : Bool} {a b : Operand} {U : TypeId} {cells : List AV} (hp : (dr && !dos.contains i) = false) (hg : guardB ops fr gd = some true) (hk : (dr && !ends.contains i && !false) = false) (ha : aget fr a = .ptr loc 0 off) (hy : find1 T.ty t = some (sz, bytes, agg)) (hs : σ[loc]? = some (.row U cells)) (h1 : oneA (aget fr b) = true) (h2 : Nat.beq (cellsA (aget fr b)).length sz = true) (h3 : Nat.ble (off + sz) cells.length = true) (hσ : seqL (spliceL cells off (cellsA (aget fr b))) (fun c => seqL (σ.set loc (.row U c)) some) = some σ') (h : AL P nt ops dr dos ends l Q fr σ') : ALo P nt ops dr dos ends i ⟨none, .store t a b, ty, pos, aft, gd⟩ l Q fr σ := by
  refine ⟨fun ho => s_do (keep := false) ho hp hg hk ?_⟩
  simp only [seqL_eq, Option.some.injEq] at hσ
  subst hσ
  exact do_store hT rfl rfl hy ha hs h1 (Nat.eq_of_beq_eq_true h2) h3 h
theorem s_lit (hT : okTab P T = true) (hZ : okTabZ P Z = true) {t e sz bytes len : Nat} {agg : Bool} {parts : Array (Nat × Operand)} {rows : List (List DV)} {z : List Value} (hp : (dr && !dos.contains i) = false) (hg : guardB ops fr gd = some true) (hk : (dr && !ends.contains i && !true) = false) (ht : Nat.blt d nt = true) (hs : find1 T.sl t = some e) (he : find1 T.ty e = some (sz, bytes, agg)) (hz : find1 Z.zs e = some z) (hr : litRows sz (parts.toList.map fun p => (p.1, aget fr p.2)) 0 = some rows) (hl : Nat.beq parts.size len = true) (hb : Nat.ble (len * sz) 16777216 = true) (h : AL P nt ops dr dos ends l Q ((d, .d (.lst sz rows)) :: fr) σ) : ALo P nt ops dr dos ends i ⟨some d, .buildSlice t len parts, ty, pos, aft, gd⟩ l Q fr σ := by
  refine ⟨fun ho => s_do (keep := true) ho hp hg hk ?_⟩
  exact do_lit hT rfl ht hs he (TabZ.z hZ hz) hr hl hb h
theorem s_lit1 (hT : okTab P T = true) (hZ : okTabZ P Z = true) {t e sz bytes : Nat} {agg : Bool} {a : Operand} {cs : List DV} {z : List Value} (hp : (dr && !dos.contains i) = false) (hg : guardB ops fr gd = some true) (hk : (dr && !ends.contains i && !true) = false) (ht : Nat.blt d nt = true) (ha : aget fr a = .d (.agg cs)) (hs : find1 T.sl t = some e) (he : find1 T.ty e = some (sz, bytes, agg)) (hz : find1 Z.zs e = some z) (hb : Nat.ble sz 16777216 = true) (hl : cs.length = sz) (h : AL P nt ops dr dos ends l Q ((d, .d (.lst sz [cs])) :: fr) σ) : ALo P nt ops dr dos ends i ⟨some d, .buildSlice t 1 #[(0, a)], ty, pos, aft, gd⟩ l Q fr σ := by
  refine ⟨fun ho => s_do (keep := true) ho hp hg hk ?_⟩
  refine do_lit hT rfl ht hs he (TabZ.z hZ hz) (rows := [cs]) ?_ rfl (by simpa using hb) h
  have e1 : ∀ l : List DV, allD (l.map AV.d) = some l := fun l => by
    induction l with
    | nil => rfl
    | cons a l ih => simp [allD, ih]
  simp only [List.map_cons, List.map_nil, litRows, ha, cellsA, e1]
  simp [hl, oneA]
theorem s_call  {g : FuncId} {fs cs : List AV} {ds : List DV} {f : Operand} {args : Array Operand} {tys : Array TypeId} {post : DV → Prop} (hp : (dr && !dos.contains i) = false) (hg : guardB ops fr gd = some true) (hk : (dr && !ends.contains i && !true) = false) (ht : Nat.blt d nt = true) (hf : cloOf (aget fr f) = some (g, fs, cs)) (hds : allD (fs ++ args.toList.map (aget fr) ++ cs) = some ds) (hr : RunsP P g ds post) (h : ∀ v, post v → AL P nt ops dr dos ends l Q ((d, .d v) :: fr) σ) : ALo P nt ops dr dos ends i ⟨some d, .call { callee := .value f, args := args, argTypes := tys }, ty, pos, aft, gd⟩ l Q fr σ := by
  refine ⟨fun ho => s_do (keep := true) ho hp hg hk ?_⟩
  exact do_callP rfl hf ht hds hr h
theorem s_callS  {g : FuncId} {fs cs as : List AV} {f : Operand} {args : Array Operand} {tys : Array TypeId} {post : AV → List AObj → Prop} (hp : (dr && !dos.contains i) = false) (hg : guardB ops fr gd = some true) (hk : (dr && !ends.contains i && !false) = false) (ht : Nat.blt d nt = true) (hf : cloOf (aget fr f) = some (g, fs, cs)) (has : seqL (fs ++ args.toList.map (aget fr) ++ cs) some = some as) (hr : Runs P g as σ post) (h : ∀ v σ', post v σ' → AL P nt ops dr dos ends l Q ((d, v) :: fr) σ') : ALo P nt ops dr dos ends i ⟨some d, .call { callee := .value f, args := args, argTypes := tys }, ty, pos, aft, gd⟩ l Q fr σ := by
  refine ⟨fun ho => s_do (keep := false) ho hp hg hk ?_⟩
  simp only [seqL_eq, Option.some.injEq] at has
  subst has
  exact do_callS rfl hf ht hr h

/-- The values of some slots. -/
def getO : List Nat → Fr → Option (List AV)
  | [], _ => some []
  | t :: ts, fr => match forceAV (fget fr t), getO ts fr with
    | some v, some vs => some (v :: vs)
    | _, _ => none
theorem getO_eq : ∀ {ks : List Nat} {fr : Fr} {vs : List AV}, getO ks fr = some vs → vs = ks.map (fget fr)
  | [], _, vs, h => by cases h; rfl
  | t :: ts, fr, vs, h => by
    unfold getO at h
    split at h
    · rename_i v ws e1 e2; injection h with h; subst h; rw [getO_eq e2, ← forceAV_eq e1]; rfl
    · cases h
theorem fget_zip : ∀ (ks : List Nat) (fr : Fr) (i : Nat), fget (ks.zip (ks.map (fget fr))) i = fget fr i ∨ fget (ks.zip (ks.map (fget fr))) i = .any
  | [], _, _ => .inr rfl
  | t :: ts, fr, i => by
    by_cases e : t = i
    · subst e; left; simp [fget]
    · have := fget_zip ts fr i
      simp only [List.map_cons, List.zip_cons_cons]
      rw [fget_cons_ne _ _ e]; exact this

/-- A loop: the slots that are kept, what holds of them, and a number that falls. -/
theorem w_loop {c : Code} (ks : List Nat) (I : Nat → List AV → List AObj → Prop) {n : Nat} {vs : List AV} (hv : getO ks fr = some vs) (h0 : I n vs σ)
    (round : ∀ n vs σ, I n vs σ → ∀ fr, seqL (ks.zip vs) some = some fr → AWk P nt c (thenQ (fun fr' σ' => ∃ m vs', getO ks fr' = some vs' ∧ m < n ∧ I m vs' σ') Q) fr σ) : AWk P nt (.loop c) Q fr σ := by
  refine aw_loop (fun n fr σ => ∃ vs, getO ks fr = some vs ∧ I n vs σ) (n := n) ⟨vs, hv, h0⟩ fun n fr σ ⟨vs, hv, hi⟩ => ?_
  refine aw_ghost (ghost_frame (fr' := ks.zip vs) fun i => ?_) (AWk.mono (round n vs σ hi _ (by rw [seqL_eq])) fun e fr' σ' q => ?_)
  · rw [getO_eq hv]; exact fget_zip ks fr i
  · cases e with
    | normal => obtain ⟨m, vs', h1, h2, h3⟩ := q; exact ⟨m, h2, vs', h1, h3⟩
    | _ => exact q

/-- Fewer slots. -/
theorem w_keep {c : Code} (ks : List Nat) {vs : List AV} {fr' : Fr} (hv : getO ks fr = some vs) (hf : seqL (ks.zip vs) some = some fr') (h : AWk P nt c Q fr' σ) : AWk P nt c Q fr σ := by
  rw [seqL_eq] at hf
  injection hf with hf
  subst hf
  refine aw_ghost (ghost_frame fun i => ?_) h
  rw [getO_eq hv]; exact fget_zip ks fr i

/-- An order, some of it as a list. -/
def trO : List Nat → Trr → Trr
  | [], t => t
  | i :: l, t => .one i (trO l t)

/-! Saying less of a value. -/
def Wk (a b : DV) : Prop := ∀ F u, DRep F a u → DRep F b u
def WkL : List DV → List DV → Prop
  | [], [] => True
  | a :: l, b :: m => Wk a b ∧ WkL l m
  | _, _ => False
def WkR : List (List DV) → List (List DV) → Prop
  | [], [] => True
  | a :: l, b :: m => WkL a b ∧ WkR l m
  | _, _ => False
theorem Wk.refl (a : DV) : Wk a a := fun _ _ h => h
theorem Wk.nil (sz : Nat) : Wk .nil (.lst sz []) := fun F u ⟨a, e⟩ => ⟨a, 0, e, Nat.le_refl _, .inl rfl⟩
theorem WkL.nil : WkL [] [] := trivial
theorem WkL.cons {a b : DV} {l m : List DV} (h : Wk a b) (k : WkL l m) : WkL (a :: l) (b :: m) := ⟨h, k⟩
theorem WkL.refl : ∀ l, WkL l l
  | [] => trivial
  | a :: l => ⟨Wk.refl a, WkL.refl l⟩
theorem WkL.len : ∀ {l m : List DV}, WkL l m → l.length = m.length
  | [], [], _ => rfl
  | _ :: _, _ :: _, h => by simp [WkL.len h.2]
theorem WkL.rep {F : Frag} : ∀ {l m : List DV} {us : List Value}, WkL l m → LRep F l us → LRep F m us
  | [], [], _, _, h => h
  | _ :: _, _ :: _, _, k, ⟨u, us', e, r, q⟩ => ⟨u, us', e, k.1 F u r, WkL.rep k.2 q⟩
theorem WkL.crep {F : Frag} : ∀ {l m : List DV} {b off : Nat}, WkL l m → CRep F l b off → CRep F m b off
  | [], [], _, _, _, h => h
  | _ :: _, _ :: _, _, _, k, ⟨⟨u, e, o, r⟩, q⟩ => ⟨⟨u, e, o, k.1 F u r⟩, WkL.crep k.2 q⟩
theorem WkR.refl : ∀ l, WkR l l
  | [] => trivial
  | a :: l => ⟨WkL.refl a, WkR.refl l⟩
theorem WkR.len : ∀ {l m : List (List DV)}, WkR l m → l.length = m.length
  | [], [], _ => rfl
  | _ :: _, _ :: _, h => by simp [WkR.len h.2]
theorem WkR.rrep {F : Frag} {sz : Nat} : ∀ {l m : List (List DV)} {b off : Nat}, WkR l m → RRep F sz l b off → RRep F sz m b off
  | [], [], _, _, _, h => h
  | _ :: _, _ :: _, _, _, k, ⟨e, r, q⟩ => ⟨by rw [← k.1.len]; exact e, k.1.crep r, WkR.rrep k.2 q⟩
theorem Wk.agg {l m : List DV} (h : WkL l m) : Wk (.agg l) (.agg m) := fun F u ⟨us, e, r, o⟩ => ⟨us, e, h.rep r, o⟩
theorem Wk.tup {l m : List DV} (h : WkL l m) : Wk (.tup l) (.tup m) := fun F u ⟨us, e, r⟩ => ⟨us, e, h.rep r⟩
theorem Wk.fptr {l m : List DV} (h : WkL l m) : Wk (.fptr l) (.fptr m) := fun F u ⟨b, off, e, r⟩ => ⟨b, off, e, h.crep r⟩
theorem Wk.lst {sz : Nat} {l m : List (List DV)} (h : WkR l m) : Wk (.lst sz l) (.lst sz m) := fun F u ⟨a, cap, e, hc, r⟩ =>
  ⟨a, cap, by rw [← h.len]; exact e, by rw [← h.len]; exact hc, r.elim (fun q => .inl (by subst q; cases m with | nil => rfl | cons _ _ => exact h.elim)) fun ⟨b, off, e, r⟩ => .inr ⟨b, off, e, h.rrep r⟩⟩

theorem ghost_wk {t : Nat} {x y : DV} (h0 : fget fr t = .d x) (hw : Wk x y) : Ghost fr σ ((t, .d y) :: fr) σ := by
  intro k c nt A w s
  refine ⟨c, .refl c, s.size, s.defers, fun i => ?_, s.heap, s.calm⟩
  by_cases e : t = i
  · subst e
    rw [fget_cons_self]
    have := s.tmps t
    rw [h0] at this
    exact hw _ _ this
  · rw [fget_cons_ne _ _ e]; exact s.tmps i
theorem row_map {α : Type} {f : α → List DV} {l : List α} {j : Nat} {x : α} (h : l[j]? = some x) : (l.map f)[j]? = some (f x) := by simp [h]
end
end Go.Proofs.Ytciciaikajdenaa
