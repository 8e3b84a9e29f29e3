/- Steps with what they yield said; calls with less said of their arguments. -/
import Derived.Test.YtciciaikajdenaaTPR12Ac
set_option linter.unusedSimpArgs false
set_option linter.unusedVariables false
namespace Go.Proofs.Ytciciaikajdenaa
open Go.RowKit

theorem Runs.wk {P : Program} {f : FuncId} {args args' : List AV} {σ : List AObj} {post : AV → List AObj → Prop} (h : Runs P f args σ post) (hw : ∀ x us, ALRep x args' us → ALRep x args us) : Runs P f args' σ post :=
  ⟨h.1, fun B R x w vs a b c => h.2 B R x w vs (hw x vs a) b c⟩
section
variable {P : Program} {T : Tab} {Z : TabZ} {nt : Nat} {Q : Exit → Fr → List AObj → Prop} {next : Fr → List AObj → Prop} {fr : Fr} {σ σ' : List AObj} {ops : Array Oper} {dr : Bool} {dos ends : List Nat} {l : Trr} {i d : Nat} {o : Oper} {v : AV}
variable {dst : Option Tmp} {op : Op} {ty : TypeId} {pos : String} {aft : Array Edge} {gd : Option (Nat × Bool)}

theorem s_subV (r : Int) {t t' : TypeId} {a b : Operand} {m n : Int} (hp : dr = dr) (hg : guardB ops fr gd = some true) (ht : Nat.blt d nt = true) (ha : aget fr a = .d (.v (.int .i64 m))) (hb : aget fr b = .d (.v (.int .i64 n))) (hv : m - n = r ∧ -9223372036854775808 ≤ r ∧ r ≤ 9223372036854775807) (h : AL P nt ops dr dos ends l Q ((d, .d (.v (.int .i64 r))) :: fr) σ) : ALo P nt ops dr dos ends i ⟨some d, .binOp .sub t a b t', ty, pos, aft, gd⟩ l Q fr σ := by
  obtain ⟨rfl, h1, h2⟩ := hv
  exact ⟨fun ho => s_read ho hp hg ht (rd_sub64 rfl ha hb (by omega)) h⟩
theorem s_addV (r : Int) {t t' : TypeId} {a b : Operand} {m n : Int} (hp : dr = dr) (hg : guardB ops fr gd = some true) (ht : Nat.blt d nt = true) (ha : aget fr a = .d (.v (.int .i64 m))) (hb : aget fr b = .d (.v (.int .i64 n))) (hv : m + n = r ∧ -9223372036854775808 ≤ r ∧ r ≤ 9223372036854775807) (h : AL P nt ops dr dos ends l Q ((d, .d (.v (.int .i64 r))) :: fr) σ) : ALo P nt ops dr dos ends i ⟨some d, .binOp .add t a b t', ty, pos, aft, gd⟩ l Q fr σ := by
  obtain ⟨rfl, h1, h2⟩ := hv
  exact ⟨fun ho => s_read ho hp hg ht (rd_add64 rfl ha hb (by omega)) h⟩

theorem s_sliceOV (off' len' : Nat) (hT : okTab P T = true) {t e sz bytes loc ver off len : Nat} {agg : Bool} {a : Operand} {lo hi : Option Operand} {lw hg2 : Option Int} {U : TypeId} {rows : List (List DV)} (hp : dr = dr) (hg : guardB ops fr gd = some true) (ht : Nat.blt d nt = true) (ha : aget fr a = .own loc ver sz off len) (hs : find1 T.sl t = some e) (he : find1 T.ty e = some (sz, bytes, agg)) (hl : bndA fr lo = some lw) (hh : bndA fr hi = some hg2) (ho : σ[loc]? = some (.arr U sz ver rows)) (h3 : 0 ≤ lw.getD 0 ∧ lw.getD 0 ≤ hg2.getD len ∧ hg2.getD len ≤ len ∧ (lw.getD 0 = 0 ∨ lw.getD 0 < len)) (h4 : off + (lw.getD 0).toNat = off' ∧ (hg2.getD len).toNat - (lw.getD 0).toNat = len') (h : AL P nt ops dr dos ends l Q ((d, .own loc ver sz off' len') :: fr) σ) : ALo P nt ops dr dos ends i ⟨some d, .slice t a lo hi none, ty, pos, aft, gd⟩ l Q fr σ := by
  obtain ⟨rfl, rfl⟩ := h4
  exact s_sliceO hT hp hg ht ha hs he ho hl hh h3 h
end
end Go.Proofs.Ytciciaikajdenaa
/- Elements of owned slices, read and written; new objects, over objects that are not laid out. -/
set_option linter.unusedSimpArgs false
set_option linter.unusedVariables false
namespace Go.Proofs.Ytciciaikajdenaa
open Go.RowKit

theorem LRep.dropD {F : Frag} : ∀ (n : Nat) {ds : List DV} {us : List Value}, LRep F ds us → LRep F (ds.drop n) (us.drop n)
  | 0, _, _, h => h
  | n + 1, [], us, h => by rw [h]; simp [LRep]
  | n + 1, d :: ds, us, ⟨u, us', e, _, q⟩ => by subst e; exact LRep.dropD n q
theorem LRep.takeD {F : Frag} : ∀ (n : Nat) {ds : List DV} {us : List Value}, LRep F ds us → LRep F (ds.take n) (us.take n)
  | 0, _, _, _ => by simp [LRep]
  | n + 1, [], us, h => by rw [h]; simp [LRep]
  | n + 1, d :: ds, us, ⟨u, us', e, r, q⟩ => by subst e; exact ⟨u, us'.take n, rfl, r, LRep.takeD n q⟩
theorem LRep.appendD {F : Frag} : ∀ {a b : List DV} {us vs : List Value}, LRep F a us → LRep F b vs → LRep F (a ++ b) (us ++ vs)
  | [], _, _, _, h, k => by rw [h]; exact k
  | _ :: _, _, _, _, ⟨u, us', e, r, q⟩, k => by subst e; exact ⟨u, us' ++ _, by simp, r, LRep.appendD q k⟩

/-- A row written anew in part. -/
theorem FRep.splice {F : Frag} {sz : Nat} : ∀ {rs : List (List DV)} {us vs : List Value} {ds : List DV} {i f : Nat} {r : List DV}, FRep F sz rs us → rs[i]? = some r → LRep F ds vs → f + ds.length ≤ sz → FRep F sz (rs.set i (spliceL r f ds)) (spliceL us (i * sz + f) vs)
  | [], _, _, _, _, _, _, _, e, _, _ => by simp at e
  | a :: rs, _, vs, ds, 0, f, r, ⟨u, us', e1, hl, l, q⟩, e, hv, hf => by
    simp at e; subst e e1
    have hu : u.length = a.length := l.len
    have hvl := hv.len
    have h1 : spliceL (u ++ us') (0 * sz + f) vs = spliceL u f vs ++ us' := by
      unfold spliceL
      simp only [Nat.zero_mul, Nat.zero_add]
      rw [List.take_append_of_le_length (by omega), List.drop_append_of_le_length (by omega)]
      simp
    rw [h1]
    refine ⟨spliceL u f vs, us', rfl, ?_, ?_, q⟩
    · unfold spliceL; simp; omega
    · unfold spliceL
      rw [hvl]
      exact ((l.takeD f).appendD hv).appendD (l.dropD _)
  | a :: rs, _, vs, ds, i + 1, f, r, ⟨u, us', e1, hl, l, q⟩, e, hv, hf => by
    subst e1
    have hu : u.length = sz := by rw [l.len, hl]
    have h1 : spliceL (u ++ us') ((i + 1) * sz + f) vs = u ++ spliceL us' (i * sz + f) vs := by
      unfold spliceL
      have e2 : (i + 1) * sz + f = u.length + (i * sz + f) := by rw [hu, Nat.add_mul]; omega
      rw [e2, List.take_length_add_append, Nat.add_assoc, List.drop_length_add_append]
      simp
    rw [h1]
    exact ⟨u, _, rfl, hl, l, FRep.splice q (by simpa using e) hv hf⟩

theorem FRep.getF {F : Frag} {sz : Nat} : ∀ {rs : List (List DV)} {us : List Value} {i : Nat} {r : List DV}, FRep F sz rs us → rs[i]? = some r → r.length = sz ∧ LRep F r ((us.drop (i * sz)).take sz) ∧ (i + 1) * sz ≤ us.length
  | [], _, _, _, _, e => by simp at e
  | a :: rs, _, 0, r, ⟨u, us', e1, hl, l, q⟩, e => by
    simp at e; subst e e1
    have : u.length = a.length := l.len
    refine ⟨hl, ?_, by simp; omega⟩
    rw [Nat.zero_mul, List.drop_zero, ← hl, ← this, List.take_left]; exact l
  | a :: rs, _, i + 1, r, ⟨u, us', e1, hl, l, q⟩, e => by
    subst e1
    have hu : u.length = sz := by rw [l.len, hl]
    obtain ⟨h1, h2, h3⟩ := FRep.getF (i := i) q (by simpa using e)
    refine ⟨h1, ?_, ?_⟩
    · rw [show (i + 1) * sz = u.length + i * sz by rw [Nat.add_mul, hu]; omega, List.drop_length_add_append]
      exact h2
    · rw [List.length_append, hu, Nat.add_mul]
      omega

section
variable {P : Program} {T : Tab} {nt : Nat} {fr : Fr} {σ : List AObj} {o : Oper} {next : Fr → List AObj → Prop}

/-- The rows of an owned slice, in memory. -/
theorem arr_cells {k : K0} {x : Ctx} {A : Act} {w : World} (s : Sim k x nt fr σ A w) {loc U sz ver : Nat} {rows : List (List DV)} (hl : σ[loc]? = some (.arr U sz ver rows)) {i : Nat} {r : List DV} (hr : rows[i]? = some r) :
    (x.env loc).ver = ver ∧ ∃ us rest, w.heap[(x.env loc).blk]? = some (.cells (us ++ rest).toArray U (0, 0)) ∧ FRep x.F sz rows us ∧ ∀ u ∈ us, u.oneCell' = true := by
  obtain ⟨g, g1, g2, _⟩ := s.heap.own
  obtain ⟨hv, ⟨_, h0⟩ | ⟨_, us, rest, hb, hf, h1, _⟩⟩ := g1 loc _ hl
  · subst h0; simp at hr
  · exact ⟨hv, us, rest, g2 loc _ _ hb, hf, h1⟩

theorem rd_load_arr (hT : okTab P T = true) {t sz0 bytes loc ver off U sz i f : Nat} {agg : Bool} {a : Operand} {rows : List (List DV)} {r : List DV} {v : DV} (ho : o.op = .load t a) (ht : find1 T.ty t = some (sz0, bytes, agg)) (ha : aget fr a = .ptr loc ver off)
    (hl : σ[loc]? = some (.arr U sz ver rows)) (hr : rows[i]? = some r) (hoff : i * sz + f = off) (hv : ldD agg sz0 (r.drop f) = some v) : RdOp P o fr σ (.d v) := by
  intro k x nt A w s
  have hty := T.tyIs hT ht
  have hra := s.arg a
  rw [ha] at hra
  obtain ⟨_, _, ad, e, hc⟩ := hra
  obtain ⟨hver, us, rest, hb, hf, h1⟩ := arr_cells s hl hr
  have had := hc hver.symm
  subst had
  obtain ⟨g1, g2, g3⟩ := hf.getF hr
  have hlt : i < rows.length := (List.getElem?_eq_some_iff.1 hr).1
  have hus : us.length = rows.length * sz := hf.len
  have hcell : ∀ w', Agree w w' → ∀ j u, (((us.drop (i * sz)).take sz).drop f)[j]? = some u → w'.cell? ⟨(x.env loc).blk, off + j, none⟩ = some u := fun w' ag j u hj => by
    have := ag.get hb
    unfold World.cell?
    rw [this]
    have hj0 := (List.getElem?_eq_some_iff.1 hj).1
    simp only [List.length_drop, List.length_take] at hj0
    rw [List.getElem?_drop, List.getElem?_take, if_pos (by omega), List.getElem?_drop] at hj
    simp only [List.getElem?_toArray]
    rw [List.getElem?_append_left (by omega), ← hoff, show i * sz + f + j = i * sz + (f + j) by omega]
    exact hj
  have hrep := g2.dropD f
  have hrl := hrep.len
  have one : ∀ u ∈ ((us.drop (i * sz)).take sz).drop f, u.oneCell' = true := fun u hu => h1 u (List.mem_of_mem_drop (List.mem_of_mem_take (List.mem_of_mem_drop hu)))
  unfold ldD at hv
  cases agg with
  | true =>
    simp only [cond_true] at hv
    cases hz : Nat.ble sz0 (r.drop f).length with
    | false => rw [hz] at hv; cases hv
    | true =>
      rw [hz] at hv
      injection hv with hv
      subst hv
      have hlen : ((((us.drop (i * sz)).take sz).drop f).take sz0).length = sz0 := by
        rw [List.length_take, hrl]; exact Nat.min_eq_left (Nat.le_of_ble_eq_true hz)
      refine ⟨.agg ((((us.drop (i * sz)).take sz).drop f).take sz0).toArray, ⟨_, rfl, hrep.takeD sz0, fun u hu => one u (List.mem_of_mem_take hu)⟩, fun w' ag => ?_⟩
      have ag := ag.resolve_left (by rw [ho]; exact Bool.false_ne_true)
      have := (loadVar_run hty w' (x.env loc).blk off ((((us.drop (i * sz)).take sz).drop f).take sz0) (fun j u hj => by
        rw [List.getElem?_take] at hj
        split at hj
        · exact hcell w' ag j u hj
        · cases hj)).1 rfl hlen
      simp [execOp, ho, Instr.loadAt, e, Instr.sureAddr, this]
  | false =>
    simp only [cond_false] at hv
    generalize hrf : r.drop f = rf at hv hrep hrl
    cases rf with
    | nil => cases hv
    | cons d ds =>
      simp only [List.head?_cons, Option.some.injEq] at hv
      subst hv
      obtain ⟨u, us', e1, e2, _⟩ := hrep
      refine ⟨u, e2, fun w' ag => ?_⟩
      have ag := ag.resolve_left (by rw [ho]; exact Bool.false_ne_true)
      have := (loadVar_run hty w' (x.env loc).blk off [u] (fun j y hj => by
        cases j with
        | zero => simp at hj; subst hj; exact hcell w' ag 0 _ (by rw [e1]; rfl)
        | succ j => simp at hj)).2 rfl u rfl
      simp [execOp, ho, Instr.loadAt, e, Instr.sureAddr, this]

/-- A store into an owned slice's array. -/
theorem do_store_arr (hT : okTab P T = true) {t sz0 bytes loc ver off U sz i f : Nat} {agg : Bool} {a b : Operand} {rows : List (List DV)} {r ds : List DV} (ho : o.op = .store t a b) (hd : o.dst = none) (ht : find1 T.ty t = some (sz0, bytes, agg)) (ha : aget fr a = .ptr loc ver off)
    (hl : σ[loc]? = some (.arr U sz ver rows)) (hr : rows[i]? = some r) (hoff : i * sz + f = off) (h1 : oneA (aget fr b) = true) (h2 : allD (cellsA (aget fr b)) = some ds) (h3 : Nat.beq ds.length sz0 = true) (h4 : f + sz0 ≤ sz)
    (hn : next fr (σ.set loc (.arr U sz ver (rows.set i (spliceL r f ds))))) : DoOp P nt o fr σ false next := by
  refine do_skip hd hn fun k x A w s => ?_
  have h3 := Nat.eq_of_beq_eq_true h3
  obtain ⟨r1, r2⟩ := cellsA_rep (s.arg b) h1
  rw [allD_map h2] at r1
  have r1 := r1.toD
  have hra := s.arg a
  rw [ha] at hra
  obtain ⟨_, _, ad, e, hc⟩ := hra
  obtain ⟨g, g1, g2, g3, g4⟩ := s.heap.own
  have hobj := g1 loc _ hl
  obtain ⟨hver, hobj'⟩ := hobj
  have had := hc hver.symm
  subst had
  have hlt : i < rows.length := (List.getElem?_eq_some_iff.1 hr).1
  rcases hobj' with ⟨_, h0⟩ | ⟨hlive, us, rest, hb, hf, ho1, hc1, hc2, hc3⟩
  · subst h0; simp at hlt
  have hus := hf.len
  have hvl := r1.len
  have hsz : (A.eval b).cells.size = sz0 := by simpa [h3] using hvl
  have hin : off + sz0 ≤ us.length := by
    have h5 : (i + 1) * sz ≤ us.length := (hf.getF hr).2.2
    rw [Nat.add_mul] at h5
    omega
  have hrun := run_storeCells_at P (x.env loc).blk off U (A.eval b).cells.toList 0 (us ++ rest).toArray w (g2 loc _ _ hb) (by simp; omega) r2
  generalize hw2 : w.setRow (x.env loc).blk ((us ++ rest).toArray.toList.take (off + 0) ++ (A.eval b).cells.toList ++ (us ++ rest).toArray.toList.drop (off + 0 + (A.eval b).cells.toList.length)).toArray = w2 at hrun
  have hspl : (us ++ rest).take (off + 0) ++ (A.eval b).cells.toList ++ (us ++ rest).drop (off + 0 + (A.eval b).cells.toList.length) = spliceL us off (A.eval b).cells.toList ++ rest := by
    unfold spliceL
    rw [Nat.add_zero, List.take_append_of_le_length (by omega), List.drop_append_of_le_length (by simp; omega)]
    simp
  have hnew : w2.heap[(x.env loc).blk]? = some (.cells (spliceL us off (A.eval b).cells.toList ++ rest).toArray U (0, 0)) := by
    rw [← hw2, setRow_heap w _ (us ++ rest).toArray _ U (0, 0) (g2 loc _ _ hb)]
    simp only [List.toList_toArray]
    rw [hspl]
  have hx : CtxExt x (x.upd loc (x.env loc)) := Ctx.upd_ext (Nat.le_refl _) fun _ => ⟨rfl, rfl, rfl⟩
  refine ⟨w2, x.upd loc (x.env loc), ?_, hx, s.heap.upd hl hx fun g0 hg0 hle0 => ⟨⟨oneFrag (x.env loc).blk (.cells (spliceL us off (A.eval b).cells.toList ++ rest).toArray U (0, 0)), ?_, ?_, ?_⟩, ?_⟩, ?_, fun h => by cases h⟩
  · unfold execOp
    simp [ho, Instr.storeAt, e, Instr.sureAddr, storeVar, (T.tyIs hT ht).size_run w, hsz, hrun]
  · refine ⟨hver, .inr ⟨hlive, spliceL us off (A.eval b).cells.toList, rest, by simp [oneFrag], ?_, ?_, by simpa using hc1, hc2, ?_⟩⟩
    · rw [← hoff]
      exact (hf.splice hr r1 (by omega)).mono hx.F
    · intro y hy
      unfold spliceL at hy
      simp only [List.mem_append] at hy
      rcases hy with (hy | hy) | hy
      · exact ho1 y (List.mem_of_mem_take hy)
      · exact r2 y hy
      · exact ho1 y (List.mem_of_mem_drop hy)
    · have : (spliceL us off (A.eval b).cells.toList).length = us.length := by
        unfold spliceL; simp; omega
      rw [this]; exact hc3
  · intro c ob hb
    unfold oneFrag at hb
    split at hb
    · rename_i hcb; injection hb with hb; subst hcb hb; exact hnew
    · cases hb
  · intro c hc
    left
    unfold oneFrag at hc
    split at hc
    · rename_i hcb
      subst hcb
      obtain ⟨_, ⟨q0, _⟩ | ⟨_, us', rest', q1, _⟩⟩ := hg0
      · rw [hlive] at q0; cases q0
      · rw [q1]; simp
    · exact absurd rfl hc
  · intro c hc hlt
    rw [← hw2]
    refine setRow_other w _ c _ fun q => ?_
    subst q
    obtain ⟨_, ⟨q0, _⟩ | ⟨_, us', rest', q1, _⟩⟩ := hg0
    · rw [hlive] at q0; cases q0
    · rw [hc] at q1; cases q1
  · rw [← hw2]
    exact ⟨s.calm.os, s.calm.tape, s.calm.output⟩
end

section
variable {P : Program} {T : Tab} {Z : TabZ} {nt : Nat} {Q : Exit → Fr → List AObj → Prop} {next : Fr → List AObj → Prop} {fr : Fr} {σ σ' : List AObj} {ops : Array Oper} {dr : Bool} {dos ends : List Nat} {l : Trr} {i d : Nat} {o : Oper} {v : AV}
variable {dst : Option Tmp} {op : Op} {ty : TypeId} {pos : String} {aft : Array Edge} {gd : Option (Nat × Bool)}

theorem s_idxO (off' : Nat) (hT : okTab P T = true) {t e sz bytes loc ver off len : Nat} {agg : Bool} {a b : Operand} {k : IntKind} {j : Nat} {U : TypeId} {rows : List (List DV)} (hp : dr = dr) (hg : guardB ops fr gd = some true) (ht : Nat.blt d nt = true) (hs : find1 T.sl t = some e) (he : find1 T.ty e = some (sz, bytes, agg)) (ha : aget fr a = .own loc ver sz off len) (hb : aget fr b = .d (.v (.int k (j : Int)))) (hl : σ[loc]? = some (.arr U sz ver rows)) (hj : j < len ∧ (off + j) * sz = off') (h : AL P nt ops dr dos ends l Q ((d, .ptr loc ver off') :: fr) σ) : ALo P nt ops dr dos ends i ⟨some d, .indexAddr t a b, ty, pos, aft, gd⟩ l Q fr σ := by
  obtain ⟨h1, rfl⟩ := hj
  exact ⟨fun ho => s_read ho hp hg ht (rd_index_own hT rfl hs he ha hb h1 hl) h⟩
theorem s_ldA (j f : Nat) (hT : okTab P T = true) {t sz0 bytes loc ver off U sz : Nat} {agg : Bool} {a : Operand} {rows : List (List DV)} {r : List DV} {y : DV} (hp : dr = dr) (hg : guardB ops fr gd = some true) (ht : Nat.blt d nt = true) (hy : find1 T.ty t = some (sz0, bytes, agg)) (ha : aget fr a = .ptr loc ver off) (hl : σ[loc]? = some (.arr U sz ver rows)) (hr : rows[j]? = some r) (hoff : j * sz + f = off) (hv : ldDO agg sz0 (r.drop f) = some y) (h : AL P nt ops dr dos ends l Q ((d, .d y) :: fr) σ) : ALo P nt ops dr dos ends i ⟨some d, .load t a, ty, pos, aft, gd⟩ l Q fr σ :=
  ⟨fun ho => s_read ho hp hg ht (rd_load_arr hT rfl hy ha hl hr hoff (ldDO_eq hv)) h⟩
theorem s_stA (j f : Nat) (hT : okTab P T = true) {t sz0 bytes loc ver off U sz : Nat} {agg : Bool} {a b : Operand} {rows rows' : List (List DV)} {r ds : List DV} (hp : (dr && !dos.contains i) = false) (hg : guardB ops fr gd = some true) (hk : (dr && !ends.contains i && !false) = false) (hy : find1 T.ty t = some (sz0, bytes, agg)) (ha : aget fr a = .ptr loc ver off) (h1 : oneA (aget fr b) = true) (h2 : allD (cellsA (aget fr b)) = some ds) (h3 : Nat.beq ds.length sz0 = true) (hl : σ[loc]? = some (.arr U sz ver rows)) (hr : rows[j]? = some r) (hoff : j * sz + f = off) (h4 : f + sz0 ≤ sz) (h5 : rows.set j (spliceL r f ds) = rows') (h : ∀ σ', Chg σ loc (.arr U sz ver rows') σ' → AL P nt ops dr dos ends l Q fr σ') : ALo P nt ops dr dos ends i ⟨none, .store t a b, ty, pos, aft, gd⟩ l Q fr σ := by
  subst h5
  exact ⟨fun ho => s_do (keep := false) ho hp hg hk (do_store_arr hT rfl rfl hy ha hl hr hoff h1 h2 h3 h4 (h _ (chg_set hl)))⟩

theorem s_allocF (hZ : okTabZ P Z = true) {t : Nat} {z : List Value} {c : List AV} (hp : (dr && !dos.contains i) = false) (hg : guardB ops fr gd = some true) (hk : (dr && !ends.contains i && !true) = false) (ht : Nat.blt d nt = true) (hz : find1 Z.zs t = some z) (hs : seqL (z.map constAV) some = some c) (h : ∀ loc σ', Fresh σ loc (.row t c) σ' → AL P nt ops dr dos ends l Q ((d, .ptr loc 0 0) :: fr) σ') : ALo P nt ops dr dos ends i ⟨some d, .alloc t, ty, pos, aft, gd⟩ l Q fr σ := by
  refine ⟨fun ho => s_do (keep := true) ho hp hg hk ?_⟩
  rw [seqL_eq] at hs
  injection hs with hs
  subst hs
  exact do_alloc (TabZ.z hZ hz) rfl ht (h _ _ (fresh_app _ _))
theorem s_boxF {t : Nat} {a : Operand} {c : List AV} (hp : (dr && !dos.contains i) = false) (hg : guardB ops fr gd = some true) (hk : (dr && !ends.contains i && !true) = false) (ht : Nat.blt d nt = true) (h1 : oneA (aget fr a) = true) (hs : seqL (cellsA (aget fr a)) some = some c) (h : ∀ loc σ', Fresh σ loc (.row t c) σ' → AL P nt ops dr dos ends l Q ((d, .ptr loc 0 0) :: fr) σ') : ALo P nt ops dr dos ends i ⟨some d, .box t a, ty, pos, aft, gd⟩ l Q fr σ := by
  refine ⟨fun ho => s_do (keep := true) ho hp hg hk ?_⟩
  rw [seqL_eq] at hs
  injection hs with hs
  subst hs
  exact do_box rfl ht h1 (h _ _ (fresh_app _ _))
theorem s_storeF (hT : okTab P T = true) {t sz bytes loc off : Nat} {agg : Bool} {a b : Operand} {U : TypeId} {cells c : List AV} (hp : (dr && !dos.contains i) = false) (hg : guardB ops fr gd = some true) (hk : (dr && !ends.contains i && !false) = false) (ha : aget fr a = .ptr loc 0 off) (hy : find1 T.ty t = some (sz, bytes, agg)) (h1 : oneA (aget fr b) = true) (h2 : Nat.beq (cellsA (aget fr b)).length sz = true) (hs : σ[loc]? = some (.row U cells)) (h3 : Nat.ble (off + sz) cells.length = true) (hσ : seqL (spliceL cells off (cellsA (aget fr b))) some = some c) (h : ∀ σ', Chg σ loc (.row U c) σ' → AL P nt ops dr dos ends l Q fr σ') : ALo P nt ops dr dos ends i ⟨none, .store t a b, ty, pos, aft, gd⟩ l Q fr σ := by
  refine ⟨fun ho => s_do (keep := false) ho hp hg hk ?_⟩
  rw [seqL_eq] at hσ
  injection hσ with hσ
  subst hσ
  exact do_store hT rfl rfl hy ha hs h1 (Nat.eq_of_beq_eq_true h2) h3 (h _ (chg_set hs))
theorem s_ldF (hT : okTab P T = true) {t sz bytes U loc off : Nat} {agg : Bool} {a : Operand} {cells : List AV} (hp : dr = dr) (hg : guardB ops fr gd = some true) (ht : Nat.blt d nt = true) (ha : aget fr a = .ptr loc 0 off) (hy : find1 T.ty t = some (sz, bytes, agg)) (hs : σ[loc]? = some (.row U cells)) (hv : ldAO agg sz off cells = some v) (h : AL P nt ops dr dos ends l Q ((d, v) :: fr) σ) : ALo P nt ops dr dos ends i ⟨some d, .load t a, ty, pos, aft, gd⟩ l Q fr σ := s_ld_p hT hp hg ht ha hy hs hv h

end

/-- A nil slice in a row becomes an owned one. -/
theorem ghost_adopt_cell {fr : Fr} {σ : List AObj} {loc j t U sz : Nat} {cells : List AV} (hl : σ[loc]? = some (.row t cells)) (hj : cells[j]? = some (.d .nil)) :
    Ghost fr σ fr ((σ ++ [AObj.arr U sz 0 []]).set loc (.row t (cells.set j (.own σ.length 0 sz 0 0)))) := by
  intro k x nt A w s
  have hh := s.heap
  obtain ⟨g, g1, g2, g3, g4⟩ := hh.own
  have hx := x.push_ext ⟨0, 0, 0, false⟩
  have hll := (List.getElem?_eq_some_iff.1 hl).1
  have hn := hh.n
  refine ⟨_, hx, s.size, s.defers, fun i => (s.tmps i).ext hx, ⟨hh.hF, hh.hR, by simp [Ctx.push, hh.n], hh.FR, fun l => if l = x.n then fun _ => none else g l, fun l o' hl' => ?_, fun l => ?_, fun l k hlk => ?_, fun l => ?_⟩, s.calm⟩
  · by_cases e : l = x.n
    · subst e
      rw [List.getElem?_set_ne (by omega), hn, List.getElem?_concat_length] at hl'
      injection hl' with hl'
      subst hl'
      exact ⟨by simp [Ctx.push], .inl ⟨by simp [Ctx.push], rfl⟩⟩
    · (try dsimp only)
      rw [if_neg e]
      have he : (x.push ⟨0, 0, 0, false⟩).env l = x.env l := by simp [Ctx.push, e]
      rw [he]
      by_cases e2 : l = loc
      · subst e2
        rw [List.getElem?_set_self (by simp; omega)] at hl'
        injection hl' with hl'
        subst hl'
        obtain ⟨hv, us, h1, h2, h3⟩ := g1 l _ hl
        refine ⟨hv, us, h1, ?_, h3⟩
        replace h2 := ALRep.ext hx h2
        clear h1 h3 hl
        induction cells generalizing us j with
        | nil => simp at hj
        | cons c cs ih =>
          obtain ⟨u, us', e3, r, q⟩ := h2
          cases j with
          | zero =>
            simp at hj
            subst hj
            obtain ⟨a, ha⟩ := r
            refine ⟨u, us', e3, ?_, q⟩
            rw [ha]
            refine ⟨by simp [Ctx.push, hn], by simp, a, 0, rfl, fun _ => ⟨Nat.le_refl _, fun q => ?_, fun _ => rfl⟩⟩
            simp [Ctx.push, hn] at q
          | succ j => exact ⟨u, us', e3, r, ih (by simpa using hj) _ q⟩
      · have hlt : l < σ.length := by
          rw [List.getElem?_set_ne (Ne.symm e2)] at hl'
          have := (List.getElem?_eq_some_iff.1 hl').1
          simp at this
          omega
        rw [List.getElem?_set_ne (Ne.symm e2), List.getElem?_append_left hlt] at hl'
        exact (g1 l o' hl').ext hx
  · (try dsimp only)
    split
    · intro b o e; cases e
    · exact g2 l
  · (try dsimp only)
    split
    · exact fun b => .inl rfl
    · split
      · exact fun b => .inr rfl
      · exact g3 l k hlk
  · (try dsimp only)
    split
    · exact ⟨fun b => .inl rfl, fun b => .inl rfl⟩
    · exact g4 l

/-! A call over frozen data, owned slices lent to it. -/
section
variable {P : Program} {nt : Nat} {fr : Fr} {σ : List AObj} {o : Oper} {next : Fr → List AObj → Prop} {keep : Bool}

end

section
variable {P : Program} {nt : Nat} {Q : Exit → Fr → List AObj → Prop} {fr : Fr} {σ : List AObj} {ops : Array Oper} {dr : Bool} {dos ends : List Nat} {l : Trr} {i d : Nat}
variable {ty : TypeId} {pos : String} {aft : Array Edge} {gd : Option (Nat × Bool)}
end

section
variable {P : Program} {T : Tab} {Z : TabZ} {nt : Nat} {Q : Exit → Fr → List AObj → Prop} {fr : Fr} {σ σ' : List AObj} {ops : Array Oper} {dr : Bool} {dos ends : List Nat} {l : Trr} {i d : Nat} {o : Oper}
variable {dst : Option Tmp} {op : Op} {ty : TypeId} {pos : String} {aft : Array Edge} {gd : Option (Nat × Bool)}

theorem rd_rem {t t' : TypeId} {a b : Operand} {k : IntKind} {m n : Int} (ho : o.op = .binOp .rem t a b t') (ha : aget fr a = .d (.v (.int k m))) (hb : aget fr b = .d (.v (.int k n))) (hn : n ≠ 0) : RdOp P o fr σ (.d (.v (.int k (m.tmod n)))) := by
  intro x c nt A w s
  have h1 := s.arg a
  have h2 := s.arg b
  rw [ha] at h1
  rw [hb] at h2
  obtain ⟨e1, _⟩ := h1
  obtain ⟨e2, _⟩ := h2
  refine ⟨_, ⟨rfl, rfl⟩, fun w' _ => ?_⟩
  unfold execOp
  simp [ho, e1, e2, eqGuard, binOp, Op.intDiv, hn]
theorem s_remV (r : Int) {t t' : TypeId} {a b : Operand} {k : IntKind} {m n : Int} (hp : dr = dr) (hg : guardB ops fr gd = some true) (ht : Nat.blt d nt = true) (ha : aget fr a = .d (.v (.int k m))) (hb : aget fr b = .d (.v (.int k n))) (hv : n ≠ 0 ∧ m.tmod n = r) (h : AL P nt ops dr dos ends l Q ((d, .d (.v (.int k r))) :: fr) σ) : ALo P nt ops dr dos ends i ⟨some d, .binOp .rem t a b t', ty, pos, aft, gd⟩ l Q fr σ := by
  obtain ⟨h1, rfl⟩ := hv
  exact ⟨fun ho => s_read ho hp hg ht (rd_rem rfl ha hb h1) h⟩

/-- A nil slice in a row becomes an owned one. -/
structure AdoptC (σ : List AObj) (loc : Nat) (t : TypeId) (c : List AV) (L U sz : Nat) (σ' : List AObj) : Prop where
  row : σ'[loc]? = some (.row t c)
  arr : σ'[L]? = some (.arr U sz 0 [])
  ne : L ≠ loc
  keep' : ∀ k o, σ[k]? = some o → k ≠ loc → σ'[k]? = some o
  fresh : ∀ k o, σ[k]? = some o → k ≠ L
theorem AdoptC.keep {loc t L U sz k : Nat} {c : List AV} {o : AObj} (h : AdoptC σ loc t c L U sz σ') (hk : k ≠ loc) (e : σ[k]? = some o) : σ'[k]? = some o := h.keep' k o e hk
end
end Go.Proofs.Ytciciaikajdenaa
