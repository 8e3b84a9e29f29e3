/- XAlAl2: Al, Al2 in one. -/
import Derived.Test.YtjflembhgjcgkaaXAhAiAj
set_option linter.unusedSimpArgs false
set_option linter.unusedVariables false
/- Al: a slice that is written out, owned. -/
namespace Go.Proofs.Ytjflembhgjcgkaa
open Go.RowKit

section
variable {P : Program} {T : Tab} {Z : TabZ} {nt : Nat} {Q : Exit → Fr → List AObj → Prop} {fr : Fr} {σ : List AObj} {ops : Array Oper} {dr : Bool} {dos ends : List Nat} {l : Trr} {o : Oper} {i d : Nat} {next : Fr → List AObj → Prop} {keep : Bool}
variable {ty : TypeId} {pos : String} {aft : Array Edge} {gd : Option (Nat × Bool)}

theorem do_litO (hT : okTab P T = true) {t e sz bytes len : Nat} {agg : Bool} {parts : Array (Nat × Operand)} {rows : List (List DV)} (ho : o.op = .buildSlice t len parts) (ht : dstOk o.dst nt = true) (hs : find1 T.sl t = some e) (he : find1 T.ty e = some (sz, bytes, agg)) {z : List Value} (hz : ZIs P e z)
    (hr : litRows sz (parts.toList.map fun p => (p.1, aget fr p.2)) 0 = some rows) (hl : Nat.beq parts.size len = true) (hb : Nat.ble (len * sz) 16777216 = true) (hlb : Nat.ble len 16777216 = true) (h : next (fput o.dst (.own σ.length 0 sz 0 rows.length) fr) (σ ++ [.arr e sz 0 rows])) : DoOp P nt o fr σ keep next := by
  refine do_value ht (fun v σ' => v = .own σ.length 0 sz 0 rows.length ∧ σ' = σ ++ [.arr e sz 0 rows]) (fun v σ' ⟨a, b⟩ => a ▸ b ▸ h) fun k x A w s => ?_
  obtain ⟨i, zv, e1, e2, e3⟩ := hz.ex
  have hl := Nat.eq_of_beq_eq_true hl
  have hb := Nat.le_of_ble_eq_true hb
  have hlb := Nat.le_of_ble_eq_true hlb
  have hrl : ∀ (l : List (Nat × AV)) (i : Nat) (rs : List (List DV)), litRows sz l i = some rs → rs.length = l.length := fun l => by
    induction l with
    | nil => intro i rs h; cases h; rfl
    | cons p l ih =>
      intro i rs h
      unfold litRows at h
      split at h
      · rename_i ds rs' _ hrs
        cases hc : (Nat.beq p.1 i && Nat.beq ds.length sz && oneA p.2) <;> rw [hc] at h <;> cases h
        simp [ih _ _ hrs]
      · cases h
  have hlen := hrl _ _ _ hr
  simp only [List.length_map, Array.length_toList] at hlen
  have hsz := (T.tyIs hT he).size_run w
  generalize hza : ((Array.range (len * sz)).map fun j => (if len * sz = 0 then (#[] : Array Value) else zv.cells)[j % (if len * sz = 0 then (#[] : Array Value) else zv.cells).size]!) = za
  have hzs : za.toList.length = parts.toList.length * sz := by rw [← hza]; simp [hl]
  obtain ⟨us, q1, q2, q3⟩ := fill_lit (x := x) sz (parts.toList.map fun p => (p.1, aget fr p.2)) (parts.toList.map fun p => (p.1, A.eval p.2)) 0 rows [] za.toList (by simp) (fun j p q hp hq => by
    simp only [List.getElem?_map, Option.map_eq_some_iff] at hp hq
    obtain ⟨y, hy, rfl⟩ := hp
    obtain ⟨y', hy', rfl⟩ := hq
    rw [hy] at hy'
    injection hy' with hy'
    subst hy'
    exact ⟨rfl, s.arg y.2⟩) hr (by simp) (by simpa using hzs)
  simp only [List.nil_append, Array.toArray_toList] at q1
  have hx := x.push_ext ⟨w.heap.size, rows.length, 0, true⟩
  refine ⟨.slice (some ⟨w.heap.size, 0, none⟩) rows.length rows.length, w.alloc (.cells us.toArray e), x.push ⟨w.heap.size, rows.length, 0, true⟩, _, _, ?_, hx, ?_, s.heap.new ?_, s.calm.alloc _, fun _ => agree_alloc _ _, rfl, rfl⟩
  · unfold execOp
    have hm : (parts.map fun p => (p.1, A.eval p.2)).toList = parts.toList.map fun p => (p.1, A.eval p.2) := by simp
    have hnot : ¬ (16777216 < len * sz) := by omega
    simp only [ho, Instr.buildSlice, Sem.run_bind, run_underlying (T.slIs hT hs), Result.andThen_ok, hsz]
    by_cases h0 : len * sz = 0
    · rw [if_pos h0] at hza
      simp [hnot, h0, hm] at q1 hza ⊢
      subst hza
      simp [q1, newRow, hlen, hl]
    · rw [if_neg h0] at hza
      simp [hnot, h0, hm, zeroValue, run_typeInfo w e1, e2] at q1 hza ⊢
      rw [hza]
      simp [q1, newRow, hlen, hl]
  · refine ⟨by simp [Ctx.push, s.heap.n], by simp, _, rows.length, rfl, fun _ => ⟨Nat.le_refl _, fun _ => ?_, fun q => ?_⟩⟩
    · simp [Ctx.push, s.heap.n]
    · simp [Ctx.push, s.heap.n] at q
  · refine ⟨rfl, .inr ⟨rfl, us, [], ?_, q2.mono hx.F, q3, Nat.le_refl _, by show rows.length ≤ maxLen; unfold maxLen; omega, ?_⟩⟩
    · simp [oneFrag]
    · rw [q2.len]; simp
/-- A slice that is written out is owned. -/
theorem s_litO (hT : okTab P T = true) (hZ : okTabZ P Z = true) {t e sz bytes len m : Nat} {agg : Bool} {parts : Array (Nat × Operand)} {rows : List (List DV)} {z : List Value} (hp : (dr && !dos.contains i) = false) (hg : guardB ops fr gd = some true) (hk : (dr && !ends.contains i && !true) = false) (ht : Nat.blt d nt = true) (hs : find1 T.sl t = some e) (he : find1 T.ty e = some (sz, bytes, agg)) (hz : find1 Z.zs e = some z)
    (hr : litRows sz (parts.toList.map fun p => (p.1, aget fr p.2)) 0 = some rows) (hl : Nat.beq parts.size len = true) (hb : Nat.ble (len * sz) 16777216 = true) (hlb : Nat.ble len 16777216 = true) (hm : rows.length = m)
    (h : ∀ loc σ', Fresh σ loc (.arr e sz 0 rows) σ' → AL P nt ops dr dos ends l Q ((d, .own loc 0 sz 0 m) :: fr) σ') : ALo P nt ops dr dos ends i ⟨some d, .buildSlice t len parts, ty, pos, aft, gd⟩ l Q fr σ := by
  subst hm
  refine ⟨fun ho => s_do (keep := true) ho hp hg hk ?_⟩
  exact do_litO hT rfl ht hs he (TabZ.z hZ hz) hr hl hb hlb (h _ _ (fresh_app _ _))

/-- An owned slice in a row's cell becomes frozen. -/
theorem ghost_freezeC {loc j t locC U sz ver n : Nat} {cells : List AV} {rows : List (List DV)} (hl : σ[loc]? = some (.row t cells)) (hj : cells[j]? = some (.own locC ver sz 0 n)) (hC : σ[locC]? = some (.arr U sz ver rows)) (hn : n = rows.length) :
    Ghost fr σ fr ((σ.set locC .dead).set loc (.row t (cells.set j (.d (.lst sz rows))))) := by
  intro k x nt A w s
  have hne : locC ≠ loc := fun e => by rw [e, hl] at hC; cases hC
  obtain ⟨f, ho, hd, hh⟩ := s.heap.freeze hC
  have hx : CtxExt x (x.frz (Un x.F f)) := Ctx.frz_ext (Le.un_left _ _)
  have hl2 : (σ.set locC .dead)[loc]? = some (.row t cells) := by rw [List.getElem?_set_ne hne]; exact hl
  have hx2 : CtxExt (x.frz (Un x.F f)) ((x.frz (Un x.F f)).upd loc ((x.frz (Un x.F f)).env loc)) := Ctx.upd_ext (Nat.le_refl _) fun _ => ⟨rfl, rfl, rfl⟩
  refine ⟨_, hx.trans hx2, s.size, s.defers, fun i => (s.tmps i).ext (hx.trans hx2), hh.upd hl2 hx2 fun g0 hg0 hle => ⟨⟨g0, ?_, hle, fun b hb => .inl hb⟩, fun b _ _ => rfl⟩, s.calm⟩
  obtain ⟨hv, us, h1, h2, h3⟩ := hg0
  refine ⟨hv, us, h1, ?_, h3⟩
  have key : ∀ u, ARep x (.own locC ver sz 0 n) u → DRep (Un x.F f) (.lst sz rows) u := fun u hu => asD_rep hu ⟨rfl, U, rows, hC, by simp [hn], by omega⟩ hC ho hd
  clear h1 h3 hl hl2 hh
  have h2' : ALRep (x.frz (Un x.F f)) cells us := h2
  clear h2
  induction cells generalizing us j with
  | nil => simp at hj
  | cons c cs ih =>
    obtain ⟨u, us', e3, r, q⟩ := h2'
    cases j with
    | zero =>
      simp at hj
      subst hj
      exact ⟨u, us', e3, key u r, q.ext hx2⟩
    | succ j => exact ⟨u, us', e3, r.ext hx2, ih (by simpa using hj) _ q⟩
structure FrzC (σ : List AObj) (loc : Nat) (t : TypeId) (c : List AV) (L : Nat) (σ' : List AObj) : Prop where
  row : σ'[loc]? = some (.row t c)
  keep' : ∀ k o, σ[k]? = some o → k ≠ loc → k ≠ L → σ'[k]? = some o
theorem frzC {loc j t locC U sz ver : Nat} {cells : List AV} {rows : List (List DV)} (hl : σ[loc]? = some (.row t cells)) (hC : σ[locC]? = some (.arr U sz ver rows)) : FrzC σ loc t (cells.set j (.d (.lst sz rows))) locC ((σ.set locC .dead).set loc (.row t (cells.set j (.d (.lst sz rows))))) :=
  ⟨by rw [List.getElem?_set_self (by simp; exact (List.getElem?_eq_some_iff.1 hl).1)], fun k o e h1 h2 => by rw [List.getElem?_set_ne (Ne.symm h1), List.getElem?_set_ne (Ne.symm h2)]; exact e⟩
theorem w_freezeC {c : Code} (loc j : Nat) {t locC U sz ver n : Nat} {cells : List AV} {rows : List (List DV)} (hl : σ[loc]? = some (.row t cells)) (hj : cells[j]? = some (.own locC ver sz 0 n)) (hC : σ[locC]? = some (.arr U sz ver rows)) (hn : n = rows.length)
    (h : ∀ σ', FrzC σ loc t (cells.set j (.d (.lst sz rows))) locC σ' → AWk P nt c Q fr σ') : AWk P nt c Q fr σ :=
  aw_ghost (ghost_freezeC hl hj hC hn) (h _ (frzC hl hC))
theorem o_freezeC (loc j : Nat) {t locC U sz ver n : Nat} {cells : List AV} {rows : List (List DV)} (hl : σ[loc]? = some (.row t cells)) (hj : cells[j]? = some (.own locC ver sz 0 n)) (hC : σ[locC]? = some (.arr U sz ver rows)) (hn : n = rows.length)
    (h : ∀ σ', FrzC σ loc t (cells.set j (.d (.lst sz rows))) locC σ' → ALo P nt ops dr dos ends i o l Q fr σ') : ALo P nt ops dr dos ends i o l Q fr σ :=
  ⟨fun ho => al_ghost (ghost_freezeC hl hj hC hn) ((h _ (frzC hl hC)).out ho)⟩
end
end Go.Proofs.Ytjflembhgjcgkaa

/- Al2: a field of a struct that stands in no memory. -/
namespace Go.Proofs.Ytjflembhgjcgkaa
open Go.RowKit

section
variable {P : Program} {T : Tab} {Z : TabZ} {nt : Nat} {Q : Exit → Fr → List AObj → Prop} {fr : Fr} {σ : List AObj} {ops : Array Oper} {dr : Bool} {dos ends : List Nat} {l : Trr} {o : Oper} {i d : Nat}
variable {ty : TypeId} {pos : String} {aft : Array Edge} {gd : Option (Nat × Bool)}
theorem rd_field (hT : okTab P T = true) {s f off bytes : Nat} {a : Operand} {cells : List DV} {y : DV} (ho : o.op = .field s a f) (hf : ∃ fs fd, P.underlying s = some (.struct fs) ∧ fs[f]? = some fd ∧ fd.offset = off ∧ find1 T.ty fd.type = some (1, bytes, false)) (ha : aget fr a = .d (.agg cells)) (hy : cells[off]? = some y) : RdOp P o fr σ (.d y) := by
  intro k x nt A w h
  obtain ⟨fs, fd, e1, e2, e3, e4⟩ := hf
  have hr := h.arg a
  rw [ha] at hr
  obtain ⟨us, e, hl, h1⟩ := hr
  have key : ∀ {ds : List DV} {us : List Value} {n : Nat} {y : DV}, LRep x.F ds us → ds[n]? = some y → ∃ u, us[n]? = some u ∧ DRep x.F y u := fun {ds} => by
    induction ds with
    | nil => intro us n y _ hn; simp at hn
    | cons d ds ih =>
      intro us n y hl hn
      obtain ⟨u, us', rfl, r, q⟩ := hl
      cases n with
      | zero => simp at hn; subst hn; exact ⟨u, rfl, r⟩
      | succ n => obtain ⟨u', h1, h2⟩ := ih q (by simpa using hn); exact ⟨u', by simpa using h1, h2⟩
  obtain ⟨u, hu, hr⟩ := key hl hy
  refine ⟨u, hr, fun w' _ => ?_⟩
  have hag := (T.tyIs hT e4).agg_run w'
  simp [execOp, ho, Instr.field, run_underlying e1, e2, e, asAgg, part, hag, e3, hu]
theorem s_field (hT : okTab P T = true) (off bytes : Nat) {s f : Nat} {a : Operand} {cells : List DV} {y : DV} (hp : dr = dr) (hg : guardB ops fr gd = some true) (ht : Nat.blt d nt = true) (ha : aget fr a = .d (.agg cells)) (hf : ∃ fs fd, P.underlying s = some (.struct fs) ∧ fs[f]? = some fd ∧ fd.offset = off ∧ find1 T.ty fd.type = some (1, bytes, false)) (hy : cells[off]? = some y) (h : AL P nt ops dr dos ends l Q ((d, .d y) :: fr) σ) : ALo P nt ops dr dos ends i ⟨some d, .field s a f, ty, pos, aft, gd⟩ l Q fr σ :=
  ⟨fun ho => s_read ho hp hg ht (rd_field hT rfl hf ha hy) h⟩
end
end Go.Proofs.Ytjflembhgjcgkaa
