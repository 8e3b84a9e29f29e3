/- NT: append to the front part of an owned slice; a slice with a said capacity; the end of a slice. -/
import Derived.Test.YtciciaikajdenaaQNA
import Derived.Test.YtciciaikajdenaaQNVx2
set_option linter.unusedSimpArgs false
set_option linter.unusedVariables false
namespace Go.Proofs.Ytciciaikajdenaa
open Go.RowKit

section
variable {P : Program} {T : Tab} {Z : TabZ} {nt : Nat} {Q : Exit → Fr → List AObj → Prop} {next : Fr → List AObj → Prop} {fr : Fr} {σ σ' : List AObj} {ops : Array Oper} {dr : Bool} {dos ends : List Nat} {l : Trr} {i d : Nat} {o : Oper} {v : AV}
variable {dst : Option Tmp} {op : Op} {ty : TypeId} {pos : String} {aft : Array Edge} {gd : Option (Nat × Bool)}
theorem arr_ownT {x : Ctx} {U : TypeId} {sz ver n loc : Nat} {rows : List (List DV)} {g : Frag} {v : Value} (ho : ORep x (x.env loc) (.arr U sz ver rows) g) (hn : n ≤ rows.length) (ha : ARep x (.own loc ver sz 0 n) v) :
    ∃ us, FRep x.F sz (rows.take n) us ∧ (∀ u ∈ us, u.oneCell' = true) ∧ ownS U sz v n us g := by
  obtain ⟨hv, ho⟩ := ho
  obtain ⟨hl, _, a, cap, e, hq⟩ := ha
  obtain ⟨q1, q2, q3⟩ := hq hv.symm
  subst e
  rcases ho with ⟨hlive, rfl⟩ | ⟨hlive, us, rest, hb, hf, h1, hc1, hc2, hc3⟩
  · have h0 : n = 0 := by simpa using hn
    subst h0
    refine ⟨[], rfl, by simp, by simp, .inl ⟨⟨a, ?_⟩, rfl⟩⟩
    rw [q3 hlive]
  · obtain ⟨rfl, hcap⟩ := q2 hlive
    have hus := hf.len
    have hmul : n * sz ≤ rows.length * sz := Nat.mul_le_mul_right sz hn
    have hlt : (us.take (n * sz)).length = n * sz := by rw [List.length_take]; omega
    refine ⟨us.take (n * sz), hf.take n, fun u hu => h1 u (List.mem_of_mem_take hu), hlt, .inr ⟨(x.env loc).blk, cap, us.drop (n * sz) ++ rest, by simp, q1, Nat.le_trans (by omega) hc2, ?_, ?_⟩⟩
    · rw [hlt, List.length_append, List.length_drop]
      have := Nat.mul_le_mul_right sz (show cap ≤ (x.env loc).cap by omega)
      omega
    · rw [hb, ← List.append_assoc, List.take_append_drop]
theorem do_appendT (hT : okTab P T = true) {t tx sz bytes loc ver : Nat} {agg : Bool} {a b : Operand} {U : TypeId} {rows rows2 : List (List DV)} {n : Nat} (ho : o.op = .call { callee := .builtin .append, args := #[a, b], argTypes := #[t, tx] }) (ht : dstOk o.dst nt = true)
    (hs : find1 T.sl t = some U) (he : find1 T.ty U = some (sz, bytes, agg)) {z : List Value} (hz : ZIs P U z) (hzl : Nat.beq z.length sz = true) (ha : aget fr a = .own loc ver sz 0 n) (hl : σ[loc]? = some (.arr U sz ver rows)) (hn : n ≤ rows.length) (hb : SrcOk P fr σ U tx sz b rows2)
    (h63 : n + rows2.length ≤ maxLen) (hbytes : (n + rows2.length) * bytes ≤ 140737488355328)
    (hnx : next (fput o.dst (.own loc (ver + 1) sz 0 (n + rows2.length)) fr) (σ.set loc (.arr U sz (ver + 1) (rows.take n ++ rows2)))) : DoOp P nt o fr σ false next := by
  refine do_value ht (fun v σ' => v = .own loc (ver + 1) sz 0 (n + rows2.length) ∧ σ' = σ.set loc (.arr U sz (ver + 1) (rows.take n ++ rows2))) (fun v σ' ⟨a, b⟩ => a ▸ b ▸ hnx) fun k x A w s => ?_
  have hzl := Nat.eq_of_beq_eq_true hzl
  have hty := T.tyIs hT he
  have hra := s.arg a
  rw [ha] at hra
  obtain ⟨i, d, e1, e2, e3, e4, e5⟩ := hty.ex
  obtain ⟨i', zv, z1, z2, z3⟩ := hz.ex
  rw [e1] at z1
  injection z1 with z1
  subst z1
  have hzs : zv.cells.size = i.size := by rw [e3, ← hzl, ← z3]; simp
  obtain ⟨news, hx, hf2⟩ := hb k x nt A w i zv s e1 z2 e3
  have h1 := hx.one
  subst e3
  subst e4
  obtain ⟨g, g1, g2, g3, g4⟩ := s.heap.own
  have core : ∀ g0, ORep x (x.env loc) (.arr U i.size ver rows) g0 → Le g0 (fun b => w.heap[b]?) → ∃ us v' w', FRep x.F i.size (rows.take n) us ∧ (∀ u ∈ us, u.oneCell' = true) ∧ (Builtin.append_ #[t, tx] o.type #[A.eval a, A.eval b]).run P w = .ok v' w' ∧ w'.os = w.os ∧ w'.tape = w.tape ∧ w'.output = w.output ∧
      (∃ f, ownS U i.size v' (n + rows2.length) (us ++ news) f ∧ Le f (fun b => w'.heap[b]?) ∧ ∀ b, f b ≠ none → g0 b ≠ none ∨ w.heap.size ≤ b) ∧ ∀ b, g0 b = none → b < w.heap.size → w'.heap[b]? = w.heap[b]? := fun g0 hg0 hle => by
    obtain ⟨us, f1, f2, f3⟩ := arr_ownT hg0 hn hra
    obtain ⟨v', w', c⟩ := append_coreX (ty := o.type) hle f3 (T.slIs hT hs) hzs hx h63 hbytes
    exact ⟨us, v', w', f1, f2, c⟩
  obtain ⟨us, v', w', f1, f2, hrun, c1, c2, c3, ⟨f, p, p1, p2⟩, c5⟩ := core (g loc) (g1 loc _ hl) (g2 loc)
  have hlen : n + rows2.length = (rows.take n ++ rows2).length := by rw [List.length_append, List.length_take]; omega
  have one : ∀ u ∈ us ++ news, u.oneCell' = true := fun u hu => (List.mem_append.1 hu).elim (f2 u) (h1 u)
  obtain ⟨_, ad, cap, ev, hcap, hlv, hdd, hver⟩ := own_arr (x := x) (ver := ver + 1) (f1.append hf2) one hlen p
  have hev : (x.env loc).ver = ver := (g1 loc _ hl).1
  have hxe : CtxExt x (x.upd loc (slotOf v' (ver + 1))) := Ctx.upd_ext (by rw [hver]; omega) fun q => by omega
  have hslot : (x.upd loc (slotOf v' (ver + 1))).env loc = slotOf v' (ver + 1) := by simp [Ctx.upd]
  refine ⟨v', w', _, _, _, ?_, hxe, ?_, s.heap.upd hl hxe (o' := .arr U i.size (ver + 1) (rows.take n ++ rows2)) fun g0 hg0 hle => ?_, ⟨c1.trans s.calm.os, c2.trans s.calm.tape, c3.trans s.calm.output⟩, (fun h => by cases h), rfl, rfl⟩
  · unfold execOp
    simp [ho, resolve, invoke, builtin, hrun]
  · refine ⟨hra.1, by rw [hslot, hver]; exact Nat.le_refl _, ad, cap, by rw [ev], fun _ => ⟨hcap, fun q => ?_, fun q => hdd (hslot ▸ q)⟩⟩
    rw [hslot] at q ⊢
    obtain ⟨q1, q2⟩ := hlv q
    rw [q1, q2]
    simp
  · obtain ⟨us', v2, w2, f1', f2', hrun', _, _, _, ⟨f', p', p1', p2'⟩, c5'⟩ := core g0 hg0 hle
    rw [hrun] at hrun'
    injection hrun' with e1 e2
    subst e1 e2
    have one' : ∀ u ∈ us' ++ news, u.oneCell' = true := fun u hu => (List.mem_append.1 hu).elim (f2' u) (h1 u)
    obtain ⟨q, _⟩ := own_arr (x := x) (ver := ver + 1) (f1'.append hf2) one' hlen p'
    exact ⟨⟨f', q.ext hxe, p1', p2'⟩, c5'⟩
/-- append to the front part of an owned slice: what stood behind it is gone. -/
theorem s_appT (hT : okTab P T = true) (hZ : okTabZ P Z = true) {t tx sz bytes loc ver : Nat} {agg : Bool} {a b : Operand} {U : TypeId} {rows rows2 rows3 : List (List DV)} {n m : Nat} {z : List Value} (hp : (dr && !dos.contains i) = false) (hg : guardB ops fr gd = some true) (hk : (dr && !ends.contains i && !false) = false) (ht : Nat.blt d nt = true) (ha : aget fr a = .own loc ver sz 0 n) (hs : find1 T.sl t = some U) (he : find1 T.ty U = some (sz, bytes, agg)) (hz : find1 Z.zs U = some z) (hzl : Nat.beq z.length sz = true) (hby : Nat.ble bytes 256 = true) (hl : σ[loc]? = some (.arr U sz ver rows)) (hb : SrcOk P fr σ U tx sz b rows2) (h3 : rows.take n ++ rows2 = rows3) (hn : n ≤ rows.length ∧ n + rows2.length ≤ 549755813888 ∧ n + rows2.length = m) (h : ∀ σ', Chg σ loc (.arr U sz (ver + 1) rows3) σ' → AL P nt ops dr dos ends l Q ((d, .own loc (ver + 1) sz 0 m) :: fr) σ') : ALo P nt ops dr dos ends i ⟨some d, .call { callee := .builtin .append, args := #[a, b], argTypes := #[t, tx] }, ty, pos, aft, gd⟩ l Q fr σ := by
  obtain ⟨h1, h2, h4⟩ := hn
  subst h3 h4
  refine ⟨fun ho => s_do (keep := false) ho hp hg hk ?_⟩
  exact do_appendT hT rfl ht hs he (TabZ.z hZ hz) hzl ha hl h1 hb (by unfold maxLen; omega) (by have := Nat.le_of_ble_eq_true hby; exact Nat.le_trans (Nat.mul_le_mul h2 this) (by omega)) (h _ (chg_set hl))
/-- A front part with a capacity said, of an owned slice. -/
theorem rd_slice_hm (hT : okTab P T = true) {t e sz bytes loc ver off len : Nat} {agg : Bool} {a hi mx : Operand} {kh km : IntKind} {h m : Int} {U : TypeId} {rows : List (List DV)} (ho : o.op = .slice t a none (some hi) (some mx)) (ht : find1 T.sl t = some e) (he : find1 T.ty e = some (sz, bytes, agg))
    (ha : aget fr a = .own loc ver sz off len) (hs : σ[loc]? = some (.arr U sz ver rows)) (hh : aget fr hi = .d (.v (.int kh h))) (hm : aget fr mx = .d (.v (.int km m))) (h0 : 0 ≤ h) (h1 : h ≤ m) (h2 : m ≤ len) :
    RdOp P o fr σ (.own loc ver sz off h.toNat) := by
  intro k x nt A w s
  have r := s.arg a
  rw [ha] at r
  have r2 := s.arg hi
  rw [hh] at r2
  have r3 := s.arg mx
  rw [hm] at r3
  obtain ⟨e2, _⟩ := r2
  obtain ⟨e3, _⟩ := r3
  obtain ⟨ad, cap, e1, hcap, q2, q3, hl1, hver⟩ := own_now s hs r
  refine ⟨sliced ad 0 h.toNat m.toNat sz, ?_, fun w' _ => ?_⟩
  · unfold sliced
    refine ⟨hl1, Nat.le_of_eq hver, if m.toNat = 0 then ad else ad.map (·.add (0 * sz)), m.toNat - 0, by simp, fun _ => ⟨by omega, fun hlive => ?_, fun hlive => by have := q3 hlive; omega⟩⟩
    obtain ⟨q4, q5⟩ := q2 hlive
    subst q4
    refine ⟨?_, by omega⟩
    split
    · rfl
    · simp [Addr.add_mk]
  · have hE : P.elem t = e := by simp [Program.elem, T.slIs hT ht]
    have ht2 : P.underlying t = some (.slice (P.elem t)) := by rw [hE]; exact T.slIs hT ht
    have hz := (T.tyIs hT he).size_run w'
    unfold execOp
    simp only [ho, e1, e2, e3, Option.map_none, Option.map_some]
    simp [run_sliceAt_slice w' t _ none _ _ ht2, run_slice_hm w' t ad len cap ht2 kh km h m h0 h1 (by omega), hE, hz, Result.andThen]
theorem s_sliceM (n : Nat) (hT : okTab P T = true) {t e sz bytes loc ver off len : Nat} {agg : Bool} {a hi mx : Operand} {kh km : IntKind} {h m : Int} {U : TypeId} {rows : List (List DV)} (hp : dr = dr) (hg : guardB ops fr gd = some true) (ht : Nat.blt d nt = true) (ha : aget fr a = .own loc ver sz off len) (hh : aget fr hi = .d (.v (.int kh h))) (hm : aget fr mx = .d (.v (.int km m))) (hs : find1 T.sl t = some e) (he : find1 T.ty e = some (sz, bytes, agg)) (ho : σ[loc]? = some (.arr U sz ver rows)) (h3 : 0 ≤ h ∧ h ≤ m ∧ m ≤ len ∧ h.toNat = n) (hx : AL P nt ops dr dos ends l Q ((d, .own loc ver sz off n) :: fr) σ) : ALo P nt ops dr dos ends i ⟨some d, .slice t a none (some hi) (some mx), ty, pos, aft, gd⟩ l Q fr σ := by
  obtain ⟨h0, h1, h2, rfl⟩ := h3
  exact ⟨fun hh0 => s_read hh0 hp hg ht (rd_slice_hm hT rfl hs he ha ho hh hm h0 h1 h2) hx⟩
/-- The end of an owned slice: nothing. -/
theorem rd_slice_end (hT : okTab P T = true) {t e sz bytes loc ver off len : Nat} {agg : Bool} {a lo : Operand} {kl : IntKind} {ll : Int} {U : TypeId} {rows : List (List DV)} (ho : o.op = .slice t a (some lo) none none) (ht : find1 T.sl t = some e) (he : find1 T.ty e = some (sz, bytes, agg))
    (ha : aget fr a = .own loc ver sz off len) (hs : σ[loc]? = some (.arr U sz ver rows)) (hh : aget fr lo = .d (.v (.int kl ll))) (h0 : ll = (len : Int)) :
    RdOp P o fr σ (.d (.lst sz [])) := by
  intro k x nt A w s
  have r := s.arg a
  rw [ha] at r
  have r2 := s.arg lo
  rw [hh] at r2
  obtain ⟨e2, _⟩ := r2
  obtain ⟨ad, cap, e1, hcap, q2, q3, hl1, hver⟩ := own_now s hs r
  refine ⟨sliced ad ll.toNat len cap sz, ?_, fun w' _ => ?_⟩
  · unfold sliced
    refine ⟨if cap = ll.toNat then ad else ad.map (·.add (ll.toNat * sz)), cap - ll.toNat, ?_, Nat.zero_le _, .inl rfl⟩
    rw [show len - ll.toNat = 0 by omega]
    rfl
  · have hE : P.elem t = e := by simp [Program.elem, T.slIs hT ht]
    have ht2 : P.underlying t = some (.slice (P.elem t)) := by rw [hE]; exact T.slIs hT ht
    have hz := (T.tyIs hT he).size_run w'
    unfold execOp
    simp only [ho, e1, e2, Option.map_none, Option.map_some]
    simp [run_sliceAt_slice w' t _ _ none none ht2, run_slice_l w' t ad len cap ht2 kl ll (by omega) (by omega), hE, hz, Result.andThen]
theorem s_sliceZ (hT : okTab P T = true) {t e sz bytes loc ver off len : Nat} {agg : Bool} {a lo : Operand} {kl : IntKind} {ll : Int} {U : TypeId} {rows : List (List DV)} (hp : dr = dr) (hg : guardB ops fr gd = some true) (ht : Nat.blt d nt = true) (ha : aget fr a = .own loc ver sz off len) (hh : aget fr lo = .d (.v (.int kl ll))) (hs : find1 T.sl t = some e) (he : find1 T.ty e = some (sz, bytes, agg)) (ho : σ[loc]? = some (.arr U sz ver rows)) (h0 : ll = (len : Int)) (hx : AL P nt ops dr dos ends l Q ((d, .d (.lst sz [])) :: fr) σ) : ALo P nt ops dr dos ends i ⟨some d, .slice t a (some lo) none none, ty, pos, aft, gd⟩ l Q fr σ :=
  ⟨fun hh0 => s_read hh0 hp hg ht (rd_slice_end hT rfl hs he ha ho hh h0) hx⟩
end
end Go.Proofs.Ytciciaikajdenaa
/- NX: CellTrees: what holds at a round's head. -/
set_option linter.unusedSimpArgs false
set_option linter.unusedVariables false
namespace Go.Proofs.Ytciciaikajdenaa
open Go.RowKit

theorem wordsR_take (l : List AWord) (n : Nat) : (wordsR l).take n = wordsR (l.take n) := by simp [wordsR, List.map_take]
theorem wordsR_drop (l : List AWord) (n : Nat) : (wordsR l).drop n = wordsR (l.drop n) := by simp [wordsR, List.map_drop]
theorem valR_drop : ∀ (l : List Val) (n : Nat), (valR l).drop n = valR (l.drop n)
  | _, 0 => rfl
  | [], n + 1 => rfl
  | a :: l, n + 1 => by simp [valR, valR_drop l n]
theorem idx_ok (n : Int) {m : Nat} (hm : 0 < m) : ∃ (i : Nat) (a : Int), n.tmod m = a ∧ -(m : Int) < a ∧ a < m ∧ (a + m).tmod m = (i : Int) ∧ i < m := by
  have h1 := Int.tmod_lt_of_pos n (show (0 : Int) < m by omega)
  have h2 := Int.lt_tmod_of_pos n (show (0 : Int) < m by omega)
  have h3 := Int.tmod_lt_of_pos (n.tmod m + m) (show (0 : Int) < m by omega)
  have h4 : 0 ≤ (n.tmod m + m).tmod m := Int.tmod_nonneg _ (by omega)
  exact ⟨((n.tmod m + m).tmod m).toNat, n.tmod m, rfl, h2, h1, by omega, by omega⟩
noncomputable def body8 : Option Code := match Try.f8.body with
  | some c => match findBlock 0 c with
    | some (.block _ (.loop x)) => some x
    | _ => none
  | none => none
def TI (l : List ADo) (r : Int) (locH locO locA j : Nat) (vs : List AV) (σ : List AObj) : Prop :=
  ∃ (vO vA m : Nat) (B : Int) (H : AHeap) (own : List AWord) (has : List Val), vs = [.d (.lst 14 (dosR l)), .ptr locH 0 0, .d (.fptr worldC), .d (.v (.int .i64 0)), .own locO vO 4 0 m, .own locA vA 4 0 m, .d (.lst 14 (dosR l)), .d (.v (.int .i64 ((dosR l).length : Int))), .d (.v (.int .i64 (j : Int)))] ∧ σ[locH]? = some (ho H) ∧ σ[locO]? = some (.arr 36 4 vO (wordsR own)) ∧ σ[locA]? = some (.arr 66 4 vA (valR has)) ∧ TInv r B H own has ∧ 0 ≤ B ∧ B ≤ 4000 * (j : Int) ∧ own.length = m ∧ has.length = m ∧ m ≤ j ∧ j ≤ l.length
def TQ (l : List ADo) (r : Int) (locH locO locA j : Nat) (e : Exit) (fr : Fr) (σ : List AObj) : Prop :=
  e = .normal ∧ ∃ vs, getO [1, 5, 7, 8, 9, 10, 41, 42, 43] fr = some vs ∧ TI l r locH locO locA j vs σ
end Go.Proofs.Ytciciaikajdenaa
