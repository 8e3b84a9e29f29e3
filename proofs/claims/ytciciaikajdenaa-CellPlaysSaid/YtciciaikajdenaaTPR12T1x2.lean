/- T1: the document's Word and May, of frozen data. -/
import Derived.Deep.CutBlock
import Derived.Test.YtciciaikajdenaaTPR12N26x7
import Derived.Test.YtciciaikajdenaaTPR12W3x3
set_option linter.unusedSimpArgs false
set_option linter.unusedVariables false
namespace Go.Proofs.Ytciciaikajdenaa
open Go.RowKit

theorem rd_some {w : World} {sz n cap : Nat} {a : Option Addr} {xs : List Value} (h : rd w sz (.slice a n cap) n xs) (hn : 0 < n) : ∃ b off, a = some ⟨b, off, none⟩ := by
  rcases h.2 with ⟨_, e⟩ | ⟨b, off, cap', e, _⟩
  · omega
  · injection e with e1 _ _; exact ⟨_, _, e1⟩
theorem rd_form {w : World} {sz n : Nat} {v : Value} {xs : List Value} (h : rd w sz v n xs) : ∃ a cap, v = .slice a n cap := by
  rcases h.2 with ⟨⟨_, _, rfl⟩, e⟩ | ⟨b, off, cap, rfl, _⟩
  · exact ⟨_, _, by rw [e]⟩
  · exact ⟨_, _, rfl⟩
set_option maxRecDepth 100000 in
set_option maxHeartbeats 1600000 in
theorem wordR_c (x : AWord) (w : World) :
    Calls Try.prog 73 #[wv x] w fun e w' => e = .returned (.bool x.ok) ∧ Below w.heap.size w w' := by
  obtain ⟨k, n, s, g⟩ := x
  unfold wv
  rcases kinds k with rfl | rfl | rfl | rfl | rfl | rfl | rfl | ⟨k1, k2, k3, k4, k5, k6, k7⟩
  case inr.inr.inr.inr.inr.inr.inr =>
    have h1 := beq_eq_false_iff_ne.2 k1
    have h2 := beq_eq_false_iff_ne.2 k2
    have h3 := beq_eq_false_iff_ne.2 k3
    have h4 := beq_eq_false_iff_ne.2 k4
    have h5 := beq_eq_false_iff_ne.2 k5
    have h6 := beq_eq_false_iff_ne.2 k6
    have h7 := beq_eq_false_iff_ne.2 k7
    go_enter Try.func73, Try.ntmps73
    go_wp2
    go_ret
    exact ⟨by simp [AWord.ok, k1, k2, k3, k4, k5, k6, k7], (Below.refl _ _).alloc (Nat.le_refl _) _⟩
  all_goals
    go_enter Try.func73, Try.ntmps73
    go_wp2
    all_goals
      go_ret
      refine ⟨?_, (Below.refl _ _).alloc (Nat.le_refl _) _⟩
      simp [AWord.ok, *]
      try (intro q1 q2; first | (exfalso; omega) | simp_all)

def okAt (c : ACell) (k : Nat) : Bool := c.headOk && decide (k ≤ 64) && (c.ws.take k).all AWord.ok

theorem okAt_len (c : ACell) : okAt c c.ws.length = c.ok := by simp [okAt, ACell.ok]
theorem okAt_zero (c : ACell) : okAt c 0 = c.headOk := by simp [okAt]
theorem okAt_succ {c : ACell} {k : Nat} {x : AWord} (hx : c.ws[k]? = some x) : okAt c (k + 1) = (okAt c k && (decide (k < 64) && x.ok)) := by
  unfold okAt
  rw [List.take_add_one, hx]
  simp only [Option.toList_some, List.all_append, List.all_cons, List.all_nil, Bool.and_true]
  by_cases h : k < 64
  · have h1 : k + 1 ≤ 64 := by omega
    have h2 : k ≤ 64 := by omega
    simp [h, h1, h2, Bool.and_assoc]
  · have h1 : ¬ k + 1 ≤ 64 := by omega
    simp [h, h1]

def MayRel (c : ACell) (a : Option Addr) (cap : Nat) (w : World) (v i : Value) (wr : World) : Prop :=
  ∃ k : Nat, k ≤ c.ws.length ∧ i = .int .i64 k ∧ v = .bool (okAt c k) ∧ St w wr [cellsB w.heap.size #[Value.int .u8 c.k, .int .i64 c.n, .slice a c.ws.length cap] 34]

set_option maxRecDepth 100000 in
set_option maxHeartbeats 2000000 in
theorem mayR_c (c : ACell) (v : Value) (w : World) (h : rd w 4 v c.ws.length (flatW c.ws)) (hm : c.ws.length ≤ maxLen) :
    Calls Try.prog 19 #[cv c v] w fun e w' => e = .returned (.bool c.ok) ∧ Below w.heap.size w w' := by
  obtain ⟨a, cap, rfl⟩ := rd_form h
  have H := Lib.hid h; clear h
  unfold maxLen at hm
  have s0 := (St.refl w).allocC #[Value.int .u8 c.k, .int .i64 c.n, .slice a c.ws.length cap] 34
  have HS := Lib.hid s0
  clear s0
  unfold cv
  go_enter Try.func19, Try.ntmps19
  go_upto_region 1 with fail
  go_cut [3] from 5 to 27 (fun t wx => t = .bool c.headOk ∧ St w wx [cellsB w.heap.size #[Value.int .u8 c.k, .int .i64 c.n, .slice a c.ws.length cap] 34])
  case first =>
    refine abs_wp HS.out ?_
    clear HS
    intro w1 S
    have d0 := S.cell
    rcases (show c.k = 1 ∨ c.k = 2 ∨ c.k = 3 ∨ (c.k ≠ 1 ∧ c.k ≠ 2 ∧ c.k ≠ 3) by omega) with e | e | e | ⟨e1, e2, e3⟩
    case inr.inr.inr =>
      have h1 := beq_eq_false_iff_ne.2 e1
      have h2 := beq_eq_false_iff_ne.2 e2
      have h3 := beq_eq_false_iff_ne.2 e3
      have hh : c.headOk = false := by simp [ACell.headOk, e1, e2, e3]
      have HS := Lib.hid S
      clear S e1 e2 e3
      go_wp2_with fail
      go_meet
      case rel => exact ⟨by rw [hh], HS.out⟩
    all_goals
      have HS := Lib.hid S
      have E := Lib.hid e
      rw [e] at d0
      clear S e
      go_wp2_with fail
      all_goals
        go_meet
        case rel =>
          refine ⟨?_, HS.out⟩
          simp [ACell.headOk, E.out, *]
          try omega
  case rest =>
    obtain ⟨rfl, S⟩ := hcut
    clear HS
    have HS := Lib.hid S
    clear S
    go_wp2_with fail
    go_loopw [3, 4] (fun v i wr => MayRel c a cap w v i wr) (fun _ i _ => c.ws.length - (intOf i).toNat)
    case atStart => exact ⟨0, Nat.zero_le _, rfl, by rw [okAt_zero], HS.out⟩
    case round =>
      obtain ⟨k, hk, rfl, rfl, S⟩ := hrel
      clear HS
      have d0 := S.cell
      by_cases hlt : k < c.ws.length
      · obtain ⟨x, hx⟩ : ∃ x, c.ws[k]? = some x := ⟨_, List.getElem?_eq_getElem hlt⟩
        obtain ⟨b, off, rfl⟩ := rd_some H.out (by omega)
        obtain ⟨f0, f1, f2, f3⟩ := rd_word (H.out.st S) hx
        have es := okAt_succ hx
        have W := Lib.hid (wordR_c x)
        unfold wv at W
        have HS := Lib.hid S
        have ES := Lib.hid es
        clear S hx es
        cases hq : okAt c k
        · rw [hq] at ES
          have HQ := Lib.hid hq
          clear hq
          go_wp2_with fail
          refine ⟨⟨k + 1, by omega, by go_num, by rw [ES.out]; rfl, HS.out⟩, by simp [intOf]; omega⟩
        · rw [hq] at ES
          have HQ := Lib.hid hq
          clear hq
          by_cases h64 : k < 64
          · have E64 : decide (k < 64) = true := by simp [h64]
            rw [E64] at ES
            clear E64
            go_wp2_with (go_at_call 73; refine (W.out _).mono ?_; rintro e w' ⟨rfl, hb⟩; have S := HS.out.mono hb)
            refine ⟨⟨k + 1, by omega, by go_num, by rw [ES.out]; simp, S⟩, by simp [intOf]; omega⟩
          · have E64 : decide (k < 64) = false := by simp [h64]
            rw [E64] at ES
            clear E64
            go_wp2_with fail
            refine ⟨⟨k + 1, by omega, by go_num, by rw [ES.out]; rfl, HS.out⟩, by simp [intOf]; omega⟩
      · have e : k = c.ws.length := by omega
        subst e
        rw [okAt_len]
        have HS := Lib.hid S
        clear S
        go_wp2_with fail
        go_ret
        exact ⟨rfl, HS.out.below⟩

theorem word73 (x : AWord) : RunsP Try.prog 73 [.agg (wordD x)] (fun v => v = .v (.bool x.ok)) := by
  refine ⟨by kernel_rfl, fun B F w vs hv hF hca => ?_⟩
  have hvs := plain_word (w := x) plain_nil F vs hv
  subst hvs
  refine Calls.mono (wordR_c x w) fun e w' ⟨he, hb⟩ => ?_
  subst he
  exact ⟨_, .v (.bool x.ok), F, rfl, Le.refl _, ⟨rfl, rfl⟩, hF.agree (fun k hk => hb.block k hk), fun k hk => hb.block k hk, fun _ h _ => h, ⟨hb.os.trans hca.os, hb.tape.trans hca.tape, hb.output.trans hca.output⟩, rfl⟩
theorem may19 (c : ACell) (hm : c.ws.length ≤ maxLen) : RunsP Try.prog 19 [.agg (cellD c)] (fun v => v = .v (.bool c.ok)) := by
  refine ⟨by kernel_rfl, fun B F w vs ⟨u, us, e, h2, hn⟩ hF hca => ?_⟩
  have hn : us = [] := hn
  subst hn e
  obtain ⟨v, rfl, hw⟩ := cellD_inv h2
  have hrd : rd w 4 v c.ws.length (flatW c.ws) := by
    have hs := St.whole (w := w)
    exact rd_words (x := ⟨F, fun _ => ⟨0, 0, 0, false⟩, 0⟩) hw hF hs
  refine Calls.mono (mayR_c c v w hrd hm) fun e w' ⟨he, hb⟩ => ?_
  subst he
  exact ⟨_, .v (.bool c.ok), F, rfl, Le.refl _, ⟨rfl, rfl⟩, hF.agree (fun k hk => hb.block k hk), fun k hk => hb.block k hk, fun _ h _ => h, ⟨hb.os.trans hca.os, hb.tape.trans hca.tape, hb.output.trans hca.output⟩, rfl⟩
end Go.Proofs.Ytciciaikajdenaa
/- NT: append to the front part of an owned slice; a slice with a said capacity; the end of a slice. -/
set_option linter.unusedSimpArgs false
set_option linter.unusedVariables false
namespace Go.Proofs.Ytciciaikajdenaa
open Go.RowKit

section
variable {P : Program} {T : Tab} {Z : TabZ} {nt : Nat} {Q : Exit → Fr → List AObj → Prop} {next : Fr → List AObj → Prop} {fr : Fr} {σ σ' : List AObj} {ops : Array Oper} {dr : Bool} {dos ends : List Nat} {l : Trr} {i d : Nat} {o : Oper} {v : AV}
variable {dst : Option Tmp} {op : Op} {ty : TypeId} {pos : String} {aft : Array Edge} {gd : Option (Nat × Bool)}
theorem arr_ownT {x : Ctx} {U : TypeId} {sz ver n loc : Nat} {rows : List (List DV)} {g : Frag} {v : Value} (ho : ORep x (x.env loc) (.arr U sz ver rows) g) (hn : n ≤ rows.length) (ha : ARep x (.own loc ver sz 0 n) v) :
    ∃ us, FRep x.F sz (rows.take n) us ∧ (∀ u ∈ us, u.oneCell' = true) ∧ ownS U sz v n us g := by
  obtain ⟨hv, ho⟩ := ho
  obtain ⟨hl, _, a, cap, e, hq⟩ := ha
  obtain ⟨q1, q2, q3⟩ := hq hv.symm
  subst e
  rcases ho with ⟨hlive, rfl⟩ | ⟨hlive, us, rest, hb, hf, h1, hc1, hc2, hc3⟩
  · have h0 : n = 0 := by simpa using hn
    subst h0
    refine ⟨[], rfl, by simp, by simp, .inl ⟨⟨a, ?_⟩, rfl⟩⟩
    rw [q3 hlive]
  · obtain ⟨rfl, hcap⟩ := q2 hlive
    have hus := hf.len
    have hmul : n * sz ≤ rows.length * sz := Nat.mul_le_mul_right sz hn
    have hlt : (us.take (n * sz)).length = n * sz := by rw [List.length_take]; omega
    refine ⟨us.take (n * sz), hf.take n, fun u hu => h1 u (List.mem_of_mem_take hu), hlt, .inr ⟨(x.env loc).blk, cap, us.drop (n * sz) ++ rest, by simp, q1, Nat.le_trans (by omega) hc2, ?_, ?_⟩⟩
    · rw [hlt, List.length_append, List.length_drop]
      have := Nat.mul_le_mul_right sz (show cap ≤ (x.env loc).cap by omega)
      omega
    · rw [hb, ← List.append_assoc, List.take_append_drop]
theorem do_appendT (hT : okTab P T = true) {t tx sz bytes loc ver : Nat} {agg : Bool} {a b : Operand} {U : TypeId} {rows rows2 : List (List DV)} {n : Nat} (ho : o.op = .call { callee := .builtin .append, args := #[a, b], argTypes := #[t, tx] }) (ht : dstOk o.dst nt = true)
    (hs : find1 T.sl t = some U) (he : find1 T.ty U = some (sz, bytes, agg)) {z : List Value} (hz : ZIs P U z) (hzl : Nat.beq z.length sz = true) (ha : aget fr a = .own loc ver sz 0 n) (hl : σ[loc]? = some (.arr U sz ver rows)) (hn : n ≤ rows.length) (hb : SrcOk P fr σ U tx sz b rows2)
    (h63 : n + rows2.length ≤ maxLen) (hbytes : (n + rows2.length) * bytes ≤ 140737488355328)
    (hnx : next (fput o.dst (.own loc (ver + 1) sz 0 (n + rows2.length)) fr) (σ.set loc (.arr U sz (ver + 1) (rows.take n ++ rows2)))) : DoOp P nt o fr σ false next := by
  refine do_value ht (fun v σ' => v = .own loc (ver + 1) sz 0 (n + rows2.length) ∧ σ' = σ.set loc (.arr U sz (ver + 1) (rows.take n ++ rows2))) (fun v σ' ⟨a, b⟩ => a ▸ b ▸ hnx) fun k x A w s => ?_
  have hzl := Nat.eq_of_beq_eq_true hzl
  have hty := T.tyIs hT he
  have hra := s.arg a
  rw [ha] at hra
  obtain ⟨i, d, e1, e2, e3, e4, e5⟩ := hty.ex
  obtain ⟨i', zv, z1, z2, z3⟩ := hz.ex
  rw [e1] at z1
  injection z1 with z1
  subst z1
  have hzs : zv.cells.size = i.size := by rw [e3, ← hzl, ← z3]; simp
  obtain ⟨news, hx, hf2⟩ := hb k x nt A w i zv s e1 z2 e3
  have h1 := hx.one
  subst e3
  subst e4
  obtain ⟨g, g1, g2, g3, g4⟩ := s.heap.own
  have core : ∀ g0, ORep x (x.env loc) (.arr U i.size ver rows) g0 → Le g0 (fun b => w.heap[b]?) → ∃ us v' w', FRep x.F i.size (rows.take n) us ∧ (∀ u ∈ us, u.oneCell' = true) ∧ (Builtin.append_ #[t, tx] o.type #[A.eval a, A.eval b]).run P w = .ok v' w' ∧ w'.os = w.os ∧ w'.tape = w.tape ∧ w'.output = w.output ∧
      (∃ f, ownS U i.size v' (n + rows2.length) (us ++ news) f ∧ Le f (fun b => w'.heap[b]?) ∧ ∀ b, f b ≠ none → g0 b ≠ none ∨ w.heap.size ≤ b) ∧ ∀ b, g0 b = none → b < w.heap.size → w'.heap[b]? = w.heap[b]? := fun g0 hg0 hle => by
    obtain ⟨us, f1, f2, f3⟩ := arr_ownT hg0 hn hra
    obtain ⟨v', w', c⟩ := append_coreX (ty := o.type) hle f3 (T.slIs hT hs) hzs hx h63 hbytes
    exact ⟨us, v', w', f1, f2, c⟩
  obtain ⟨us, v', w', f1, f2, hrun, c1, c2, c3, ⟨f, p, p1, p2⟩, c5⟩ := core (g loc) (g1 loc _ hl) (g2 loc)
  have hlen : n + rows2.length = (rows.take n ++ rows2).length := by rw [List.length_append, List.length_take]; omega
  have one : ∀ u ∈ us ++ news, u.oneCell' = true := fun u hu => (List.mem_append.1 hu).elim (f2 u) (h1 u)
  obtain ⟨_, ad, cap, ev, hcap, hlv, hdd, hver⟩ := own_arr (x := x) (ver := ver + 1) (f1.append hf2) one hlen p
  have hev : (x.env loc).ver = ver := (g1 loc _ hl).1
  have hxe : CtxExt x (x.upd loc (slotOf v' (ver + 1))) := Ctx.upd_ext (by rw [hver]; omega) fun q => by omega
  have hslot : (x.upd loc (slotOf v' (ver + 1))).env loc = slotOf v' (ver + 1) := by simp [Ctx.upd]
  refine ⟨v', w', _, _, _, ?_, hxe, ?_, s.heap.upd hl hxe (o' := .arr U i.size (ver + 1) (rows.take n ++ rows2)) fun g0 hg0 hle => ?_, ⟨c1.trans s.calm.os, c2.trans s.calm.tape, c3.trans s.calm.output⟩, (fun h => by cases h), rfl, rfl⟩
  · unfold execOp
    simp [ho, resolve, invoke, builtin, hrun]
  · refine ⟨hra.1, by rw [hslot, hver]; exact Nat.le_refl _, ad, cap, by rw [ev], fun _ => ⟨hcap, fun q => ?_, fun q => hdd (hslot ▸ q)⟩⟩
    rw [hslot] at q ⊢
    obtain ⟨q1, q2⟩ := hlv q
    rw [q1, q2]
    simp
  · obtain ⟨us', v2, w2, f1', f2', hrun', _, _, _, ⟨f', p', p1', p2'⟩, c5'⟩ := core g0 hg0 hle
    rw [hrun] at hrun'
    injection hrun' with e1 e2
    subst e1 e2
    have one' : ∀ u ∈ us' ++ news, u.oneCell' = true := fun u hu => (List.mem_append.1 hu).elim (f2' u) (h1 u)
    obtain ⟨q, _⟩ := own_arr (x := x) (ver := ver + 1) (f1'.append hf2) one' hlen p'
    exact ⟨⟨f', q.ext hxe, p1', p2'⟩, c5'⟩
/-- append to the front part of an owned slice: what stood behind it is gone. -/
theorem s_appT (hT : okTab P T = true) (hZ : okTabZ P Z = true) {t tx sz bytes loc ver : Nat} {agg : Bool} {a b : Operand} {U : TypeId} {rows rows2 rows3 : List (List DV)} {n m : Nat} {z : List Value} (hp : (dr && !dos.contains i) = false) (hg : guardB ops fr gd = some true) (hk : (dr && !ends.contains i && !false) = false) (ht : Nat.blt d nt = true) (ha : aget fr a = .own loc ver sz 0 n) (hs : find1 T.sl t = some U) (he : find1 T.ty U = some (sz, bytes, agg)) (hz : find1 Z.zs U = some z) (hzl : Nat.beq z.length sz = true) (hby : Nat.ble bytes 256 = true) (hl : σ[loc]? = some (.arr U sz ver rows)) (hb : SrcOk P fr σ U tx sz b rows2) (h3 : rows.take n ++ rows2 = rows3) (hn : n ≤ rows.length ∧ n + rows2.length ≤ 549755813888 ∧ n + rows2.length = m) (h : ∀ σ', Chg σ loc (.arr U sz (ver + 1) rows3) σ' → AL P nt ops dr dos ends l Q ((d, .own loc (ver + 1) sz 0 m) :: fr) σ') : ALo P nt ops dr dos ends i ⟨some d, .call { callee := .builtin .append, args := #[a, b], argTypes := #[t, tx] }, ty, pos, aft, gd⟩ l Q fr σ := by
  obtain ⟨h1, h2, h4⟩ := hn
  subst h3 h4
  refine ⟨fun ho => s_do (keep := false) ho hp hg hk ?_⟩
  exact do_appendT hT rfl ht hs he (TabZ.z hZ hz) hzl ha hl h1 hb (by unfold maxLen; omega) (by have := Nat.le_of_ble_eq_true hby; exact Nat.le_trans (Nat.mul_le_mul h2 this) (by omega)) (h _ (chg_set hl))
/-- The end of an owned slice: nothing. -/
theorem rd_slice_end (hT : okTab P T = true) {t e sz bytes loc ver off len : Nat} {agg : Bool} {a lo : Operand} {kl : IntKind} {ll : Int} {U : TypeId} {rows : List (List DV)} (ho : o.op = .slice t a (some lo) none none) (ht : find1 T.sl t = some e) (he : find1 T.ty e = some (sz, bytes, agg))
    (ha : aget fr a = .own loc ver sz off len) (hs : σ[loc]? = some (.arr U sz ver rows)) (hh : aget fr lo = .d (.v (.int kl ll))) (h0 : ll = (len : Int)) :
    RdOp P o fr σ (.d (.lst sz [])) := by
  intro k x nt A w s
  have r := s.arg a
  rw [ha] at r
  have r2 := s.arg lo
  rw [hh] at r2
  obtain ⟨e2, _⟩ := r2
  obtain ⟨ad, cap, e1, hcap, q2, q3, hl1, hver⟩ := own_now s hs r
  refine ⟨sliced ad ll.toNat len cap sz, ?_, fun w' _ => ?_⟩
  · unfold sliced
    refine ⟨if cap = ll.toNat then ad else ad.map (·.add (ll.toNat * sz)), cap - ll.toNat, ?_, Nat.zero_le _, .inl rfl⟩
    rw [show len - ll.toNat = 0 by omega]
    rfl
  · have hE : P.elem t = e := by simp [Program.elem, T.slIs hT ht]
    have ht2 : P.underlying t = some (.slice (P.elem t)) := by rw [hE]; exact T.slIs hT ht
    have hz := (T.tyIs hT he).size_run w'
    unfold execOp
    simp only [ho, e1, e2, Option.map_none, Option.map_some]
    simp [run_sliceAt_slice w' t _ _ none none ht2, run_slice_l w' t ad len cap ht2 kl ll (by omega) (by omega), hE, hz, Result.andThen]
theorem s_sliceZ (hT : okTab P T = true) {t e sz bytes loc ver off len : Nat} {agg : Bool} {a lo : Operand} {kl : IntKind} {ll : Int} {U : TypeId} {rows : List (List DV)} (hp : dr = dr) (hg : guardB ops fr gd = some true) (ht : Nat.blt d nt = true) (ha : aget fr a = .own loc ver sz off len) (hh : aget fr lo = .d (.v (.int kl ll))) (hs : find1 T.sl t = some e) (he : find1 T.ty e = some (sz, bytes, agg)) (ho : σ[loc]? = some (.arr U sz ver rows)) (h0 : ll = (len : Int)) (hx : AL P nt ops dr dos ends l Q ((d, .d (.lst sz [])) :: fr) σ) : ALo P nt ops dr dos ends i ⟨some d, .slice t a (some lo) none none, ty, pos, aft, gd⟩ l Q fr σ :=
  ⟨fun hh0 => s_read hh0 hp hg ht (rd_slice_end hT rfl hs he ha ho hh h0) hx⟩
end
end Go.Proofs.Ytciciaikajdenaa
