/- N2: the contracts of package heap, for the abstract walk. -/
import Derived.Test.YtciciaikajdenaaTPR12N1x3
import Derived.Test.YtciciaikajdenaaTPR12W13x3
import Derived.Test.YtciciaikajdenaaTPR12Bridgex2
import Derived.Test.YtciciaikajdenaaTPR12XAlAl2x2
set_option linter.unusedSimpArgs false
set_option linter.unusedVariables false
namespace Go.Proofs.Ytciciaikajdenaa
open Go.RowKit

/-- A heap, as an owned object. -/
def ho (H : AHeap) : AObj := .hp fun b => heapAt b H

def Plain (args : List DV) (vals : List Value) : Prop := ∀ F us, LRep F args us → us = vals
theorem plain_nil : Plain [] [] := fun _ _ h => h
theorem plain_cons {v : Value} {l : List DV} {vs : List Value} (h : Plain l vs) : Plain (.v v :: l) (v :: vs) := by
  intro F us ⟨u, us', e, r, q⟩
  obtain ⟨rfl, _⟩ := r
  subst e
  rw [h F us' q]
theorem plain_word {w : AWord} {l : List DV} {vs : List Value} (h : Plain l vs) : Plain (.agg (wordD w) :: l) (wv w :: vs) := by
  intro F us ⟨u, us', e, r, q⟩
  obtain ⟨cs, rfl, ⟨_, _, rfl, ⟨rfl, _⟩, _, _, rfl, ⟨rfl, _⟩, _, _, rfl, ⟨rfl, _⟩, _, _, rfl, ⟨rfl, _⟩, hn⟩, _⟩ := r
  have hn : _ = [] := hn
  subst hn
  subst e
  rw [h F us' q]
  rfl

section
variable {σ σ2 : List AObj} {loc : Nat} {H H' : AHeap} {F : FuncId} {args : List DV} {vals : List Value} {res : DV} {resV : Value}
theorem set_same {σ : List AObj} {loc : Nat} {o : AObj} (h : σ[loc]? = some o) : σ.set loc o = σ := by
  apply List.ext_getElem?
  intro i
  by_cases e : i = loc
  · subst e
    rw [List.getElem?_set_self (List.getElem?_eq_some_iff.1 h).1, h]
  · rw [List.getElem?_set_ne (Ne.symm e)]
theorem arg_ptr {x : Ctx} {loc : Nat} {u : Value} (h : ARep x (.ptr loc 0 0) u) (hv : (x.env loc).ver = 0) : u = .pointer (some ⟨(x.env loc).blk, 0, none⟩) := by
  obtain ⟨_, _, a, e, h⟩ := h
  rw [e, h hv.symm]
theorem runs_heap (hgo : isGo Try.prog F = true) (hl : σ[loc]? = some (ho H)) (hargs : Plain args vals) (hres : ∀ G, DRep G res resV)
    (hc : ∀ (W0 w : World) (p : Nat) (L : List HProp), St W0 w (heapAt p H :: L) → Calls Try.prog F (.pointer (some ⟨p, 0, none⟩) :: vals).toArray w fun e w' => e = .returned resV ∧ St W0 w' (heapAt p H' :: L)) :
    Runs Try.prog F (.ptr loc 0 0 :: args.map .d) σ (fun v σ' => v = .d res ∧ σ' = σ.set loc (ho H')) := by
  refine ⟨hgo, fun B R x w vs ⟨u, us, e, h1, h2⟩ hh hca => ?_⟩
  obtain ⟨hv, rest, hs, hr⟩ := hh.lend hl
  subst e
  rw [arg_ptr h1 hv, hargs _ _ h2.toD]
  refine Calls.mono (hc _ _ _ _ hs) fun e w' ⟨he, hs'⟩ => ?_
  subst he
  exact ⟨resV, .d res, x, _, rfl, .refl x, hres _, hr.back (P' := fun b => heapAt b H') hv hs', hca.st hs', rfl, rfl⟩
theorem Runs.same (h : Runs Try.prog F (.ptr loc 0 0 :: args.map .d) σ (fun v σ' => v = .d res ∧ σ' = σ.set loc (ho H))) (hl : σ[loc]? = some (ho H)) : Runs Try.prog F (.ptr loc 0 0 :: args.map .d) σ (fun v σ' => v = .d res ∧ σ' = σ) :=
  h.mono fun v σ' ⟨a, b⟩ => ⟨a, by rw [b, set_same hl]⟩
theorem live_r (hl : σ[loc]? = some (ho H)) : Runs Try.prog 33 [.ptr loc 0 0] σ (fun v σ' => v = .d (.v (.int .i64 H.live)) ∧ σ' = σ) :=
  Runs.same (args := []) (runs_heap (by kernel_rfl) hl plain_nil (fun G => ⟨rfl, rfl⟩) fun W0 w p L h => Calls.mono (live_c h) fun e w' ⟨he, n, hw⟩ => ⟨he, hw ▸ h.drewN n⟩) hl
theorem left_r {B : Int} (hl : σ[loc]? = some (ho H)) (ok : H.Ok B) : Runs Try.prog 35 [.ptr loc 0 0] σ (fun v σ' => v = .d (.v (.int .i64 (H.room - H.live))) ∧ σ' = σ) :=
  Runs.same (args := []) (runs_heap (by kernel_rfl) hl plain_nil (fun G => ⟨rfl, rfl⟩) fun W0 w p L h => Calls.mono (left_c h ok) fun e w' ⟨he, n, hw⟩ => ⟨he, hw ▸ h.drewN n⟩) hl
theorem most_r (hl : σ[loc]? = some (ho H)) : Runs Try.prog 36 [.ptr loc 0 0] σ (fun v σ' => v = .d (.v (.int .i64 H.most)) ∧ σ' = σ) :=
  Runs.same (args := []) (runs_heap (by kernel_rfl) hl plain_nil (fun G => ⟨rfl, rfl⟩) fun W0 w p L h => Calls.mono (most_c h) fun e w' ⟨he, hw⟩ => ⟨he, hw ▸ h⟩) hl

theorem frep_words {G : Frag} (ws : List AWord) : FRep G 4 (wordsR ws) (flatW ws) := by
  have e : wordsR ws = (ws.map wcells).map fun r => r.map .v := by
    unfold wordsR
    rw [List.map_map]
    rfl
  have e2 : flatW ws = (ws.map wcells).flatten := by simp [flatW, List.flatMap_def]
  rw [e, e2]
  refine frep_rows fun r hr => ?_
  obtain ⟨w, _, rfl⟩ := List.mem_map.1 hr
  exact ⟨rfl, fun u hu => by simp [wcells] at hu; rcases hu with rfl | rfl | rfl | rfl <;> rfl⟩
theorem rd_words {x : Ctx} {ws : List AWord} {v : Value} (h : DRep x.F (.lst 4 (wordsR ws)) v) {rest : Frag} (hF : Le x.F rest) {w0 w' : World} (s : St (bare w0) w' [fun f => f = rest]) : rd w' 4 v ws.length (flatW ws) := by
  have e : wordsR ws = (ws.map wcells).map fun r => r.map .v := by
    unfold wordsR
    rw [List.map_map]
    rfl
  have e2 : flatW ws = (ws.map wcells).flatten := by simp [flatW, List.flatMap_def]
  have hl : Le rest (fun b => w'.heap[b]?) := by
    have := s.sep
    rw [newPart_bare] at this
    obtain ⟨p, _, h1, _, _, l, _⟩ := this
    subst h1
    exact l
  rw [e] at h
  have := rd_of_drep h (fun r hr => by obtain ⟨w, _, rfl⟩ := List.mem_map.1 hr; rfl) (hF.trans hl)
  rw [e2]
  simpa using this

/-- A function that gives a cell, with words of its own. -/
theorem runs_heap_cell (hgo : isGo Try.prog F = true) (hl : σ[loc]? = some (ho H)) (hargs : Plain args vals) {c : ACell} {e0 : Int}
    (hc : ∀ (W0 w : World) (p : Nat) (L : List HProp), St W0 w (heapAt p H :: L) → Calls Try.prog F (.pointer (some ⟨p, 0, none⟩) :: vals).toArray w fun e w' => ∃ v, e = .returned (.tuple #[.agg #[.int .u8 c.k, .int .i64 c.n, v], .int .i64 e0]) ∧ St W0 w' (wordsOwn v c.ws :: heapAt p H' :: L)) :
    Runs Try.prog F (.ptr loc 0 0 :: args.map .d) σ (fun v σ' => v = .d (.tup [.agg (cellD c), .v (.int .i64 e0)]) ∧ σ' = σ.set loc (ho H')) := by
  refine ⟨hgo, fun B R x w vs ⟨u, us, e, h1, h2⟩ hh hca => ?_⟩
  obtain ⟨hv, rest, hs, hr⟩ := hh.lend hl
  subst e
  rw [arg_ptr h1 hv, hargs _ _ h2.toD]
  refine Calls.mono (hc _ _ _ _ hs) fun e w' ⟨v, he, hs'⟩ => ?_
  subst he
  obtain ⟨q, hq, hd, hh'⟩ := hr.back_frz (P' := fun b => heapAt b H') hv hs'
  have hw := drep_own hq (fun G => frep_words _) (wordsR_len _) (one_flatW _) (Le.un_right hd)
  have ho : v.oneCell' = true := by
    obtain ⟨a, cap, e, _⟩ := hw
    rw [e]; rfl
  refine ⟨_, .d (.tup [.agg (cellD c), .v (.int .i64 e0)]), _, _, rfl, Ctx.frz_ext (Le.un_left _ _), ?_, hh', hca.st hs', rfl, rfl⟩
  refine ⟨_, rfl, _, _, rfl, ⟨_, rfl, ⟨_, _, rfl, ⟨rfl, rfl⟩, _, _, rfl, ⟨rfl, rfl⟩, _, _, rfl, hw, rfl⟩, ?_⟩, _, _, rfl, ⟨rfl, rfl⟩, rfl⟩
  intro u hu
  simp at hu
  rcases hu with rfl | rfl | rfl
  · rfl
  · rfl
  · exact ho
theorem get_r {B : Int} (hl : σ[loc]? = some (ho H)) (ok : H.Ok B) (w : AWord) : Runs Try.prog 22 [.ptr loc 0 0, .d (.agg (wordD w))] σ (fun v σ' => v = .d (.tup [.agg (cellD (H.get w).1), .v (.int .i64 (H.get w).2)]) ∧ σ' = σ) :=
  (runs_heap_cell (args := [.agg (wordD w)]) (by kernel_rfl) hl (plain_word plain_nil) fun W0 w0 p L h => get_c h ok w).mono fun v σ' ⟨a, b⟩ => ⟨a, by rw [b, set_same hl]⟩
theorem drop_r {B : Int} (hl : σ[loc]? = some (ho H)) (ok : H.Ok B) (hB : B < 1000000000) (w : AWord) : Runs Try.prog 24 [.ptr loc 0 0, .d (.agg (wordD w))] σ (fun v σ' => v = .d (.tup [.agg (cellD (H.drop w).1.1), .v (.int .i64 (H.drop w).1.2)]) ∧ Chg σ loc (ho (H.drop w).2) σ') :=
  (runs_heap_cell (args := [.agg (wordD w)]) (by kernel_rfl) hl (plain_word plain_nil) fun W0 w0 p L h => drop_c h ok hB w).mono fun v σ' ⟨a, b⟩ => ⟨a, b ▸ chg_set hl⟩
theorem wordD_rep {G : Frag} (w : AWord) : DRep G (.agg (wordD w)) (wv w) :=
  ⟨_, rfl, ⟨_, _, rfl, ⟨rfl, rfl⟩, _, _, rfl, ⟨rfl, rfl⟩, _, _, rfl, ⟨rfl, rfl⟩, _, _, rfl, ⟨rfl, rfl⟩, rfl⟩, fun u hu => by simp at hu; rcases hu with rfl | rfl | rfl | rfl <;> rfl⟩
theorem cellD_inv {G : Frag} {c : ACell} {u : Value} (h : DRep G (.agg (cellD c)) u) : ∃ v, u = cv c v ∧ DRep G (.lst 4 (wordsR c.ws)) v := by
  obtain ⟨cs, rfl, ⟨_, _, rfl, ⟨rfl, _⟩, _, _, rfl, ⟨rfl, _⟩, v, _, rfl, hv, hn⟩, _⟩ := h
  have hn : _ = [] := hn
  subst hn
  exact ⟨v, rfl, hv⟩
theorem alloc_r {B : Int} (hl : σ[loc]? = some (ho H)) (ok : H.Ok B) (c : ACell) (hm : c.ws.length ≤ maxLen) : Runs Try.prog 20 [.ptr loc 0 0, .d (.agg (cellD c))] σ (fun v σ' => v = .d (.tup [.agg (wordD (H.alloc c).1.1), .v (.int .i64 (H.alloc c).1.2)]) ∧ Chg σ loc (ho (H.alloc c).2) σ') := by
  refine ⟨by kernel_rfl, fun B0 R x w vs ⟨u, us, e, h1, u2, us2, e2, h2, hn⟩ hh hca => ?_⟩
  obtain ⟨hv, rest, hs, hr⟩ := hh.lend hl
  have hn : us2 = [] := hn
  subst hn e2 e
  obtain ⟨v, rfl, hw⟩ := cellD_inv h2
  rw [arg_ptr h1 hv]
  refine Calls.mono (alloc_c hs ok c v (fun w' s => rd_words hw hr.hF s) hm) fun e w' ⟨he, hs'⟩ => ?_
  subst he
  exact ⟨_, .d (.tup [.agg (wordD (H.alloc c).1.1), .v (.int .i64 (H.alloc c).1.2)]), x, _, rfl, .refl x, ⟨_, rfl, _, _, rfl, wordD_rep _, _, _, rfl, ⟨rfl, rfl⟩, rfl⟩, hr.back (P' := fun b => heapAt b (H.alloc c).2) hv hs', hca.st hs', rfl, chg_set hl⟩
theorem cells_r {B : Int} (hl : σ[loc]? = some (ho H)) (ok : H.Ok B) : Runs Try.prog 38 [.ptr loc 0 0] σ (fun v σ' => v = .d (.lst 4 (wordsR H.cells)) ∧ σ' = σ) := by
  refine ⟨by kernel_rfl, fun B0 R x w vs ⟨u, us, e, h1, hn⟩ hh hca => ?_⟩
  obtain ⟨hv, rest, hs, hr⟩ := hh.lend hl
  have hn : us = [] := hn
  subst hn e
  rw [arg_ptr h1 hv]
  refine Calls.mono (cells_c hs ok) fun e w' ⟨v, he, hs'⟩ => ?_
  subst he
  have hs2 := hs.chain hs'
  obtain ⟨q, hq, hd, hh'⟩ := hr.back_frz (P' := fun b => heapAt b H) hv hs2
  have e1 := set_same hl
  unfold ho at e1
  rw [e1] at hh'
  have hw := drep_own hq (fun G => frep_words _) (wordsR_len _) (one_flatW _) (Le.un_right hd)
  exact ⟨v, .d (.lst 4 (wordsR H.cells)), _, σ, rfl, Ctx.frz_ext (Le.un_left _ _), hw, hh', hca.st hs2, rfl, rfl⟩
theorem new_r {room : Int} (h0 : 0 ≤ room) (h1 : room ≤ 100000) : Runs Try.prog 15 [.d (.v (.int .i64 room))] σ (fun v σ' => ∃ loc, v = .tup [.ptr loc 0 0, .d (.v (.int .i64 0))] ∧ Fresh σ loc (ho (AHeap.new room)) σ') := by
  refine ⟨by kernel_rfl, fun B0 R x w vs ⟨u, us, e, h2, hn⟩ hh hca => ?_⟩
  have hn : us = [] := hn
  obtain ⟨e2, _⟩ := h2
  subst hn e2 e
  refine Calls.mono (new_ok room w h0 h1) fun e w' ⟨p, he, hs'⟩ => ?_
  subst he
  have hs2 : St (bare w) w' [heapAt p (AHeap.new room), fun f => f = fun b => w.heap[b]?] := (St.whole (w := w)).chain hs'
  have hh' := hh.new_st (Q := fun b => heapAt b (AHeap.new room)) hs2
  refine ⟨_, .tup [.ptr σ.length 0 0, .d (.v (.int .i64 0))], _, _, rfl, x.push_ext _, ?_, hh', hca.st hs2, _, rfl, fresh_app _ _⟩
  refine ⟨_, rfl, _, _, rfl, ⟨by simp [Ctx.push, hh.n], Nat.zero_le _, _, rfl, fun _ => ?_⟩, _, _, rfl, ⟨rfl, rfl⟩, rfl⟩
  rw [← hh.n]
  simp [Ctx.push]
theorem new_n {room : Int} (h : room < 0 ∨ 100000 < room) : Runs Try.prog 15 [.d (.v (.int .i64 room))] σ (fun v σ' => v = .tup [.d (.v (.pointer none)), .d (.v (.int .i64 2))] ∧ σ' = σ) := by
  refine ⟨by kernel_rfl, fun B0 R x w vs ⟨u, us, e, h2, hn⟩ hh hca => ?_⟩
  have hn : us = [] := hn
  obtain ⟨e2, _⟩ := h2
  subst hn e2 e
  refine Calls.mono (new_bad room w h) fun e w' ⟨he, hw⟩ => ?_
  subst he hw
  exact ⟨_, .tup [.d (.v (.pointer none)), .d (.v (.int .i64 2))], x, σ, rfl, .refl x, ⟨_, rfl, _, _, rfl, ⟨rfl, rfl⟩, _, _, rfl, ⟨rfl, rfl⟩, rfl⟩, hh, hca, rfl, rfl⟩
theorem may_r (c : ACell) (hm : c.ws.length ≤ maxLen) : RunsP Try.prog 18 [.agg (cellD c)] (fun v => v = .v (.bool c.ok)) := by
  refine ⟨by kernel_rfl, fun B F w vs ⟨u, us, e, h2, hn⟩ hF hca => ?_⟩
  have hn : us = [] := hn
  subst hn e
  obtain ⟨v, rfl, hw⟩ := cellD_inv h2
  have hrd : rd w 4 v c.ws.length (flatW c.ws) := by
    have hs := St.whole (w := w)
    exact rd_words (x := ⟨F, fun _ => ⟨0, 0, 0, false⟩, 0⟩) hw hF hs
  refine Calls.mono (may_c c v w hrd hm) fun e w' ⟨he, hb⟩ => ?_
  subst he
  exact ⟨_, .v (.bool c.ok), F, rfl, Le.refl _, ⟨rfl, rfl⟩, hF.agree (fun k hk => hb.block k hk), fun k hk => hb.block k hk, fun _ h _ => h, ⟨hb.os.trans hca.os, hb.tape.trans hca.tape, hb.output.trans hca.output⟩, rfl⟩
end
end Go.Proofs.Ytciciaikajdenaa
/- Aq: functions that come back or panic; numbers of any kind. -/
set_option linter.unusedSimpArgs false
set_option linter.unusedVariables false
namespace Go.Proofs.Ytciciaikajdenaa
open Go.RowKit

/-- A function that comes back, or panics. -/
def RunsX (P : Program) (f : FuncId) (args : List AV) (σ : List AObj) (post : AV → List AObj → Prop) (pan : Value → List AObj → Prop) : Prop :=
  isGo P f = true ∧ ∀ (B : Base) (R : Frag) (x : Ctx) (w : World) (vs : List Value), ALRep x args vs → Heap x σ R w → Calm B w →
    Calls P f vs.toArray w fun e w' => (∃ u v x' σ', e = .returned u ∧ CtxExt x x' ∧ ARep x' v u ∧ Heap x' σ' R w' ∧ Calm B w' ∧ post v σ') ∨
      ∃ pv x' σ', e = .panicked (chainOf pv) ∧ CtxExt x x' ∧ Heap x' σ' R w' ∧ Calm B w' ∧ pan pv σ'

section
variable {P : Program} {f : FuncId} {args : List AV} {σ : List AObj} {post post' : AV → List AObj → Prop} {pan pan' : Value → List AObj → Prop}
theorem RunsX.mono (h : RunsX P f args σ post pan) (q : ∀ v σ', post v σ' → post' v σ') (q2 : ∀ v σ', pan v σ' → pan' v σ') : RunsX P f args σ post' pan' :=
  ⟨h.1, fun B R x w vs a b c => Calls.mono (h.2 B R x w vs a b c) fun e w' h => h.imp (fun ⟨u, v, x', σ', h1, h2, h3, h4, h5, h6⟩ => ⟨u, v, x', σ', h1, h2, h3, h4, h5, q _ _ h6⟩) fun ⟨pv, x', σ', h1, h2, h3, h4, h5⟩ => ⟨pv, x', σ', h1, h2, h3, h4, q2 _ _ h5⟩⟩
theorem RunsX.runs (h : RunsX P f args σ post pan) (q : ∀ v σ', ¬ pan v σ') : Runs P f args σ post :=
  ⟨h.1, fun B R x w vs a b c => Calls.mono (h.2 B R x w vs a b c) fun e w' h => h.elim id fun ⟨pv, x', σ', _, _, _, _, h5⟩ => absurd h5 (q _ _)⟩
theorem RunsX.bad (h : RunsX P f args σ post pan) (q : ∀ v σ', ¬ post v σ') : RunsE P f args σ pan :=
  ⟨h.1, fun B R x w vs a b c => Calls.mono (h.2 B R x w vs a b c) fun e w' h => h.elim (fun ⟨u, v, x', σ', _, _, _, _, _, h6⟩ => absurd h6 (q _ _)) id⟩
theorem Runs.x (h : Runs P f args σ post) : RunsX P f args σ post pan :=
  ⟨h.1, fun B R x w vs a b c => Calls.mono (h.2 B R x w vs a b c) fun e w' h => .inl h⟩
theorem RunsE.x (h : RunsE P f args σ pan) : RunsX P f args σ post pan :=
  ⟨h.1, fun B R x w vs a b c => Calls.mono (h.2 B R x w vs a b c) fun e w' h => .inr h⟩
end

/-- How code ends that comes back or panics. -/
def retX (T : Tab) (fn : Func) (post : AV → List AObj → Prop) (pan : Value → List AObj → Prop) : Exit → Fr → List AObj → Prop
  | .normal, fr, σ => ∃ v, resB T fn fr σ v ∧ post v σ
  | .ret, fr, σ => ∃ v, resB T fn fr σ v ∧ post v σ
  | .panic ch, _, σ => ∃ pv, ch = chainOf pv ∧ pan pv σ
  | _, _, _ => False

section
variable {P : Program} {T : Tab} {nt : Nat} {Q : Exit → Fr → List AObj → Prop} {fr : Fr} {σ : List AObj} {ops : Array Oper} {dr : Bool} {dos ends : List Nat} {l : Trr} {o : Oper} {i d : Nat}
variable {ty : TypeId} {pos : String} {aft : Array Edge} {gd : Option (Nat × Bool)}
theorem q_then_p {n : Fr → List AObj → Prop} {ch : List PanicEntry} (h : Q (.panic ch) fr σ) : thenQ n Q (.panic ch) fr σ := h
theorem q_blk_p {j : Nat} {ch : List PanicEntry} (h : Q (.panic ch) fr σ) : blockQ j Q (.panic ch) fr σ := h
theorem q_retX {fn : Func} {post : AV → List AObj → Prop} {pan : Value → List AObj → Prop} {v : AV} (e : resB T fn fr σ v) (h : post v σ) : retX T fn post pan .ret fr σ := ⟨v, e, h⟩
theorem q_panX {fn : Func} {post : AV → List AObj → Prop} {pan : Value → List AObj → Prop} {pv : Value} (h : pan pv σ) : retX T fn post pan (.panic (chainOf pv)) fr σ := ⟨pv, rfl, h⟩
theorem pan_q {pan : Value → List AObj → Prop} {pv : Value} (h : pan pv σ) : panQ pan (.panic (chainOf pv)) fr σ := ⟨pv, rfl, h⟩

theorem runs_enterX {f : FuncId} {fn : Func} {c : Code} {args : List AV} {post : AV → List AObj → Prop} {pan : Value → List AObj → Prop} (hT : okTab P T = true) (hf : P.funcs[f]? = some fn) (hb : fn.body = some c) (hg : isGo P f = true) (hn : Nat.ble args.length fn.ntmps = true)
    (h : AWk P fn.ntmps c (retX T fn post pan) (frameOf args 0) σ) : RunsX P f args σ post pan := by
  refine ⟨hg, fun B R x w vs ha hh hc => ?_⟩
  refine calls_of_wp hf hb ?_
  have hl := ha.len
  have hn := Nat.le_of_ble_eq_true hn
  have s : Sim ⟨B, R, []⟩ x fn.ntmps (frameOf args 0) σ { tmps := vs.toArray ++ Array.replicate (fn.ntmps - vs.toArray.size) undef, defers := [] } w := by
    refine ⟨by simp; omega, rfl, fun i => ?_, hh, hc⟩
    have := frame_rep (Array.replicate (fn.ntmps - vs.toArray.size) undef) #[] ha i
    simpa using this
  refine wp_mono (h.out _ x _ w s) fun e A w' p => ?_
  cases e with
  | normal =>
    obtain ⟨x', fr, σ', hx, hs, v, hr, hp⟩ := p
    obtain ⟨u, h1, h2⟩ := resB_spec hT hs hr
    exact ⟨hs.defers, u, h1, .inl ⟨u, v, x', σ', rfl, hx, h2, hs.heap, hs.calm, hp⟩⟩
  | ret =>
    obtain ⟨x', fr, σ', hx, hs, v, hr, hp⟩ := p
    obtain ⟨u, h1, h2⟩ := resB_spec hT hs hr
    exact ⟨hs.defers, u, h1, .inl ⟨u, v, x', σ', rfl, hx, h2, hs.heap, hs.calm, hp⟩⟩
  | exit i => obtain ⟨x', fr, σ', hx, hs, hp⟩ := p; exact hp.elim
  | goto i => obtain ⟨x', fr, σ', hx, hs, hp⟩ := p; exact hp.elim
  | panic ch =>
    obtain ⟨hd, x', σ', hx, hh', hc', pv, rfl, hp⟩ := p
    exact ⟨hd, .inr ⟨pv, x', σ', rfl, hx, hh', hc', hp⟩⟩
  | outgrown => exact p.elim
theorem enterX {f : FuncId} {fn : Func} {c : Code} {args : List AV} {post : AV → List AObj → Prop} {pan : Value → List AObj → Prop} (nt : Nat) {fr : Fr} (hT : okTab P T = true) (hf : P.funcs[f]? = some fn) (hb : fn.body = some c) (hg : isGo P f = true) (hnt : Nat.beq fn.ntmps nt = true) (hn : Nat.ble args.length nt = true)
    (hfr : seqL (frameOf args 0) some = some fr) (h : AWk P nt c (retX T fn post pan) fr σ) : RunsX P f args σ post pan := by
  have e := Nat.eq_of_beq_eq_true hnt
  subst e
  rw [seqL_eq] at hfr
  injection hfr with hfr
  subst hfr
  exact runs_enterX hT hf hb hg hn h

/-- An operation that does something, or panics. -/
def DoOpX (P : Program) (nt : Nat) (o : Oper) (fr : Fr) (σ : List AObj) (next : Fr → List AObj → Prop) (Q : Exit → Fr → List AObj → Prop) : Prop :=
  ∀ k x A w, Sim k x nt fr σ A w → o.wp P A w (fun A' w' => ∃ x' fr' σ', CtxExt x x' ∧ Sim k x' nt fr' σ' A' w' ∧ next fr' σ') (Post k x nt Q)
theorem al_doX {i : Nat} {o : Oper} (ho : ops[i]? = some o) (hd : (dr && !dos.contains i) = false) (hk : (dr && !ends.contains i) = false) (hg : guardA ops fr o = some true)
    (h : DoOpX P nt o fr σ (AL P nt ops dr dos ends l Q) Q) : AL P nt ops dr dos ends (.one i l) Q fr σ := by
  refine ⟨fun k x A w s => ?_⟩
  unfold walkW stepW
  refine .inr ⟨hd, ?_⟩
  have h1 := h k x A w s
  unfold wpOp
  simp only [ho, guardA_spec s hg, if_true]
  refine .inl ?_
  have key : ∀ A' w', (∃ x' fr' σ', CtxExt x x' ∧ Sim k x' nt fr' σ' A' w' ∧ AL P nt ops dr dos ends l Q fr' σ') → ((dr && !ends.contains i) = true → Agree w w') ∧ walkW P ops (Post k x nt Q) dr dos ends l A' w' := by
    rintro A' w' ⟨x', fr', σ', hx, hs, hn⟩
    refine ⟨fun hb => ?_, walkW_ext hx (hn.out k x' A' w' hs)⟩
    rw [hb] at hk
    cases hk
  exact upon_mono key (fun _ _ _ q => q) h1
theorem do_callX {g : FuncId} {fs cs : List AV} {f : Operand} {args : Array Operand} {tys : Array TypeId} {post : AV → List AObj → Prop} {pan : Value → List AObj → Prop} {next : Fr → List AObj → Prop} (ho : o.op = .call { callee := .value f, args := args, argTypes := tys })
    (hf : cloOf (aget fr f) = some (g, fs, cs)) (ht : dstOk o.dst nt = true) (hr : RunsX P g (fs ++ args.toList.map (aget fr) ++ cs) σ post pan) (hn : ∀ v σ', post v σ' → next (fput o.dst v fr) σ') (hp : ∀ v σ', pan v σ' → Q (.panic (chainOf v)) [] σ') : DoOpX P nt o fr σ next Q := by
  intro k x A w s
  obtain ⟨vs, h1, h2⟩ := call_run s hr.1 ho hf
  unfold Oper.wp
  rw [h1, Oper.upon_enter]
  refine Calls.mono (hr.2 k.B k.R x w vs h2 s.heap s.calm) fun e w' h => ?_
  rcases h with ⟨u, v, x', σ', e1, e2, e3, e4, e5, e6⟩ | ⟨pv, x', σ', e1, e2, e3, e4, e5⟩
  · subst e1
    exact ⟨x', _, σ', e2, (s.to e2 e4 e5).put ht e3, hn v σ' e6⟩
  · subst e1
    exact ⟨s.defers, x', σ', e2, e3, e4, hp pv σ' e5⟩
theorem s_callX {g : FuncId} {fs cs as0 : List AV} {f : Operand} {args : Array Operand} {tys : Array TypeId} {post : AV → List AObj → Prop} {pan : Value → List AObj → Prop} (hp : (dr && !dos.contains i) = false) (hg : guardB ops fr gd = some true) (hk : (dr && !ends.contains i) = false) (ht : Nat.blt d nt = true) (hf : cloOf (aget fr f) = some (g, fs, cs)) (has : seqL (fs ++ args.toList.map (aget fr) ++ cs) some = some as0) (hr : RunsX P g as0 σ post pan) (h : ∀ v σ', post v σ' → AL P nt ops dr dos ends l Q ((d, v) :: fr) σ') (h2 : ∀ v σ', pan v σ' → Q (.panic (chainOf v)) [] σ') : ALo P nt ops dr dos ends i ⟨some d, .call { callee := .value f, args := args, argTypes := tys }, ty, pos, aft, gd⟩ l Q fr σ := by
  refine ⟨fun ho => al_doX ho hp hk (guardB_eq hg) ?_⟩
  simp only [seqL_eq, Option.some.injEq] at has
  subst has
  exact do_callX rfl hf ht hr h h2
/-- A sum, a difference, of any kind of number. -/
theorem s_addK (r : Int) {k : IntKind} {t t' : TypeId} {a b : Operand} {m n : Int} (hp : dr = dr) (hg : guardB ops fr gd = some true) (ht : Nat.blt d nt = true) (ha : aget fr a = .d (.v (.int k m))) (hb : aget fr b = .d (.v (.int k n))) (hv : k.wrap (m + n) = r) (h : AL P nt ops dr dos ends l Q ((d, .d (.v (.int k r))) :: fr) σ) : ALo P nt ops dr dos ends i ⟨some d, .binOp .add t a b t', ty, pos, aft, gd⟩ l Q fr σ := by
  subst hv
  exact ⟨fun ho => s_read ho hp hg ht (rd_int rfl ha hb rfl) h⟩
theorem s_subK (r : Int) {k : IntKind} {t t' : TypeId} {a b : Operand} {m n : Int} (hp : dr = dr) (hg : guardB ops fr gd = some true) (ht : Nat.blt d nt = true) (ha : aget fr a = .d (.v (.int k m))) (hb : aget fr b = .d (.v (.int k n))) (hv : k.wrap (m - n) = r) (h : AL P nt ops dr dos ends l Q ((d, .d (.v (.int k r))) :: fr) σ) : ALo P nt ops dr dos ends i ⟨some d, .binOp .sub t a b t', ty, pos, aft, gd⟩ l Q fr σ := by
  subst hv
  exact ⟨fun ho => s_read ho hp hg ht (rd_int rfl ha hb rfl) h⟩
theorem wrapU8 {z : Int} (h1 : 0 ≤ z) (h2 : z ≤ 255) : IntKind.wrap .u8 z = z := by
  unfold IntKind.wrap
  simp [IntKind.bits, IntKind.signed]
  omega
end
end Go.Proofs.Ytciciaikajdenaa
