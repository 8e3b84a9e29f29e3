/- HeapOwned: what a call does to all that is kept. -/
import Derived.Test.YtciciaikajdenaaM4
set_option linter.unusedSimpArgs false
set_option linter.unusedVariables false
namespace Go.Proofs.Ytciciaikajdenaa
open Go.RowKit
open Classical

/-- All that HeapOwned keeps, the heap too. -/
structure OwnInv (H : AHeap) (room : Int) (B : Int) (E : List AEnt) (Gs : List (AWord × Value)) : Prop where
  ok : H.Ok B
  room : H.room = room
  le : H.live ≤ H.most
  own : Owned H (absE E) (Gs.map Prod.fst)

theorem OwnInv.mono {H : AHeap} {room B B' : Int} {E : List AEnt} {Gs : List (AWord × Value)} (o : OwnInv H room B E Gs) (h : B ≤ B') : OwnInv H room B' E Gs := ⟨o.ok.mono h, o.room, o.le, o.own⟩

theorem OwnInv.len {H : AHeap} {room B : Int} {E : List AEnt} {Gs : List (AWord × Value)} (o : OwnInv H room B E Gs) : (E.length : Int) = H.live := by
  have := o.own.len
  simpa [absE] using this

theorem absE_del (x : AWord) (E : List AEnt) : absE (delA x E) = delA x (absE E) := (delA_map (fun q : ACell × Value => q.1) x E).symm
theorem hasL_del (x : AWord) (E : List AEnt) : hasL (delA x E) = delA x (hasL E) := (delA_map (fun q : ACell × Value => cv q.1 q.2) x E).symm

theorem Owned.sub {H : AHeap} {E : List (AWord × ACell)} {G G' : List AWord} (o : Owned H E G) (h : ∀ x ∈ G', x ∈ G) : Owned H E G' := ⟨o.has, o.nodup, o.len, fun x hx => o.gone x (h x hx)⟩

theorem putA_mem {K α : Type} {x : K} {v : α} : ∀ {l : List (K × α)} {y : K}, y ∈ (putA x v l).map Prod.fst → y = x ∨ y ∈ l.map Prod.fst
  | [], y, h => by simp [putA] at h; exact .inl h
  | p :: l, y, h => by
    by_cases hx : x = p.1
    · simp only [putA, hx, if_true, List.map_cons, List.mem_cons] at h ⊢
      rcases h with h | h
      · exact .inl h
      · exact .inr (.inr h)
    · simp only [putA, hx, if_false, List.map_cons, List.mem_cons] at h ⊢
      rcases h with h | h
      · exact .inr (.inl h)
      · rcases putA_mem h with h | h
        · exact .inl h
        · exact .inr (.inr h)

theorem getA_abs_none {x : AWord} {E : List AEnt} (h : getA x (absE E) = none) : getA x E = none := by
  rw [getA_abs] at h
  cases hq : getA x E with
  | none => rfl
  | some q => rw [hq] at h; cases h

theorem getA_keys {x : AWord} {Gs : List (AWord × Value)} (h : ∀ g ∈ Gs.map Prod.fst, g ≠ x) : getA x Gs = none :=
  getA_none.2 fun p hp => h p.1 (List.mem_map_of_mem hp)

section
variable {H : AHeap} {room B : Int} {E : List AEnt} {Gs : List (AWord × Value)}

theorem OwnInv.drop (o : OwnInv H room B E Gs) {y : AWord} {i : Nat} (hf : H.find y = (0, i)) (u : Value) : OwnInv (H.freed i) room (B + 1) (delA y E) (putA y u Gs) := by
  obtain ⟨hi, hl, _⟩ := (find_word (fun s hs => (o.ok.gens s hs).1)).1 hf
  refine ⟨o.ok.freed hi hl, o.room, ?_, ?_⟩
  · rw [freed_live]; have := o.le; show H.live - 1 ≤ H.most; omega
  · rw [absE_del]
    refine (owned_drop o.ok o.own hf).sub fun x hx => ?_
    rcases putA_mem hx with h | h
    · rw [h]; exact List.mem_cons_self
    · exact List.mem_cons_of_mem _ h

theorem OwnInv.alloc (o : OwnInv H room B E Gs) (hB : 0 ≤ B) {c : ACell} (hc : c.ok = true) (hr : H.live < H.room) :
    getA (H.give c).1 E = none ∧ getA (H.give c).1 Gs = none ∧ ∀ v, OwnInv (H.give c).2 room B (E ++ [((H.give c).1, (c, v))]) Gs := by
  obtain ⟨h1, h2, h3⟩ := owned_alloc o.ok hB o.own hc hr
  have h4 := alloc_keeps o.ok hB o.le c
  have e : H.alloc c = (((H.give c).1, 0), (H.give c).2) := by unfold AHeap.alloc; rw [if_neg (by rw [hc]; decide), if_neg (by omega)]
  rw [e] at h4
  refine ⟨getA_abs_none h1, getA_keys h2, fun v => ⟨h4.ok, by rw [h4.room]; exact o.room, h4.le, ?_⟩⟩
  have : absE (E ++ [((H.give c).1, (c, v))]) = absE E ++ [((H.give c).1, c)] := by simp [absE]
  rw [this]; exact h3

theorem OwnInv.renew (o : OwnInv H room B E Gs) {y : AWord} {i : Nat} (hf : H.find y = (0, i)) {c : ACell} (hc : c.ok = true) (u : Value) :
    getA (cellWord y.n (y.g + 1)) (delA y E) = none ∧ getA (cellWord y.n (y.g + 1)) (putA y u Gs) = none ∧ ∀ v, OwnInv (H.renewed i c) room (B + 1) (delA y E ++ [(cellWord y.n (y.g + 1), (c, v))]) (putA y u Gs) := by
  obtain ⟨hi, hl, _⟩ := (find_word (fun s hs => (o.ok.gens s hs).1)).1 hf
  obtain ⟨h1, h2, h3⟩ := owned_renew o.ok o.own hf hc
  have hsub : ∀ x ∈ (putA y u Gs).map Prod.fst, x ∈ y :: Gs.map Prod.fst := by
    intro x hx
    rcases putA_mem hx with h | h
    · rw [h]; exact List.mem_cons_self
    · exact List.mem_cons_of_mem _ h
  refine ⟨getA_abs_none (by rw [absE_del]; exact h1), getA_keys fun g hg => h2 g (hsub g hg), fun v => ⟨o.ok.renewed hi hl (ACell.ok_len hc), o.room, ?_, ?_⟩⟩
  · have e : (H.renewed i c).live = H.live := by simp [AHeap.renewed, AHeap.live]
    rw [e]; exact o.le
  · have : absE (delA y E ++ [(cellWord y.n (y.g + 1), (c, v))]) = delA y (absE E) ++ [(cellWord y.n (y.g + 1), c)] := by rw [← absE_del]; simp [absE]
    rw [this]; exact h3.sub hsub

theorem OwnInv.set (o : OwnInv H room B E Gs) {y : AWord} {j : Nat} (hf : H.find y = (0, j)) (n : Nat) (z : AWord) (v : Value) :
    OwnInv { H with slots := H.slots.set j { H.slot j with c := (H.slot j).c.put n z } } room B (putA y ((H.slot j).c.put n z, v) E) Gs := by
  obtain ⟨hi, hl, _⟩ := (find_word (fun s hs => (o.ok.gens s hs).1)).1 hf
  refine ⟨o.ok.put hi n z, o.room, ?_, ?_⟩
  · have := o.le
    simpa [AHeap.live] using this
  · have e : absE (putA y ((H.slot j).c.put n z, v) E) = putA y ((H.slot j).c.put n z) (absE E) := (putA_map (fun q : ACell × Value => q.1) y ((H.slot j).c.put n z, v) E).symm
    rw [e]
    exact owned_set o.ok o.own hf _ (by simp [ACell.put])
end

/-- While the script runs. -/
def OwnRel (w : World) (room : Int) (p b7 b8 b9 r1 r2 m : Nat) (i : Value) (wr : World) : Prop :=
  ∃ (k : Nat) (H : AHeap) (E : List AEnt) (Gs : List (AWord × Value)) (ws : List AWord) (lv : Value), k ≤ m ∧ i = .int .i64 k ∧ OwnInv H room (10 + k) E Gs ∧ ws.length ≤ k ∧ St w wr (heapAt p H :: ownL b7 b8 b9 r1 r2 lv E E Gs ws)

/-- Behind the call that a row of the script is. -/
def OwnMid (w : World) (room : Int) (p b7 b8 b9 r1 r2 k : Nat) (wr : World) : Prop :=
  ∃ (H : AHeap) (E : List AEnt) (Gs : List (AWord × Value)) (ws : List AWord) (lv : Value), OwnInv H room (10 + (k + 1 : Nat)) E Gs ∧ ws.length ≤ k + 1 ∧ St w wr (heapAt p H :: ownL b7 b8 b9 r1 r2 lv E E Gs ws)

/-- What is known of the word that is meant: whether it is alive, with what. -/
structure Meant (H : AHeap) (E : List AEnt) (y : AWord) (al : Bool) (c0 : ACell) (v0 : Value) : Prop where
  yes : al = true → getA y E = some (c0, v0) ∧ ∃ i, H.find y = (0, i) ∧ (H.slot i).c = c0
  no : al = false → getA y E = none ∧ (H.find y).1 ≠ 0 ∧ c0 = .zero ∧ v0 = .slice none 0 0

theorem meant_of {H : AHeap} {room B : Int} {E : List AEnt} {Gs : List (AWord × Value)} (o : OwnInv H room B E Gs) (y : AWord) :
    ∃ al c0 v0, Meant H E y al c0 v0 ∧ getA y (hasL E) = (if al = true then some (cv c0 v0) else none) := by
  have hg := o.own.has y
  rw [getA_abs] at hg
  cases hq : getA y E with
  | none =>
    rw [hq] at hg
    refine ⟨false, .zero, .slice none 0 0, ⟨(fun h => by cases h), fun _ => ⟨hq, ?_, rfl, rfl⟩⟩, by rw [getA_has, hq]; rfl⟩
    intro h
    rw [val_some (find_fst y h)] at hg
    cases hg
  | some q =>
    obtain ⟨c0, v0⟩ := q
    rw [hq] at hg
    refine ⟨true, c0, v0, ⟨fun _ => ⟨hq, ?_⟩, (fun h => by cases h)⟩, by rw [getA_has, hq]; rfl⟩
    by_cases h : (H.find y).1 = 0
    · refine ⟨_, find_fst y h, ?_⟩
      rw [val_some (find_fst y h)] at hg
      simp at hg
      exact hg.symm
    · rw [val_none h] at hg
      cases hg

theorem get_ws {H : AHeap} {B : Int} (h : H.Ok B) {y : AWord} {c : ACell} {e : Int} (hg : H.get y = (c, e)) : c.ws.length ≤ 64 := by
  unfold AHeap.get at hg
  split at hg
  · rename_i h1
    have hz := AHeap.find_zero h1
    injection hg with h2 _
    rw [← h2]
    exact h.words _ (AHeap.slot_mem hz.2.2.2.2.1)
  · injection hg with h2 _
    rw [← h2]; exact Nat.zero_le _

theorem drop_ws {H K : AHeap} {B : Int} (h : H.Ok B) {y : AWord} {c : ACell} {e : Int} (hg : H.drop y = ((c, e), K)) : c.ws.length ≤ 64 := by
  unfold AHeap.drop at hg
  split at hg
  · injection hg with h2 _
    injection h2 with h2 _
    rw [← h2]; exact Nat.zero_le _
  · rename_i h1
    have hz := AHeap.find_zero (Decidable.not_not.1 h1)
    injection hg with h2 _
    injection h2 with h2 _
    rw [← h2]
    exact h.words _ (AHeap.slot_mem hz.2.2.2.2.1)


theorem St.map_len_run {K : Type} {W0 w : World} {L : List HProp} {P : Program} {kt et mt : TypeId} {kv : K → Value} {r : Nat} {es : List (K × Value)} (h : St W0 w (mapB kv r es :: L)) (hm : P.underlying mt = some (.map kt et)) (ty : TypeId) :
    (Builtin.len_ #[mt] ty #[.map (some r)]).run P w = .ok (.int .i64 es.length) w := by
  obtain ⟨arr, clock, s, e⟩ := h.map_open
  have hg := obj_run (P := P) s.obj.1
  have hsz : arr.size = es.length := by have := congrArg List.length e; simpa using this
  unfold Builtin.len_
  simp [run_underlying hm, hg, goInt, hsz]

theorem has_len (E : List AEnt) : (hasL E).length = E.length := by simp [hasL]

end Go.Proofs.Ytciciaikajdenaa
