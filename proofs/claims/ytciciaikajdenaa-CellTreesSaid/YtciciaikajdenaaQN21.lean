/- N21: what a word has in a heap, on cells of its own; walks, buildings and droppings of it. No program in sight. -/
import Derived.Test.YtciciaikajdenaaQN20
set_option linter.unusedSimpArgs false
set_option linter.unusedVariables false
namespace Go.Proofs.Ytciciaikajdenaa
open Go.RowKit

mutual
/-- A word has a value, on cells. -/
def Holds (H : AHeap) : Val → AWord → List Nat → Prop
  | .mk k n s l, w, S => (k < 11 ∧ k ≠ 5 ∧ w = ⟨k, n, s, 0⟩ ∧ w.ok = true ∧ l = [] ∧ S = []) ∨
    (¬ k < 11 ∧ ∃ (i : Nat) (SS : List Nat), w = cellWord i (H.slot i).gen ∧ i < H.slots.length ∧ (H.slot i).lives = true ∧ (H.slot i).c.k = k - 10 ∧ (H.slot i).c.n = n ∧ s = ⟨#[]⟩ ∧ S = i :: SS ∧ HoldsL H l (H.slot i).c.ws SS)
def HoldsL (H : AHeap) : List Val → List AWord → List Nat → Prop
  | [], ws, S => ws = [] ∧ S = []
  | v :: l, ws, S => ∃ w ws' S1 S2, ws = w :: ws' ∧ S = S1 ++ S2 ∧ Holds H v w S1 ∧ HoldsL H l ws' S2
end
mutual
theorem Holds.frame {H K : AHeap} : ∀ {v : Val} {w : AWord} {S : List Nat}, Holds H v w S → (∀ i ∈ S, K.slot i = H.slot i ∧ i < K.slots.length) → Holds K v w S
  | .mk k n s l, w, S, h, hf => by
    rcases h with h | ⟨h0, i, SS, h1, h2, h3, h4, h5, h6, rfl, h8⟩
    · exact .inl h
    · obtain ⟨e, hl⟩ := hf i (by simp)
      refine .inr ⟨h0, i, SS, by rw [e]; exact h1, hl, by rw [e]; exact h3, by rw [e]; exact h4, by rw [e]; exact h5, h6, rfl, ?_⟩
      rw [e]
      exact HoldsL.frame h8 fun j hj => hf j (by simp [hj])
theorem HoldsL.frame {H K : AHeap} : ∀ {l : List Val} {ws : List AWord} {S : List Nat}, HoldsL H l ws S → (∀ i ∈ S, K.slot i = H.slot i ∧ i < K.slots.length) → HoldsL K l ws S
  | [], ws, S, h, hf => h
  | v :: l, ws, S, ⟨w, ws', S1, S2, e1, e2, h1, h2⟩, hf => by
    subst e2
    exact ⟨w, ws', S1, S2, e1, rfl, h1.frame fun i hi => hf i (by simp [hi]), h2.frame fun i hi => hf i (by simp [hi])⟩
end
mutual
theorem Holds.alive {H : AHeap} : ∀ {v : Val} {w : AWord} {S : List Nat}, Holds H v w S → ∀ i ∈ S, i < H.slots.length ∧ (H.slot i).lives = true
  | .mk k n s l, w, S, h, i, hi => by
    rcases h with ⟨_, _, _, _, _, rfl⟩ | ⟨h0, j, SS, h1, h2, h3, h4, h5, h6, rfl, h8⟩
    · cases hi
    · rcases List.mem_cons.1 hi with rfl | hi
      · exact ⟨h2, h3⟩
      · exact HoldsL.alive h8 i hi
theorem HoldsL.alive {H : AHeap} : ∀ {l : List Val} {ws : List AWord} {S : List Nat}, HoldsL H l ws S → ∀ i ∈ S, i < H.slots.length ∧ (H.slot i).lives = true
  | [], ws, S, ⟨_, h⟩, i, hi => by subst h; cases hi
  | v :: l, ws, S, ⟨w, ws', S1, S2, e1, e2, h1, h2⟩, i, hi => by
    subst e2
    rcases List.mem_append.1 hi with hi | hi
    · exact h1.alive i hi
    · exact h2.alive i hi
end
mutual
theorem Holds.count {H : AHeap} : ∀ {v : Val} {w : AWord} {S : List Nat}, Holds H v w S → S.length = cellsV v
  | .mk k n s l, w, S, h => by
    rcases h with ⟨hk, _, _, _, rfl, rfl⟩ | ⟨h0, j, SS, h1, h2, h3, h4, h5, h6, rfl, h8⟩
    · simp only [cellsV, cellsL]; rw [if_neg (by omega)]; rfl
    · simp only [cellsV, List.length_cons]; rw [if_pos (by omega), HoldsL.count h8]; omega
theorem HoldsL.count {H : AHeap} : ∀ {l : List Val} {ws : List AWord} {S : List Nat}, HoldsL H l ws S → S.length = cellsL l
  | [], ws, S, ⟨_, h⟩ => by subst h; rfl
  | v :: l, ws, S, ⟨w, ws', S1, S2, e1, e2, h1, h2⟩ => by
    subst e2
    simp only [List.length_append, cellsL, h1.count, h2.count]
end
theorem find_cell {H : AHeap} {B : Int} (ok : H.Ok B) {i : Nat} (hi : i < H.slots.length) (hl : (H.slot i).lives = true) : H.find (cellWord i (H.slot i).gen) = (0, i) := by
  have hg := (ok.gens _ (AHeap.slot_mem hi)).1
  have hw : (cellWord i (H.slot i).gen).ok = true := by
    simp [cellWord, AWord.ok, ByteArray.toList_eq, hg]
  unfold AHeap.find
  rw [if_neg (by rw [hw]; simp [cellWord]), if_neg (by simp only [cellWord]; omega)]
  have e : (cellWord i (H.slot i).gen).n.toNat = i := by simp [cellWord]
  rw [e, AHeap.slot_get hi]
  simp only
  rw [if_pos ⟨hl, rfl⟩]
theorem word_cell {H : AHeap} {B : Int} (ok : H.Ok B) {i : Nat} (hi : i < H.slots.length) : (cellWord i (H.slot i).gen).ok = true := by
  have hg := (ok.gens _ (AHeap.slot_mem hi)).1
  simp [cellWord, AWord.ok, ByteArray.toList_eq, hg]
theorem get_cell {H : AHeap} {B : Int} (ok : H.Ok B) {i : Nat} (hi : i < H.slots.length) (hl : (H.slot i).lives = true) : H.get (cellWord i (H.slot i).gen) = ((H.slot i).c, 0) := by
  unfold AHeap.get
  rw [find_cell ok hi hl]
  rfl
mutual
/-- Does a handle or the Io stand in a value? -/
def filesV : Val → Bool
  | .mk k _ _ l => (decide (k = 6) || decide (k = 7)) || filesL l
def filesL : List Val → Bool
  | [] => false
  | p :: l => filesV p || filesL l
end
def intsN (S : List Nat) : List Int := S.map fun (i : Nat) => (i : Int)
theorem intsN_append (a b : List Nat) : intsN (a ++ b) = intsN a ++ intsN b := by simp [intsN]
mutual
theorem Holds.walk {H : AHeap} {B : Int} (ok : H.Ok B) : ∀ {v : Val} {w : AWord} {S : List Nat}, Holds H v w S → ∀ (f : Nat) (come : List Int) (fl : Bool), massV v ≤ f → (come ++ intsN S).Nodup → walkF H f w come fl = .ok v (come ++ intsN S) (fl || filesV v)
  | .mk k n s l, w, S, h, 0, come, fl, hf, _ => by simp only [massV] at hf; omega
  | .mk k n s l, w, S, h, f + 1, come, fl, hf, hnd => by
    rcases h with ⟨h1, h2, rfl, h4, rfl, rfl⟩ | ⟨h0, i, SS, rfl, h2, h3, h4, h5, rfl, rfl, h8⟩
    · unfold walkF
      rw [if_neg (by rw [h4]; simp), if_pos h2]
      simp [intsN, filesV, filesL]
    · have hnot : (i : Int) ∉ come := fun h => by
        rw [List.nodup_append] at hnd
        exact hnd.2.2 _ h _ (by simp [intsN]) rfl
      have hnd2 : ((come ++ [(i : Int)]) ++ intsN SS).Nodup := by
        rw [List.append_assoc]; exact hnd
      simp only [massV] at hf
      have hw := HoldsL.walk ok h8 f (come ++ [(i : Int)]) fl (by omega) hnd2
      unfold walkF
      rw [if_neg (by rw [word_cell ok h2]; simp), if_neg (by simp [cellWord]), find_cell ok h2 h3, if_neg (by simp), if_neg (by exact hnot), get_cell ok h2 h3]
      have hn : (cellWord i (H.slot i).gen).n = (i : Int) := rfl
      simp only [hn, hw]
      have e : (come ++ [(i : Int)]) ++ intsN SS = come ++ intsN (i :: SS) := by simp [intsN]
      rw [e, h4, h5]
      have : k - 10 + 10 = k := by omega
      rw [this]
      simp [filesV, show k ≠ 6 by omega, show k ≠ 7 by omega]
theorem HoldsL.walk {H : AHeap} {B : Int} (ok : H.Ok B) : ∀ {l : List Val} {ws : List AWord} {S : List Nat}, HoldsL H l ws S → ∀ (f : Nat) (come : List Int) (fl : Bool), massVL l ≤ f → (come ++ intsN S).Nodup → walksF (walkF H f) ws come fl = .ok l (come ++ intsN S) (fl || filesL l)
  | [], ws, S, ⟨h1, h2⟩, f, come, fl, _, _ => by subst h1 h2; simp [walksF, intsN, filesL]
  | v :: l, ws, S, ⟨w, ws', S1, S2, e1, e2, h1, h2⟩, f, come, fl, hf, hnd => by
    subst e1 e2
    simp only [massVL] at hf
    rw [intsN_append, ← List.append_assoc] at hnd
    have hw1 := h1.walk ok f come fl (by omega) (List.nodup_append.1 hnd).1
    have hw2 := h2.walk ok f (come ++ intsN S1) (fl || filesV v) (by omega) hnd
    simp only [walksF, hw1, hw2, filesL, Bool.or_assoc, intsN_append, List.append_assoc]
end
theorem intsN_nodup {S : List Nat} (h : S.Nodup) : (intsN S).Nodup := by
  unfold intsN
  rw [List.nodup_iff_pairwise_ne, List.pairwise_map]
  exact (List.nodup_iff_pairwise_ne.1 h).imp fun hab h => hab (by omega)
end Go.Proofs.Ytciciaikajdenaa
/- N22: what is built has its value, on new cells; what is dropped is freed. No program in sight. -/
set_option linter.unusedSimpArgs false
set_option linter.unusedVariables false
namespace Go.Proofs.Ytciciaikajdenaa
open Go.RowKit

/-- What lives in H stands in K as it was. -/
structure Grown (H K : AHeap) : Prop where
  len : H.slots.length ≤ K.slots.length
  keep : ∀ i, i < H.slots.length → (H.slot i).lives = true → K.slot i = H.slot i
theorem Grown.refl (H : AHeap) : Grown H H := ⟨Nat.le_refl _, fun _ _ _ => rfl⟩
theorem Grown.trans {H K M : AHeap} (h : Grown H K) (k : Grown K M) : Grown H M :=
  ⟨Nat.le_trans h.len k.len, fun i hi hl => by rw [k.keep i (Nat.lt_of_lt_of_le hi h.len) (by rw [h.keep i hi hl]; exact hl), h.keep i hi hl]⟩
/-- A slot that does not live in H. -/
def NotIn (H : AHeap) (i : Nat) : Prop := ¬ (i < H.slots.length ∧ (H.slot i).lives = true)
theorem NotIn.back {H K : AHeap} (h : Grown H K) {i : Nat} (k : NotIn K i) : NotIn H i := fun ⟨a, b⟩ => k ⟨Nat.lt_of_lt_of_le a h.len, by rw [h.keep i a b]; exact b⟩
theorem Holds.grown {H K : AHeap} (g : Grown H K) {v : Val} {w : AWord} {S : List Nat} (h : Holds H v w S) : Holds K v w S :=
  h.frame fun i hi => ⟨g.keep i (h.alive i hi).1 (h.alive i hi).2, Nat.lt_of_lt_of_le (h.alive i hi).1 g.len⟩
theorem HoldsL.grown {H K : AHeap} (g : Grown H K) {l : List Val} {ws : List AWord} {S : List Nat} (h : HoldsL H l ws S) : HoldsL K l ws S :=
  h.frame fun i hi => ⟨g.keep i (h.alive i hi).1 (h.alive i hi).2, Nat.lt_of_lt_of_le (h.alive i hi).1 g.len⟩
/-- The cell that is given. -/
theorem give_new_cell {H : AHeap} {B : Int} (ok : H.Ok B) (c : ACell) : ∃ i : Nat, NotIn H i ∧ i < (H.give c).2.slots.length ∧ ((H.give c).2.slot i).lives = true ∧ ((H.give c).2.slot i).c = c ∧ (H.give c).1 = cellWord i ((H.give c).2.slot i).gen ∧ Grown H (H.give c).2 := by
  unfold AHeap.give
  cases hl : H.free.getLast? with
  | some i =>
    dsimp only
    have hm := List.mem_of_getLast? hl
    obtain ⟨hi, hd⟩ := ok.dead i hm
    have hs : ∀ j, AHeap.slot { H with slots := H.slots.set i ⟨c, (H.slot i).gen, true⟩, free := H.free.dropLast, most := max H.most (H.live + 1) } j = if i = j then ⟨c, (H.slot i).gen, true⟩ else H.slot j := slot_set (H := H) rfl hi
    refine ⟨i, (fun ⟨_, h⟩ => by (rw [hd] at h; cases h)), by simpa using hi, ?_, ?_, ?_, by simp, fun j hj hlv => ?_⟩
    · rw [hs, if_pos rfl]
    · rw [hs, if_pos rfl]
    · rw [hs, if_pos rfl]
    · rw [hs, if_neg]
      rintro rfl
      rw [hd] at hlv; cases hlv
  | none =>
    dsimp only
    have hs : ∀ j, AHeap.slot { H with slots := H.slots ++ [⟨c, 0, true⟩], most := max H.most (H.live + 1) } j = if j = H.slots.length then ⟨c, 0, true⟩ else H.slot j := fun j => by
      unfold AHeap.slot
      simp only [List.getD]
      by_cases e : j = H.slots.length
      · subst e; simp
      · rw [if_neg e]
        by_cases h2 : j < H.slots.length
        · rw [List.getElem?_append_left h2]
        · rw [List.getElem?_eq_none (by simp; omega), List.getElem?_eq_none (by omega)]
    refine ⟨H.slots.length, (fun ⟨h, _⟩ => by omega), by simp, ?_, ?_, ?_, by simp, fun j hj hlv => ?_⟩
    · rw [hs, if_pos rfl]
    · rw [hs, if_pos rfl]
    · rw [hs, if_pos rfl]
    · rw [hs, if_neg (by omega)]
theorem give_most (H : AHeap) (c : ACell) : (H.give c).2.most = max H.most (H.live + 1) := by
  unfold AHeap.give
  cases H.free.getLast? <;> rfl
mutual
theorem build_holds {B : Int} (hB : 0 ≤ B) : ∀ (v : Val) (H : AHeap), mayV v = true → H.Ok B → (cellsV v : Int) ≤ H.room - H.live → Grown H (buildF H v).2 ∧ ∃ S, Holds (buildF H v).2 v (buildF H v).1 S ∧ S.Nodup ∧ ∀ i ∈ S, NotIn H i
  | .mk k n s l, H, hm, ok, hr => by
    obtain ⟨h1, h2⟩ := may_split hm
    by_cases hk : k < 11
    · simp only [buildF, if_pos hk]
      have hz : l.length = 0 ∧ k ≠ 5 ∧ (⟨k, n, s, 0⟩ : AWord).ok = true := by
        rw [head_leaf hk] at h1
        simp only [Bool.and_eq_true, beq_iff_eq, decide_eq_true_eq] at h1
        exact ⟨h1.1, h1.2.1, h1.2.2⟩
      exact ⟨Grown.refl H, [], .inl ⟨hk, hz.2.1, rfl, hz.2.2, List.length_eq_zero_iff.1 hz.1, rfl⟩, List.nodup_nil, fun i hi => by cases hi⟩
    · simp only [cellsV, if_pos (show 10 < k by omega)] at hr
      obtain ⟨b1, b2⟩ := builds_ok hB l H h2 ok (by omega)
      obtain ⟨g1, SS, q1, q2, q3⟩ := builds_holds hB l H h2 ok (by omega)
      have hlive := b1.live
      have hroom := b1.room
      have hc := con_ok hk h1 (buildsF_len l H) b2
      have hs : s = ⟨#[]⟩ := by
        rw [head_con hk] at h1
        simp only [Bool.and_eq_true] at h1
        exact empty_iff.1 h1.1
      simp only [buildF, if_neg hk]
      rw [AHeap.alloc_give hc (by omega)]
      obtain ⟨i, i1, i2, i3, i4, i5, i6⟩ := give_new_cell b1.ok ⟨k - 10, n, (buildsF H l).1⟩
      have hnot : i ∉ SS := fun h => i1 (q1.alive i h)
      refine ⟨g1.trans i6, i :: SS, .inr ⟨hk, i, SS, i5, i2, i3, by rw [i4], by rw [i4], hs, rfl, ?_⟩, List.nodup_cons.2 ⟨hnot, q2⟩, fun j hj => ?_⟩
      · rw [i4]
        exact q1.grown i6
      · rcases List.mem_cons.1 hj with rfl | hj
        · exact i1.back g1
        · exact q3 j hj
theorem builds_holds {B : Int} (hB : 0 ≤ B) : ∀ (l : List Val) (H : AHeap), mayL l = true → H.Ok B → (cellsL l : Int) ≤ H.room - H.live → Grown H (buildsF H l).2 ∧ ∃ S, HoldsL (buildsF H l).2 l (buildsF H l).1 S ∧ S.Nodup ∧ ∀ i ∈ S, NotIn H i
  | [], H, _, ok, _ => ⟨Grown.refl H, [], ⟨rfl, rfl⟩, List.nodup_nil, fun i hi => by cases hi⟩
  | p :: l, H, hm, ok, hr => by
    simp only [mayL, Bool.and_eq_true] at hm
    simp only [cellsL] at hr
    obtain ⟨b1, b2⟩ := build_ok hB p H hm.1 ok (by omega)
    obtain ⟨g1, S1, q1, q2, q3⟩ := build_holds hB p H hm.1 ok (by omega)
    have hlive := b1.live
    have hroom := b1.room
    obtain ⟨g2, S2, r1, r2, r3⟩ := builds_holds hB l (buildF H p).2 hm.2 b1.ok (by omega)
    simp only [buildsF]
    refine ⟨g1.trans g2, S1 ++ S2, ⟨_, _, S1, S2, rfl, rfl, q1.grown g2, r1⟩, List.nodup_append.2 ⟨q2, r2, fun a ha b hb e => ?_⟩, fun i hi => ?_⟩
    · subst e
      exact r3 a hb (q1.alive a ha)
    · rcases List.mem_append.1 hi with hi | hi
      · exact q3 i hi
      · exact (r3 i hi).back g1
end
mutual
theorem build_most {B : Int} (hB : 0 ≤ B) : ∀ (v : Val) (H : AHeap), mayV v = true → H.Ok B → (cellsV v : Int) ≤ H.room - H.live → H.live ≤ H.most → (buildF H v).2.most = max H.most (buildF H v).2.live
  | .mk k n s l, H, hm, ok, hr, hlm => by
    obtain ⟨h1, h2⟩ := may_split hm
    by_cases hk : k < 11
    · simp only [buildF, if_pos hk]; omega
    · simp only [cellsV, if_pos (show 10 < k by omega)] at hr
      obtain ⟨b1, b2⟩ := builds_ok hB l H h2 ok (by omega)
      have hb := builds_most hB l H h2 ok (by omega) hlm
      have hlive := b1.live
      have hroom := b1.room
      have hc := con_ok hk h1 (buildsF_len l H) b2
      simp only [buildF, if_neg hk]
      rw [AHeap.alloc_give hc (by omega)]
      simp only
      rw [give_most, AHeap.give_live, hb]
      omega
theorem builds_most {B : Int} (hB : 0 ≤ B) : ∀ (l : List Val) (H : AHeap), mayL l = true → H.Ok B → (cellsL l : Int) ≤ H.room - H.live → H.live ≤ H.most → (buildsF H l).2.most = max H.most (buildsF H l).2.live
  | [], H, _, ok, _, hlm => by simp only [buildsF]; omega
  | p :: l, H, hm, ok, hr, hlm => by
    simp only [mayL, Bool.and_eq_true] at hm
    simp only [cellsL] at hr
    obtain ⟨b1, b2⟩ := build_ok hB p H hm.1 ok (by omega)
    have hlive := b1.live
    have hroom := b1.room
    have h1 := build_most hB p H hm.1 ok (by omega) hlm
    have h2 := builds_most hB l (buildF H p).2 hm.2 b1.ok (by omega) (by omega)
    obtain ⟨d1, _⟩ := builds_ok hB l (buildF H p).2 hm.2 b1.ok (by omega)
    have hl2 := d1.live
    simp only [buildsF]
    rw [h2, h1]
    omega
end
/-- What a dropping leaves. -/
structure Gone (H K : AHeap) (S : List Nat) : Prop where
  len : K.slots.length = H.slots.length
  room : K.room = H.room
  most : K.most = H.most
  free : K.free = H.free ++ S
  keep : ∀ i, i ∉ S → K.slot i = H.slot i
  dead : ∀ i ∈ S, (K.slot i).lives = false
theorem gone_refl (H : AHeap) : Gone H H [] := ⟨rfl, rfl, rfl, by simp, fun _ _ => rfl, fun i hi => by cases hi⟩
theorem Gone.trans {H K M : AHeap} {S T : List Nat} (h : Gone H K S) (k : Gone K M T) : Gone H M (S ++ T) := by
  refine ⟨k.len.trans h.len, k.room.trans h.room, k.most.trans h.most, by rw [k.free, h.free, List.append_assoc], fun i hi => ?_, fun i hi => ?_⟩
  · simp only [List.mem_append, not_or] at hi
    rw [k.keep i hi.2, h.keep i hi.1]
  · by_cases ht : i ∈ T
    · exact k.dead i ht
    · rw [k.keep i ht]
      exact h.dead i ((List.mem_append.1 hi).resolve_right ht)
theorem Holds.gone {H K : AHeap} {S T : List Nat} (g : Gone H K T) {v : Val} {w : AWord} (h : Holds H v w S) (hd : ∀ i ∈ S, i ∉ T) : Holds K v w S :=
  h.frame fun i hi => ⟨g.keep i (hd i hi), by rw [g.len]; exact (h.alive i hi).1⟩
theorem HoldsL.gone {H K : AHeap} {S T : List Nat} (g : Gone H K T) {l : List Val} {ws : List AWord} (h : HoldsL H l ws S) (hd : ∀ i ∈ S, i ∉ T) : HoldsL K l ws S :=
  h.frame fun i hi => ⟨g.keep i (hd i hi), by rw [g.len]; exact (h.alive i hi).1⟩
theorem gone_one {H : AHeap} {B : Int} (ok : H.Ok B) {i : Nat} (hi : i < H.slots.length) (hl : (H.slot i).lives = true) : (H.drop (cellWord i (H.slot i).gen)) = (((H.slot i).c, 0), H.freed i) ∧ Gone H (H.freed i) [i] := by
  refine ⟨?_, by simp [AHeap.freed], rfl, rfl, rfl, fun j hj => ?_, fun j hj => ?_⟩
  · unfold AHeap.drop
    rw [find_cell ok hi hl]
    rfl
  · rw [slot_set (H := H) (K := H.freed i) rfl hi, if_neg (by rintro rfl; simp at hj)]
  · simp at hj
    subst hj
    rw [slot_set (H := H) (K := H.freed j) rfl hi, if_pos rfl]
mutual
theorem Holds.drop : ∀ {v : Val} {w : AWord} {S : List Nat} {H : AHeap} {B : Int}, H.Ok B → Holds H v w S → S.Nodup → ∀ f, massV v ≤ f → Gone H (dropF f H w) S ∧ dropN f H w = S.length ∧ fuelOk f H w
  | .mk k n s l, w, S, H, B, ok, h, hnd, 0, hf => by simp only [massV] at hf; omega
  | .mk k n s l, w, S, H, B, ok, h, hnd, f + 1, hf => by
    rcases h with ⟨h1, h2, rfl, h4, rfl, rfl⟩ | ⟨h0, i, SS, rfl, h2, h3, h4, h5, rfl, rfl, h8⟩
    · simp only [dropF, dropN, fuelOk, if_neg h2]
      exact ⟨gone_refl H, rfl, fun h => absurd h h2⟩
    · obtain ⟨e, g⟩ := gone_one ok h2 h3
      obtain ⟨n1, n2⟩ := List.nodup_cons.1 hnd
      simp only [massV] at hf
      have h8' := h8.gone g fun j hj => by rintro h; simp at h; subst h; exact n1 hj
      have hkk : (H.freed i).slot i = ⟨.zero, (H.slot i).gen + 1, false⟩ := by rw [slot_set (H := H) (K := H.freed i) rfl h2, if_pos rfl]
      obtain ⟨q1, q2, q3⟩ := HoldsL.drop (ok.freed h2 h3) h8' n2 f (by omega)
      have hk5 : (cellWord i (H.slot i).gen).k = 5 := rfl
      simp only [dropF, dropN, fuelOk, if_pos hk5, e]
      exact ⟨g.trans q1, by rw [q2]; simp; omega, fun _ => q3⟩
theorem HoldsL.drop : ∀ {l : List Val} {ws : List AWord} {S : List Nat} {H : AHeap} {B : Int}, H.Ok B → HoldsL H l ws S → S.Nodup → ∀ f, massVL l ≤ f → Gone H (dropsF (dropF f) H ws) S ∧ dropsN (dropF f) (dropN f) H ws = S.length ∧ fuelsOk (dropF f) (fuelOk f) H ws
  | [], ws, S, H, B, ok, ⟨h1, h2⟩, hnd, f, hf => by subst h1 h2; exact ⟨gone_refl H, rfl, trivial⟩
  | v :: l, ws, S, H, B, ok, ⟨w, ws', S1, S2, e1, e2, h1, h2⟩, hnd, f, hf => by
    subst e1 e2
    obtain ⟨n1, n2, n3⟩ := List.nodup_append.1 hnd
    simp only [massVL] at hf
    obtain ⟨q1, q2, q3⟩ := h1.drop ok n1 f (by omega)
    have ok2 := dropF_ok f H w B ok
    obtain ⟨r1, r2, r3⟩ := HoldsL.drop ok2 (h2.gone q1 fun j hj hj2 => n3 j hj2 j hj rfl) n2 f (by omega)
    exact ⟨q1.trans r1, by simp only [dropsN, q2, r2, List.length_append], q3, r3⟩
end
end Go.Proofs.Ytciciaikajdenaa
/- N23: live cells may be; a walk comes to an end; what the calls answer of a word that has a value. No program in sight. -/
set_option linter.unusedSimpArgs false
set_option linter.unusedVariables false
namespace Go.Proofs.Ytciciaikajdenaa
open Go.RowKit

/-- What lives may be. -/
def LiveOk (H : AHeap) : Prop := ∀ s ∈ H.slots, s.lives = true → s.c.ok = true
theorem live_new (r : Int) : LiveOk (.new r) := fun s h => by simp [AHeap.new] at h
theorem LiveOk.slot {H : AHeap} (h : LiveOk H) {i : Nat} (hi : i < H.slots.length) (hl : (H.slot i).lives = true) : (H.slot i).c.ok = true := h _ (AHeap.slot_mem hi) hl
theorem LiveOk.give {H : AHeap} (h : LiveOk H) {c : ACell} (hc : c.ok = true) : LiveOk (H.give c).2 := by
  unfold AHeap.give
  cases H.free.getLast? with
  | some i =>
    intro s hs hl
    rcases List.mem_or_eq_of_mem_set hs with hs | rfl
    · exact h s hs hl
    · exact hc
  | none =>
    intro s hs hl
    rcases List.mem_append.1 hs with hs | hs
    · exact h s hs hl
    · rw [List.mem_singleton] at hs; subst hs; exact hc
theorem LiveOk.alloc {H : AHeap} (h : LiveOk H) (c : ACell) : LiveOk (H.alloc c).2 := by
  unfold AHeap.alloc
  split
  · exact h
  · rename_i hc
    split
    · exact h
    · exact h.give (by simpa using hc)
theorem LiveOk.freed {H : AHeap} (h : LiveOk H) (i : Nat) : LiveOk (H.freed i) := by
  intro s hs hl
  rcases List.mem_or_eq_of_mem_set hs with hs | rfl
  · exact h s hs hl
  · cases hl
theorem LiveOk.drop {H : AHeap} (h : LiveOk H) (w : AWord) : LiveOk (H.drop w).2 := by
  unfold AHeap.drop
  split
  · exact h
  · exact h.freed _
theorem LiveOk.dropsF {g : AHeap → AWord → AHeap} (hg : ∀ H w, LiveOk H → LiveOk (g H w)) : ∀ (ws : List AWord) (H : AHeap), LiveOk H → LiveOk (dropsF g H ws)
  | [], H, h => h
  | w :: ws, H, h => LiveOk.dropsF hg ws _ (hg H w h)
theorem LiveOk.dropF : ∀ (f : Nat) (H : AHeap) (w : AWord), LiveOk H → LiveOk (dropF f H w)
  | 0, H, w, h => h
  | f + 1, H, w, h => by
    simp only [Go.Proofs.Ytciciaikajdenaa.dropF]
    split
    · exact LiveOk.dropsF (fun H w h => LiveOk.dropF f H w h) _ _ (h.drop w)
    · exact h
mutual
theorem LiveOk.buildF : ∀ (v : Val) (H : AHeap), LiveOk H → LiveOk (buildF H v).2
  | .mk k n s l, H, h => by
    simp only [Go.Proofs.Ytciciaikajdenaa.buildF]
    split
    · exact h
    · exact (LiveOk.buildsF l H h).alloc _
theorem LiveOk.buildsF : ∀ (l : List Val) (H : AHeap), LiveOk H → LiveOk (buildsF H l).2
  | [], H, h => h
  | p :: l, H, h => by
    simp only [Go.Proofs.Ytciciaikajdenaa.buildsF]
    exact LiveOk.buildsF l _ (LiveOk.buildF p H h)
end
theorem LiveOk.buildM {H : AHeap} (h : LiveOk H) (v : Val) : LiveOk (buildM H v).2 := by
  unfold Go.Proofs.Ytciciaikajdenaa.buildM
  split
  · exact LiveOk.buildF v H h
  · exact h
theorem LiveOk.copyM {H : AHeap} (h : LiveOk H) (f : Nat) (w : AWord) : LiveOk (copyM H f w).2 := by
  unfold Go.Proofs.Ytciciaikajdenaa.copyM
  split
  · exact h
  · split
    · exact h
    · exact h.buildM _
theorem LiveOk.dropM {H : AHeap} (h : LiveOk H) (f : Nat) (w : AWord) : LiveOk (dropM H f w).2 := by
  unfold Go.Proofs.Ytciciaikajdenaa.dropM
  split
  · exact h
  · exact LiveOk.dropF f H w h
theorem ok_kind {c : ACell} (h : c.ok = true) : 1 ≤ c.k ∧ c.k ≤ 3 ∧ c.ws.length ≤ 64 := by
  simp only [ACell.ok, ACell.headOk, Bool.and_eq_true, Bool.or_eq_true, beq_iff_eq, decide_eq_true_eq] at h
  omega
theorem LiveOk.cells {H : AHeap} (h : LiveOk H) : CellsOk H := fun w he => by
  rw [get_err] at he
  obtain ⟨_, _, _, _, h1, h2, _⟩ := AHeap.find_zero he
  have e : (H.get w).1 = (H.slot (H.find w).2).c := by unfold AHeap.get; rw [if_pos he]
  rw [e]
  have := ok_kind (h.slot h1 h2)
  omega

/-! A walk with fuel enough comes to an end. -/
def Seen (H : AHeap) (come : List Int) : Prop := come.Nodup ∧ ∀ x ∈ come, 0 ≤ x ∧ x < (H.slots.length : Int)
theorem nodup_below : ∀ (n : Nat) (l : List Int), l.Nodup → (∀ x ∈ l, 0 ≤ x ∧ x < (n : Int)) → l.length ≤ n
  | 0, l, _, h => by
    cases l with
    | nil => simp
    | cons a l => have := h a (by simp); omega
  | n + 1, l, hn, h => by
    have h1 := nodup_below n (l.filter fun x => decide (x ≠ (n : Int))) (hn.filter _) fun x hx => by
      simp only [List.mem_filter, decide_eq_true_eq] at hx
      have := h x hx.1
      omega
    have h2 : l.length ≤ (l.filter fun x => decide (x ≠ (n : Int))).length + 1 := by
      clear h h1
      induction l with
      | nil => simp
      | cons a l ih =>
        rw [List.nodup_cons] at hn
        simp only [List.filter_cons]
        split
        · have := ih hn.2; simp only [List.length_cons]; omega
        · rename_i ha
          simp only [decide_eq_true_eq, ne_eq, Decidable.not_not] at ha
          have : l.filter (fun x => decide (x ≠ (n : Int))) = l := List.filter_eq_self.2 fun x hx => by
            simp only [decide_eq_true_eq]
            rintro rfl
            exact hn.1 (ha ▸ hx)
          rw [this]; simp
    omega
theorem Seen.len {H : AHeap} {come : List Int} (h : Seen H come) : come.length ≤ H.slots.length := nodup_below _ _ h.1 h.2
theorem walks_end {H : AHeap} {f : Nat} (hf : ∀ w come fl, Seen H come → H.slots.length + 1 ≤ f + come.length → (∀ e, walkF H f w come fl = .bad e → e ≠ 999) ∧ ∀ v c2 f2, walkF H f w come fl = .ok v c2 f2 → Seen H c2 ∧ come.length ≤ c2.length) :
    ∀ (ws : List AWord) (come : List Int) (fl : Bool), Seen H come → H.slots.length + 1 ≤ f + come.length → (∀ e, walksF (walkF H f) ws come fl = .bad e → e ≠ 999) ∧ ∀ v c2 f2, walksF (walkF H f) ws come fl = .ok v c2 f2 → Seen H c2 ∧ come.length ≤ c2.length
  | [], come, fl, hs, hl => by
    simp only [walksF]
    refine ⟨fun e h => (by cases h), fun v c2 f2 h => ?_⟩
    cases h
    exact ⟨hs, Nat.le_refl _⟩
  | w :: ws, come, fl, hs, hl => by
    obtain ⟨h1, h2⟩ := hf w come fl hs hl
    simp only [walksF]
    cases hw : walkF H f w come fl with
    | bad e =>
      refine ⟨fun e' h => ?_, fun v c2 f2 h => by cases h⟩
      cases h
      exact h1 _ hw
    | ok v c f0 =>
      obtain ⟨s1, l1⟩ := h2 _ _ _ hw
      obtain ⟨h3, h4⟩ := walks_end hf ws c f0 s1 (by omega)
      simp only
      cases hws : walksF (walkF H f) ws c f0 with
      | bad e =>
        refine ⟨fun e' h => ?_, fun v c2 f2 h => by cases h⟩
        cases h
        exact h3 _ hws
      | ok vs c3 f3 =>
        refine ⟨fun e' h => (by cases h), fun v c2 f2 h => ?_⟩
        cases h
        obtain ⟨s2, l2⟩ := h4 _ _ _ hws
        exact ⟨s2, by omega⟩
theorem find_not {H : AHeap} {w : AWord} (h : (H.find w).1 ≠ 0) : (H.find w).1 ≠ 999 := by
  unfold AHeap.find at h ⊢
  split
  · simp
  · split
    · simp
    · split
      · split <;> simp
      · simp
theorem walk_end (H : AHeap) : ∀ (f : Nat) (w : AWord) (come : List Int) (fl : Bool), Seen H come → H.slots.length + 1 ≤ f + come.length → (∀ e, walkF H f w come fl = .bad e → e ≠ 999) ∧ ∀ v c2 f2, walkF H f w come fl = .ok v c2 f2 → Seen H c2 ∧ come.length ≤ c2.length
  | 0, w, come, fl, hs, hl => by have := hs.len; omega
  | f + 1, w, come, fl, hs, hl => by
    unfold walkF
    split
    · exact ⟨fun e h => (by cases h; decide), fun v c2 f2 h => by cases h⟩
    · split
      · refine ⟨fun e h => (by cases h), fun v c2 f2 h => ?_⟩
        cases h
        exact ⟨hs, Nat.le_refl _⟩
      · split
        · rename_i hk
          exact ⟨fun e h => (by cases h; exact find_not hk), fun v c2 f2 h => by cases h⟩
        · rename_i hfi
          split
          · exact ⟨fun e h => (by cases h; decide), fun v c2 f2 h => by cases h⟩
          · rename_i hc
            simp only [ne_eq, Decidable.not_not] at hfi
            obtain ⟨_, _, a1, a2, a3, _⟩ := AHeap.find_zero hfi
            have hs2 : Seen H (come ++ [w.n]) := ⟨List.nodup_append.2 ⟨hs.1, by simp, fun a ha b hb e => by rw [List.mem_singleton] at hb; subst hb; subst e; exact hc ha⟩, fun x hx => by
              rcases List.mem_append.1 hx with hx | hx
              · exact hs.2 x hx
              · rw [List.mem_singleton] at hx; subst hx; omega⟩
            obtain ⟨h1, h2⟩ := walks_end (walk_end H f) (H.get w).1.ws (come ++ [w.n]) fl hs2 (by simp; omega)
            cases hw : walksF (walkF H f) (H.get w).1.ws (come ++ [w.n]) fl with
            | bad e =>
              refine ⟨fun e' h => ?_, fun v c2 f2 h => by cases h⟩
              cases h
              exact h1 _ hw
            | ok vs c3 f3 =>
              refine ⟨fun e' h => (by cases h), fun v c2 f2 h => ?_⟩
              cases h
              obtain ⟨s1, l1⟩ := h2 _ _ _ hw
              simp at l1
              exact ⟨s1, by omega⟩
theorem walk_fine (H : AHeap) {f : Nat} (hf : H.slots.length + 1 ≤ f) (w : AWord) (fl : Bool) : walkF H f w [] fl ≠ .bad 999 := fun h =>
  (walk_end H f w [] fl ⟨List.nodup_nil, fun x hx => by cases hx⟩ (by simpa using hf)).1 _ h rfl
theorem walks_fine (H : AHeap) {f : Nat} (hf : H.slots.length + 1 ≤ f) (ws : List AWord) (fl : Bool) : walksF (walkF H f) ws [] fl ≠ .bad 999 := fun h =>
  (walks_end (walk_end H f) ws [] fl ⟨List.nodup_nil, fun x hx => by cases hx⟩ (by simpa using hf)).1 _ h rfl

/-! What the calls answer. -/
section
variable {H : AHeap} {B : Int} {v : Val} {w : AWord} {S : List Nat} {f : Nat}
theorem Holds.value (ok : H.Ok B) (h : Holds H v w S) (hn : S.Nodup) (hf : massV v ≤ f) : walkF H f w [] false = .ok v (intsN S) (filesV v) := by
  have := h.walk ok f [] false hf (by simpa using intsN_nodup hn)
  simpa using this
theorem Holds.valueM (ok : H.Ok B) (h : Holds H v w S) (hn : S.Nodup) (hf : massV v ≤ f) : valueM H f w = (v, 0) := by
  unfold Go.Proofs.Ytciciaikajdenaa.valueM; rw [h.value ok hn hf]
theorem Holds.copyM (ok : H.Ok B) (h : Holds H v w S) (hn : S.Nodup) (hf : massV v ≤ f) : copyM H f w = if filesV v then ((.zero, 240), H) else buildM H v := by
  unfold Go.Proofs.Ytciciaikajdenaa.copyM; rw [h.value ok hn hf]
theorem HoldsL.reachM {l : List Val} {ws : List AWord} (ok : H.Ok B) (h : HoldsL H l ws S) (hn : S.Nodup) (hf : massVL l ≤ f) : reachM H f ws = ((S.length : Int), 0) := by
  unfold Go.Proofs.Ytciciaikajdenaa.reachM
  rw [h.walk ok f [] false hf (by simpa using intsN_nodup hn)]
  simp [intsN]
theorem Holds.one (h : Holds H v w S) : HoldsL H [v] [w] S := ⟨w, [], S, [], rfl, by simp, h, rfl, rfl⟩
theorem Holds.reachM (ok : H.Ok B) (h : Holds H v w S) (hn : S.Nodup) (hf : massV v ≤ f) : reachM H f [w] = ((S.length : Int), 0) :=
  h.one.reachM ok hn (by simp [massVL]; omega)
theorem Holds.dropM (ok : H.Ok B) (h : Holds H v w S) (hn : S.Nodup) (hf : massV v ≤ f) : dropM H f w = (0, dropF f H w) := by
  unfold Go.Proofs.Ytciciaikajdenaa.dropM; rw [h.reachM ok hn hf]; simp
end
/-- As many live as there are, at most. -/
theorem Gone.live {H K : AHeap} {S : List Nat} (g : Gone H K S) : K.live = H.live - S.length := by
  unfold AHeap.live; rw [g.len, g.free]; simp; omega
end Go.Proofs.Ytciciaikajdenaa
/- N24: the chapter's rows, in plain data. No program in sight. -/
set_option linter.unusedSimpArgs false
set_option linter.unusedVariables false
namespace Go.Proofs.Ytciciaikajdenaa
open Go.RowKit

def v0 : Val := .mk 11 3 ⟨#[]⟩ [.mk 1 1 ⟨#[]⟩ [], .mk 13 0 ⟨#[]⟩ []]
def vArr : Val := .mk 13 0 ⟨#[]⟩ []
def vBad : Val := .mk 5 0 ⟨#[]⟩ []
def cA : ASlot := ⟨⟨3, 0, []⟩, 0, true⟩
def cB (i : Nat) : ASlot := ⟨⟨1, 3, [⟨1, 1, ⟨#[]⟩, 0⟩, cellWord i 0]⟩, 0, true⟩
def cD : ASlot := ⟨.zero, 1, false⟩
def H1 : AHeap := ⟨9, 2, [cA, cB 0], []⟩
def H2 : AHeap := ⟨9, 4, [cA, cB 0, cA, cB 2], []⟩
def H3 : AHeap := ⟨9, 4, [cD, cD, cA, cB 2], [1, 0]⟩
def H4 : AHeap := ⟨9, 4, [⟨⟨3, 0, []⟩, 1, true⟩, cD, cA, cB 2], [1]⟩
theorem empty_list : (ByteArray.mk #[]).toList = [] := by simp [ByteArray.toList_eq]
theorem cw_ok (n : Nat) (g : Nat) : (cellWord n g).ok = true := by simp [cellWord, AWord.ok, empty_list]
theorem w1_ok : (⟨1, 1, ⟨#[]⟩, 0⟩ : AWord).ok = true := by simp [AWord.ok, empty_list]
theorem cA_ok : (⟨3, 0, []⟩ : ACell).ok = true := by simp [ACell.ok, ACell.headOk]
theorem cB_ok (i : Nat) : (⟨1, 3, [⟨1, 1, ⟨#[]⟩, 0⟩, cellWord i 0]⟩ : ACell).ok = true := by
  have h := cw_ok i 0
  have h1 := w1_ok
  simp only [Int.ofNat_zero, Int.natCast_zero] at h
  simp [ACell.ok, ACell.headOk, h1, h]
theorem may0 : mayV v0 = true := by
  simp [mayV, mayL, v0, headV, emptyB]
theorem mayArr : mayV vArr = true := by
  simp [mayV, mayL, vArr, headV, emptyB]
theorem mayBad : mayV vBad = false := by
  simp [mayV, mayL, vBad, headV, emptyB]
theorem cells0 : cellsV v0 = 2 := by decide
theorem files0 : filesV v0 = false := by decide
theorem f1 : buildM (.new 9) v0 = ((cellWord 1 0, 0), H1) := by
  have e : makeE (.new 9) v0 = 0 := by
    unfold makeE; rw [may0, cells0]; decide
  unfold buildM
  rw [if_pos e]
  have h1 := cA_ok
  have h2 := cB_ok 0
  simp only [Int.natCast_zero] at h2
  simp [v0, buildF, buildsF, AHeap.alloc, h1, h2, AHeap.new, AHeap.live, AHeap.give, H1, cA, cB]
  decide
theorem ok1 : H1.Ok 0 := by
  have := (build_ok (B := 0) (by decide) v0 (.new 9) may0 (AHeap.new_ok 9 (by decide) (by decide) 0) (by rw [cells0]; decide)).1.ok
  have h : (buildM (.new 9) v0).2 = H1 := by rw [f1]
  have e : makeE (.new 9) v0 = 0 := by
    unfold makeE; rw [may0, cells0]; decide
  unfold buildM at h
  rw [if_pos e] at h
  exact h ▸ this
theorem make4 (H : AHeap) (v : Val) (h : mayV v = true) (hr : ¬ H.room - H.live < cellsV v) : makeE H v = 0 := by
  unfold makeE; rw [if_neg (by rw [h]; simp), if_neg hr]
theorem hold0 {H : AHeap} {i j : Nat} (hi : H.slots[i]? = some (cB j)) (hj : H.slots[j]? = some cA) : Holds H v0 (cellWord i 0) [i, j] := by
  have l1 := (List.getElem?_eq_some_iff.1 hi).1
  have l2 := (List.getElem?_eq_some_iff.1 hj).1
  have e1 : H.slot i = cB j := by unfold AHeap.slot; simp [List.getD, hi]
  have e2 : H.slot j = cA := by unfold AHeap.slot; simp [List.getD, hj]
  refine .inr ⟨by decide, i, [j], by rw [e1]; rfl, l1, by rw [e1]; rfl, by rw [e1]; rfl, by rw [e1]; rfl, rfl, rfl, ?_⟩
  rw [e1]
  exact ⟨_, _, [], [j], rfl, rfl, .inl ⟨by decide, by decide, rfl, w1_ok, rfl, rfl⟩, _, _, [j], [], rfl, rfl, .inr ⟨by decide, j, [], by rw [e2]; rfl, l2, by rw [e2]; rfl, by rw [e2]; rfl, by rw [e2]; rfl, rfl, rfl, by rw [e2]; exact ⟨rfl, rfl⟩⟩, rfl, rfl⟩
theorem mass0 : massV v0 ≤ 8 := by decide
theorem makeOf {H : AHeap} {v : Val} (h : mayV v = true) (hr : ¬ H.room - H.live < cellsV v) : buildM H v = (((buildF H v).1, 0), (buildF H v).2) := by
  unfold buildM; rw [if_pos]; unfold makeE; rw [if_neg (by rw [h]; simp), if_neg hr]
theorem f2 : reachM H1 8 [cellWord 1 0] = (2, 0) := (hold0 (H := H1) (i := 1) (j := 0) rfl rfl).reachM ok1 (by decide) mass0
theorem f3 : valueM H1 8 (cellWord 1 0) = (v0, 0) := (hold0 (H := H1) (i := 1) (j := 0) rfl rfl).valueM ok1 (by decide) mass0
theorem b2 : buildF H1 v0 = (cellWord 3 0, H2) := by
  have h1 := cA_ok
  have h2 := cB_ok 2
  simp only [show ((2 : Nat) : Int) = 2 from rfl] at h2
  simp [v0, buildF, buildsF, AHeap.alloc, h1, h2, AHeap.new, AHeap.live, AHeap.give, H1, cA, cB, H2]
  decide
theorem f4 : copyM H1 8 (cellWord 1 0) = ((cellWord 3 0, 0), H2) := by
  have h := (hold0 (H := H1) (i := 1) (j := 0) rfl rfl).copyM ok1 (by decide) mass0
  simp only [Int.natCast_one] at h
  rw [h, files0, if_neg (by decide), makeOf may0 (by rw [cells0]; decide), b2]
theorem ok2 : H2.Ok 0 := by
  have := (build_ok (B := 0) (by decide) v0 H1 may0 ok1 (by rw [cells0]; decide)).1.ok
  rw [b2] at this
  exact this
theorem f5 : valueM H2 8 (cellWord 3 0) = (v0, 0) := (hold0 (H := H2) (i := 3) (j := 2) rfl rfl).valueM ok2 (by decide) mass0
theorem finds {H : AHeap} {B : Int} (ok : H.Ok B) (i g : Nat) (hi : i < H.slots.length) (hl : (H.slot i).lives = true) (hg : (H.slot i).gen = (g : Int)) : H.find (cellWord i g) = (0, i) := by
  have := find_cell ok hi hl
  rw [hg] at this
  exact this
theorem d2 : dropF 8 H2 (cellWord 1 0) = H3 := by
  have a := finds ok2 1 0 (by decide) rfl rfl
  have okf := ok2.freed (i := 1) (by decide) rfl
  have b := finds okf 0 0 (by decide) rfl rfl
  simp only [Int.natCast_zero, Int.natCast_one] at a b
  have e5 : ∀ n g, (cellWord n g).k = 5 := fun _ _ => rfl
  have q1 : H2.drop (cellWord 1 0) = (((cB 0).c, 0), H2.freed 1) := by unfold AHeap.drop; rw [a]; rfl
  have q2 : (H2.freed 1).drop (cellWord 0 0) = ((cA.c, 0), (H2.freed 1).freed 0) := by unfold AHeap.drop; rw [b]; rfl
  simp [dropF, dropsF, q1, q2, e5, cA, cB]
  rfl
theorem f6 : dropM H2 8 (cellWord 1 0) = (0, H3) := by
  have h := (hold0 (H := H2) (i := 1) (j := 0) rfl rfl).dropM ok2 (by decide) mass0
  simp only [Int.natCast_one] at h
  rw [h, d2]
theorem n6 : (0 : Int) + dropN 8 H2 (cellWord 1 0) < 1000000000 ∧ fuelOk 8 H2 (cellWord 1 0) := by
  obtain ⟨_, h, k⟩ := (hold0 (H := H2) (i := 1) (j := 0) rfl rfl).drop ok2 (by decide) 8 mass0
  rw [show (cellWord ((1 : Nat) : Int) 0) = cellWord 1 0 from rfl] at h k
  rw [h]
  exact ⟨by decide, k⟩
theorem ok3 : H3.Ok 2 := by
  have := dropF_ok 8 H2 (cellWord 1 0) 0 ok2
  obtain ⟨_, h, k⟩ := (hold0 (H := H2) (i := 1) (j := 0) rfl rfl).drop ok2 (by decide) 8 mass0
  rw [show (cellWord ((1 : Nat) : Int) 0) = cellWord 1 0 from rfl] at h k
  rw [d2, h] at this
  exact this
theorem b4 : buildF H3 vArr = (cellWord 0 1, H4) := by
  have h1 := cA_ok
  simp [vArr, buildF, buildsF, AHeap.alloc, h1, AHeap.live, AHeap.give, H3, cA, cB, H4, AHeap.slot, cD]
  decide
theorem f7 : buildM H3 vArr = ((cellWord 0 1, 0), H4) := by
  rw [makeOf mayArr (by decide), b4]
theorem ok4 : H4.Ok 2 := by
  have := (build_ok (B := 2) (by decide) vArr H3 mayArr ok3 (by decide)).1.ok
  rw [b4] at this
  exact this
theorem f8 : reachM H4 8 [cellWord 1 0] = (0, 230) := by
  have a := cw_ok 1 0
  simp only [Int.natCast_zero, Int.natCast_one] at a
  have e5 : (cellWord 1 0).k = 5 := rfl
  have hf : (H4.find (cellWord 1 0)).1 = 230 := by
    unfold AHeap.find
    rw [if_neg (by rw [a]; decide)]
    rfl
  simp [reachM, walksF, walkF, a, e5, hf]
theorem f9 : copyM H4 8 ⟨7, 0, ⟨#[]⟩, 0⟩ = ((.zero, 240), H4) := by
  have a : (⟨7, 0, ⟨#[]⟩, 0⟩ : AWord).ok = true := by simp [AWord.ok, empty_list]
  simp [copyM, walkF, a]
theorem f10 : buildM H4 vBad = ((.zero, 2), H4) := by
  unfold buildM makeE; rw [mayBad]; rfl
theorem live1 : LiveOk H1 := by
  have := (live_new 9).buildM v0
  rw [f1] at this
  exact this
theorem live2 : LiveOk H2 := by
  have := live1.copyM 8 (cellWord 1 0)
  rw [f4] at this
  exact this
theorem live3 : LiveOk H3 := by
  have := live2.dropM 8 (cellWord 1 0)
  rw [f6] at this
  exact this
theorem live4 : LiveOk H4 := by
  have := live3.buildM vArr
  rw [f7] at this
  exact this
end Go.Proofs.Ytciciaikajdenaa
