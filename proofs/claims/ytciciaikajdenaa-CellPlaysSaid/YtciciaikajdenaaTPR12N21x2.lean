/- N21: what a word has in a heap, on cells of its own; walks, buildings and droppings of it. No program in sight. -/
import Derived.Test.YtciciaikajdenaaTPR12N19x2
set_option linter.unusedSimpArgs false
set_option linter.unusedVariables false
namespace Go.Proofs.Ytciciaikajdenaa
open Go.RowKit

mutual
/-- A word has a value, on cells. -/
def Holds (H : AHeap) : Val → AWord → List Nat → Prop
  | .mk k n s l, w, S => (k < 11 ∧ k ≠ 5 ∧ w = ⟨k, n, s, 0⟩ ∧ w.ok = true ∧ l = [] ∧ S = []) ∨
    (¬ k < 11 ∧ ∃ (i : Nat) (SS : List Nat), w = cellWord i (H.slot i).gen ∧ i < H.slots.length ∧ (H.slot i).lives = true ∧ (H.slot i).c.k = k - 10 ∧ (H.slot i).c.n = n ∧ s = ⟨#[]⟩ ∧ S = i :: SS ∧ HoldsL H l (H.slot i).c.ws SS)
def HoldsL (H : AHeap) : List Val → List AWord → List Nat → Prop
  | [], ws, S => ws = [] ∧ S = []
  | v :: l, ws, S => ∃ w ws' S1 S2, ws = w :: ws' ∧ S = S1 ++ S2 ∧ Holds H v w S1 ∧ HoldsL H l ws' S2
end
mutual
theorem Holds.frame {H K : AHeap} : ∀ {v : Val} {w : AWord} {S : List Nat}, Holds H v w S → (∀ i ∈ S, K.slot i = H.slot i ∧ i < K.slots.length) → Holds K v w S
  | .mk k n s l, w, S, h, hf => by
    rcases h with h | ⟨h0, i, SS, h1, h2, h3, h4, h5, h6, rfl, h8⟩
    · exact .inl h
    · obtain ⟨e, hl⟩ := hf i (by simp)
      refine .inr ⟨h0, i, SS, by rw [e]; exact h1, hl, by rw [e]; exact h3, by rw [e]; exact h4, by rw [e]; exact h5, h6, rfl, ?_⟩
      rw [e]
      exact HoldsL.frame h8 fun j hj => hf j (by simp [hj])
theorem HoldsL.frame {H K : AHeap} : ∀ {l : List Val} {ws : List AWord} {S : List Nat}, HoldsL H l ws S → (∀ i ∈ S, K.slot i = H.slot i ∧ i < K.slots.length) → HoldsL K l ws S
  | [], ws, S, h, hf => h
  | v :: l, ws, S, ⟨w, ws', S1, S2, e1, e2, h1, h2⟩, hf => by
    subst e2
    exact ⟨w, ws', S1, S2, e1, rfl, h1.frame fun i hi => hf i (by simp [hi]), h2.frame fun i hi => hf i (by simp [hi])⟩
end
mutual
theorem Holds.alive {H : AHeap} : ∀ {v : Val} {w : AWord} {S : List Nat}, Holds H v w S → ∀ i ∈ S, i < H.slots.length ∧ (H.slot i).lives = true
  | .mk k n s l, w, S, h, i, hi => by
    rcases h with ⟨_, _, _, _, _, rfl⟩ | ⟨h0, j, SS, h1, h2, h3, h4, h5, h6, rfl, h8⟩
    · cases hi
    · rcases List.mem_cons.1 hi with rfl | hi
      · exact ⟨h2, h3⟩
      · exact HoldsL.alive h8 i hi
theorem HoldsL.alive {H : AHeap} : ∀ {l : List Val} {ws : List AWord} {S : List Nat}, HoldsL H l ws S → ∀ i ∈ S, i < H.slots.length ∧ (H.slot i).lives = true
  | [], ws, S, ⟨_, h⟩, i, hi => by subst h; cases hi
  | v :: l, ws, S, ⟨w, ws', S1, S2, e1, e2, h1, h2⟩, i, hi => by
    subst e2
    rcases List.mem_append.1 hi with hi | hi
    · exact h1.alive i hi
    · exact h2.alive i hi
end
mutual
theorem Holds.count {H : AHeap} : ∀ {v : Val} {w : AWord} {S : List Nat}, Holds H v w S → S.length = cellsV v
  | .mk k n s l, w, S, h => by
    rcases h with ⟨hk, _, _, _, rfl, rfl⟩ | ⟨h0, j, SS, h1, h2, h3, h4, h5, h6, rfl, h8⟩
    · simp only [cellsV, cellsL]; rw [if_neg (by omega)]; rfl
    · simp only [cellsV, List.length_cons]; rw [if_pos (by omega), HoldsL.count h8]; omega
theorem HoldsL.count {H : AHeap} : ∀ {l : List Val} {ws : List AWord} {S : List Nat}, HoldsL H l ws S → S.length = cellsL l
  | [], ws, S, ⟨_, h⟩ => by subst h; rfl
  | v :: l, ws, S, ⟨w, ws', S1, S2, e1, e2, h1, h2⟩ => by
    subst e2
    simp only [List.length_append, cellsL, h1.count, h2.count]
end
theorem find_cell {H : AHeap} {B : Int} (ok : H.Ok B) {i : Nat} (hi : i < H.slots.length) (hl : (H.slot i).lives = true) : H.find (cellWord i (H.slot i).gen) = (0, i) := by
  have hg := (ok.gens _ (AHeap.slot_mem hi)).1
  have hw : (cellWord i (H.slot i).gen).ok = true := by
    simp [cellWord, AWord.ok, ByteArray.toList_eq, hg]
  unfold AHeap.find
  rw [if_neg (by rw [hw]; simp [cellWord]), if_neg (by simp only [cellWord]; omega)]
  have e : (cellWord i (H.slot i).gen).n.toNat = i := by simp [cellWord]
  rw [e, AHeap.slot_get hi]
  simp only
  rw [if_pos ⟨hl, rfl⟩]
theorem word_cell {H : AHeap} {B : Int} (ok : H.Ok B) {i : Nat} (hi : i < H.slots.length) : (cellWord i (H.slot i).gen).ok = true := by
  have hg := (ok.gens _ (AHeap.slot_mem hi)).1
  simp [cellWord, AWord.ok, ByteArray.toList_eq, hg]
theorem get_cell {H : AHeap} {B : Int} (ok : H.Ok B) {i : Nat} (hi : i < H.slots.length) (hl : (H.slot i).lives = true) : H.get (cellWord i (H.slot i).gen) = ((H.slot i).c, 0) := by
  unfold AHeap.get
  rw [find_cell ok hi hl]
  rfl
mutual
/-- Does a handle or the Io stand in a value? -/
def filesV : Val → Bool
  | .mk k _ _ l => (decide (k = 6) || decide (k = 7)) || filesL l
def filesL : List Val → Bool
  | [] => false
  | p :: l => filesV p || filesL l
end
def intsN (S : List Nat) : List Int := S.map fun (i : Nat) => (i : Int)
theorem intsN_append (a b : List Nat) : intsN (a ++ b) = intsN a ++ intsN b := by simp [intsN]
mutual
theorem Holds.walk {H : AHeap} {B : Int} (ok : H.Ok B) : ∀ {v : Val} {w : AWord} {S : List Nat}, Holds H v w S → ∀ (f : Nat) (come : List Int) (fl : Bool), massV v ≤ f → (come ++ intsN S).Nodup → walkF H f w come fl = .ok v (come ++ intsN S) (fl || filesV v)
  | .mk k n s l, w, S, h, 0, come, fl, hf, _ => by simp only [massV] at hf; omega
  | .mk k n s l, w, S, h, f + 1, come, fl, hf, hnd => by
    rcases h with ⟨h1, h2, rfl, h4, rfl, rfl⟩ | ⟨h0, i, SS, rfl, h2, h3, h4, h5, rfl, rfl, h8⟩
    · unfold walkF
      rw [if_neg (by rw [h4]; simp), if_pos h2]
      simp [intsN, filesV, filesL]
    · have hnot : (i : Int) ∉ come := fun h => by
        rw [List.nodup_append] at hnd
        exact hnd.2.2 _ h _ (by simp [intsN]) rfl
      have hnd2 : ((come ++ [(i : Int)]) ++ intsN SS).Nodup := by
        rw [List.append_assoc]; exact hnd
      simp only [massV] at hf
      have hw := HoldsL.walk ok h8 f (come ++ [(i : Int)]) fl (by omega) hnd2
      unfold walkF
      rw [if_neg (by rw [word_cell ok h2]; simp), if_neg (by simp [cellWord]), find_cell ok h2 h3, if_neg (by simp), if_neg (by exact hnot), get_cell ok h2 h3]
      have hn : (cellWord i (H.slot i).gen).n = (i : Int) := rfl
      simp only [hn, hw]
      have e : (come ++ [(i : Int)]) ++ intsN SS = come ++ intsN (i :: SS) := by simp [intsN]
      rw [e, h4, h5]
      have : k - 10 + 10 = k := by omega
      rw [this]
      simp [filesV, show k ≠ 6 by omega, show k ≠ 7 by omega]
theorem HoldsL.walk {H : AHeap} {B : Int} (ok : H.Ok B) : ∀ {l : List Val} {ws : List AWord} {S : List Nat}, HoldsL H l ws S → ∀ (f : Nat) (come : List Int) (fl : Bool), massVL l ≤ f → (come ++ intsN S).Nodup → walksF (walkF H f) ws come fl = .ok l (come ++ intsN S) (fl || filesL l)
  | [], ws, S, ⟨h1, h2⟩, f, come, fl, _, _ => by subst h1 h2; simp [walksF, intsN, filesL]
  | v :: l, ws, S, ⟨w, ws', S1, S2, e1, e2, h1, h2⟩, f, come, fl, hf, hnd => by
    subst e1 e2
    simp only [massVL] at hf
    rw [intsN_append, ← List.append_assoc] at hnd
    have hw1 := h1.walk ok f come fl (by omega) (List.nodup_append.1 hnd).1
    have hw2 := h2.walk ok f (come ++ intsN S1) (fl || filesV v) (by omega) hnd
    simp only [walksF, hw1, hw2, filesL, Bool.or_assoc, intsN_append, List.append_assoc]
end
theorem intsN_nodup {S : List Nat} (h : S.Nodup) : (intsN S).Nodup := by
  unfold intsN
  rw [List.nodup_iff_pairwise_ne, List.pairwise_map]
  exact (List.nodup_iff_pairwise_ne.1 h).imp fun hab h => hab (by omega)
end Go.Proofs.Ytciciaikajdenaa
/- N22: what is built has its value, on new cells; what is dropped is freed. No program in sight. -/
set_option linter.unusedSimpArgs false
set_option linter.unusedVariables false
namespace Go.Proofs.Ytciciaikajdenaa
open Go.RowKit

/-- What lives in H stands in K as it was. -/
structure Grown (H K : AHeap) : Prop where
  len : H.slots.length ≤ K.slots.length
  keep : ∀ i, i < H.slots.length → (H.slot i).lives = true → K.slot i = H.slot i
theorem Grown.refl (H : AHeap) : Grown H H := ⟨Nat.le_refl _, fun _ _ _ => rfl⟩
theorem Grown.trans {H K M : AHeap} (h : Grown H K) (k : Grown K M) : Grown H M :=
  ⟨Nat.le_trans h.len k.len, fun i hi hl => by rw [k.keep i (Nat.lt_of_lt_of_le hi h.len) (by rw [h.keep i hi hl]; exact hl), h.keep i hi hl]⟩
/-- A slot that does not live in H. -/
def NotIn (H : AHeap) (i : Nat) : Prop := ¬ (i < H.slots.length ∧ (H.slot i).lives = true)
theorem NotIn.back {H K : AHeap} (h : Grown H K) {i : Nat} (k : NotIn K i) : NotIn H i := fun ⟨a, b⟩ => k ⟨Nat.lt_of_lt_of_le a h.len, by rw [h.keep i a b]; exact b⟩
theorem Holds.grown {H K : AHeap} (g : Grown H K) {v : Val} {w : AWord} {S : List Nat} (h : Holds H v w S) : Holds K v w S :=
  h.frame fun i hi => ⟨g.keep i (h.alive i hi).1 (h.alive i hi).2, Nat.lt_of_lt_of_le (h.alive i hi).1 g.len⟩
theorem HoldsL.grown {H K : AHeap} (g : Grown H K) {l : List Val} {ws : List AWord} {S : List Nat} (h : HoldsL H l ws S) : HoldsL K l ws S :=
  h.frame fun i hi => ⟨g.keep i (h.alive i hi).1 (h.alive i hi).2, Nat.lt_of_lt_of_le (h.alive i hi).1 g.len⟩
/-- The cell that is given. -/
theorem give_new_cell {H : AHeap} {B : Int} (ok : H.Ok B) (c : ACell) : ∃ i : Nat, NotIn H i ∧ i < (H.give c).2.slots.length ∧ ((H.give c).2.slot i).lives = true ∧ ((H.give c).2.slot i).c = c ∧ (H.give c).1 = cellWord i ((H.give c).2.slot i).gen ∧ Grown H (H.give c).2 := by
  unfold AHeap.give
  cases hl : H.free.getLast? with
  | some i =>
    dsimp only
    have hm := List.mem_of_getLast? hl
    obtain ⟨hi, hd⟩ := ok.dead i hm
    have hs : ∀ j, AHeap.slot { H with slots := H.slots.set i ⟨c, (H.slot i).gen, true⟩, free := H.free.dropLast, most := max H.most (H.live + 1) } j = if i = j then ⟨c, (H.slot i).gen, true⟩ else H.slot j := slot_set (H := H) rfl hi
    refine ⟨i, (fun ⟨_, h⟩ => by (rw [hd] at h; cases h)), by simpa using hi, ?_, ?_, ?_, by simp, fun j hj hlv => ?_⟩
    · rw [hs, if_pos rfl]
    · rw [hs, if_pos rfl]
    · rw [hs, if_pos rfl]
    · rw [hs, if_neg]
      rintro rfl
      rw [hd] at hlv; cases hlv
  | none =>
    dsimp only
    have hs : ∀ j, AHeap.slot { H with slots := H.slots ++ [⟨c, 0, true⟩], most := max H.most (H.live + 1) } j = if j = H.slots.length then ⟨c, 0, true⟩ else H.slot j := fun j => by
      unfold AHeap.slot
      simp only [List.getD]
      by_cases e : j = H.slots.length
      · subst e; simp
      · rw [if_neg e]
        by_cases h2 : j < H.slots.length
        · rw [List.getElem?_append_left h2]
        · rw [List.getElem?_eq_none (by simp; omega), List.getElem?_eq_none (by omega)]
    refine ⟨H.slots.length, (fun ⟨h, _⟩ => by omega), by simp, ?_, ?_, ?_, by simp, fun j hj hlv => ?_⟩
    · rw [hs, if_pos rfl]
    · rw [hs, if_pos rfl]
    · rw [hs, if_pos rfl]
    · rw [hs, if_neg (by omega)]
mutual
theorem build_holds {B : Int} (hB : 0 ≤ B) : ∀ (v : Val) (H : AHeap), mayV v = true → H.Ok B → (cellsV v : Int) ≤ H.room - H.live → Grown H (buildF H v).2 ∧ ∃ S, Holds (buildF H v).2 v (buildF H v).1 S ∧ S.Nodup ∧ ∀ i ∈ S, NotIn H i
  | .mk k n s l, H, hm, ok, hr => by
    obtain ⟨h1, h2⟩ := may_split hm
    by_cases hk : k < 11
    · simp only [buildF, if_pos hk]
      have hz : l.length = 0 ∧ k ≠ 5 ∧ (⟨k, n, s, 0⟩ : AWord).ok = true := by
        rw [head_leaf hk] at h1
        simp only [Bool.and_eq_true, beq_iff_eq, decide_eq_true_eq] at h1
        exact ⟨h1.1, h1.2.1, h1.2.2⟩
      exact ⟨Grown.refl H, [], .inl ⟨hk, hz.2.1, rfl, hz.2.2, List.length_eq_zero_iff.1 hz.1, rfl⟩, List.nodup_nil, fun i hi => by cases hi⟩
    · simp only [cellsV, if_pos (show 10 < k by omega)] at hr
      obtain ⟨b1, b2⟩ := builds_ok hB l H h2 ok (by omega)
      obtain ⟨g1, SS, q1, q2, q3⟩ := builds_holds hB l H h2 ok (by omega)
      have hlive := b1.live
      have hroom := b1.room
      have hc := con_ok hk h1 (buildsF_len l H) b2
      have hs : s = ⟨#[]⟩ := by
        rw [head_con hk] at h1
        simp only [Bool.and_eq_true] at h1
        exact empty_iff.1 h1.1
      simp only [buildF, if_neg hk]
      rw [AHeap.alloc_give hc (by omega)]
      obtain ⟨i, i1, i2, i3, i4, i5, i6⟩ := give_new_cell b1.ok ⟨k - 10, n, (buildsF H l).1⟩
      have hnot : i ∉ SS := fun h => i1 (q1.alive i h)
      refine ⟨g1.trans i6, i :: SS, .inr ⟨hk, i, SS, i5, i2, i3, by rw [i4], by rw [i4], hs, rfl, ?_⟩, List.nodup_cons.2 ⟨hnot, q2⟩, fun j hj => ?_⟩
      · rw [i4]
        exact q1.grown i6
      · rcases List.mem_cons.1 hj with rfl | hj
        · exact i1.back g1
        · exact q3 j hj
theorem builds_holds {B : Int} (hB : 0 ≤ B) : ∀ (l : List Val) (H : AHeap), mayL l = true → H.Ok B → (cellsL l : Int) ≤ H.room - H.live → Grown H (buildsF H l).2 ∧ ∃ S, HoldsL (buildsF H l).2 l (buildsF H l).1 S ∧ S.Nodup ∧ ∀ i ∈ S, NotIn H i
  | [], H, _, ok, _ => ⟨Grown.refl H, [], ⟨rfl, rfl⟩, List.nodup_nil, fun i hi => by cases hi⟩
  | p :: l, H, hm, ok, hr => by
    simp only [mayL, Bool.and_eq_true] at hm
    simp only [cellsL] at hr
    obtain ⟨b1, b2⟩ := build_ok hB p H hm.1 ok (by omega)
    obtain ⟨g1, S1, q1, q2, q3⟩ := build_holds hB p H hm.1 ok (by omega)
    have hlive := b1.live
    have hroom := b1.room
    obtain ⟨g2, S2, r1, r2, r3⟩ := builds_holds hB l (buildF H p).2 hm.2 b1.ok (by omega)
    simp only [buildsF]
    refine ⟨g1.trans g2, S1 ++ S2, ⟨_, _, S1, S2, rfl, rfl, q1.grown g2, r1⟩, List.nodup_append.2 ⟨q2, r2, fun a ha b hb e => ?_⟩, fun i hi => ?_⟩
    · subst e
      exact r3 a hb (q1.alive a ha)
    · rcases List.mem_append.1 hi with hi | hi
      · exact q3 i hi
      · exact (r3 i hi).back g1
end
/-- What a dropping leaves. -/
structure Gone (H K : AHeap) (S : List Nat) : Prop where
  len : K.slots.length = H.slots.length
  room : K.room = H.room
  most : K.most = H.most
  free : K.free = H.free ++ S
  keep : ∀ i, i ∉ S → K.slot i = H.slot i
  dead : ∀ i ∈ S, (K.slot i).lives = false
theorem gone_refl (H : AHeap) : Gone H H [] := ⟨rfl, rfl, rfl, by simp, fun _ _ => rfl, fun i hi => by cases hi⟩
theorem Gone.trans {H K M : AHeap} {S T : List Nat} (h : Gone H K S) (k : Gone K M T) : Gone H M (S ++ T) := by
  refine ⟨k.len.trans h.len, k.room.trans h.room, k.most.trans h.most, by rw [k.free, h.free, List.append_assoc], fun i hi => ?_, fun i hi => ?_⟩
  · simp only [List.mem_append, not_or] at hi
    rw [k.keep i hi.2, h.keep i hi.1]
  · by_cases ht : i ∈ T
    · exact k.dead i ht
    · rw [k.keep i ht]
      exact h.dead i ((List.mem_append.1 hi).resolve_right ht)
theorem Holds.gone {H K : AHeap} {S T : List Nat} (g : Gone H K T) {v : Val} {w : AWord} (h : Holds H v w S) (hd : ∀ i ∈ S, i ∉ T) : Holds K v w S :=
  h.frame fun i hi => ⟨g.keep i (hd i hi), by rw [g.len]; exact (h.alive i hi).1⟩
theorem HoldsL.gone {H K : AHeap} {S T : List Nat} (g : Gone H K T) {l : List Val} {ws : List AWord} (h : HoldsL H l ws S) (hd : ∀ i ∈ S, i ∉ T) : HoldsL K l ws S :=
  h.frame fun i hi => ⟨g.keep i (hd i hi), by rw [g.len]; exact (h.alive i hi).1⟩
theorem gone_one {H : AHeap} {B : Int} (ok : H.Ok B) {i : Nat} (hi : i < H.slots.length) (hl : (H.slot i).lives = true) : (H.drop (cellWord i (H.slot i).gen)) = (((H.slot i).c, 0), H.freed i) ∧ Gone H (H.freed i) [i] := by
  refine ⟨?_, by simp [AHeap.freed], rfl, rfl, rfl, fun j hj => ?_, fun j hj => ?_⟩
  · unfold AHeap.drop
    rw [find_cell ok hi hl]
    rfl
  · rw [slot_set (H := H) (K := H.freed i) rfl hi, if_neg (by rintro rfl; simp at hj)]
  · simp at hj
    subst hj
    rw [slot_set (H := H) (K := H.freed j) rfl hi, if_pos rfl]
mutual
theorem Holds.drop : ∀ {v : Val} {w : AWord} {S : List Nat} {H : AHeap} {B : Int}, H.Ok B → Holds H v w S → S.Nodup → ∀ f, massV v ≤ f → Gone H (dropF f H w) S ∧ dropN f H w = S.length ∧ fuelOk f H w
  | .mk k n s l, w, S, H, B, ok, h, hnd, 0, hf => by simp only [massV] at hf; omega
  | .mk k n s l, w, S, H, B, ok, h, hnd, f + 1, hf => by
    rcases h with ⟨h1, h2, rfl, h4, rfl, rfl⟩ | ⟨h0, i, SS, rfl, h2, h3, h4, h5, rfl, rfl, h8⟩
    · simp only [dropF, dropN, fuelOk, if_neg h2]
      exact ⟨gone_refl H, rfl, fun h => absurd h h2⟩
    · obtain ⟨e, g⟩ := gone_one ok h2 h3
      obtain ⟨n1, n2⟩ := List.nodup_cons.1 hnd
      simp only [massV] at hf
      have h8' := h8.gone g fun j hj => by rintro h; simp at h; subst h; exact n1 hj
      have hkk : (H.freed i).slot i = ⟨.zero, (H.slot i).gen + 1, false⟩ := by rw [slot_set (H := H) (K := H.freed i) rfl h2, if_pos rfl]
      obtain ⟨q1, q2, q3⟩ := HoldsL.drop (ok.freed h2 h3) h8' n2 f (by omega)
      have hk5 : (cellWord i (H.slot i).gen).k = 5 := rfl
      simp only [dropF, dropN, fuelOk, if_pos hk5, e]
      exact ⟨g.trans q1, by rw [q2]; simp; omega, fun _ => q3⟩
theorem HoldsL.drop : ∀ {l : List Val} {ws : List AWord} {S : List Nat} {H : AHeap} {B : Int}, H.Ok B → HoldsL H l ws S → S.Nodup → ∀ f, massVL l ≤ f → Gone H (dropsF (dropF f) H ws) S ∧ dropsN (dropF f) (dropN f) H ws = S.length ∧ fuelsOk (dropF f) (fuelOk f) H ws
  | [], ws, S, H, B, ok, ⟨h1, h2⟩, hnd, f, hf => by subst h1 h2; exact ⟨gone_refl H, rfl, trivial⟩
  | v :: l, ws, S, H, B, ok, ⟨w, ws', S1, S2, e1, e2, h1, h2⟩, hnd, f, hf => by
    subst e1 e2
    obtain ⟨n1, n2, n3⟩ := List.nodup_append.1 hnd
    simp only [massVL] at hf
    obtain ⟨q1, q2, q3⟩ := h1.drop ok n1 f (by omega)
    have ok2 := dropF_ok f H w B ok
    obtain ⟨r1, r2, r3⟩ := HoldsL.drop ok2 (h2.gone q1 fun j hj hj2 => n3 j hj2 j hj rfl) n2 f (by omega)
    exact ⟨q1.trans r1, by simp only [dropsN, q2, r2, List.length_append], q3, r3⟩
end
end Go.Proofs.Ytciciaikajdenaa
