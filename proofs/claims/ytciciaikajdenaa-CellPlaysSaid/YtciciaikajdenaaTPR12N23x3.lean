/- N23: live cells may be; a walk comes to an end; what the calls answer of a word that has a value. No program in sight. -/
import Derived.WideKeyRuns
import Derived.Laws.StructEq
import Derived.Test.YtciciaikajdenaaTPR12N21x2
import Derived.Test.YtciciaikajdenaaTPR12Agx2
set_option linter.unusedSimpArgs false
set_option linter.unusedVariables false
namespace Go.Proofs.Ytciciaikajdenaa
open Go.RowKit

/-- What lives may be. -/
def LiveOk (H : AHeap) : Prop := ∀ s ∈ H.slots, s.lives = true → s.c.ok = true
theorem live_new (r : Int) : LiveOk (.new r) := fun s h => by simp [AHeap.new] at h
theorem LiveOk.slot {H : AHeap} (h : LiveOk H) {i : Nat} (hi : i < H.slots.length) (hl : (H.slot i).lives = true) : (H.slot i).c.ok = true := h _ (AHeap.slot_mem hi) hl
theorem LiveOk.give {H : AHeap} (h : LiveOk H) {c : ACell} (hc : c.ok = true) : LiveOk (H.give c).2 := by
  unfold AHeap.give
  cases H.free.getLast? with
  | some i =>
    intro s hs hl
    rcases List.mem_or_eq_of_mem_set hs with hs | rfl
    · exact h s hs hl
    · exact hc
  | none =>
    intro s hs hl
    rcases List.mem_append.1 hs with hs | hs
    · exact h s hs hl
    · rw [List.mem_singleton] at hs; subst hs; exact hc
theorem LiveOk.alloc {H : AHeap} (h : LiveOk H) (c : ACell) : LiveOk (H.alloc c).2 := by
  unfold AHeap.alloc
  split
  · exact h
  · rename_i hc
    split
    · exact h
    · exact h.give (by simpa using hc)
theorem LiveOk.freed {H : AHeap} (h : LiveOk H) (i : Nat) : LiveOk (H.freed i) := by
  intro s hs hl
  rcases List.mem_or_eq_of_mem_set hs with hs | rfl
  · exact h s hs hl
  · cases hl
theorem LiveOk.drop {H : AHeap} (h : LiveOk H) (w : AWord) : LiveOk (H.drop w).2 := by
  unfold AHeap.drop
  split
  · exact h
  · exact h.freed _
theorem LiveOk.dropsF {g : AHeap → AWord → AHeap} (hg : ∀ H w, LiveOk H → LiveOk (g H w)) : ∀ (ws : List AWord) (H : AHeap), LiveOk H → LiveOk (dropsF g H ws)
  | [], H, h => h
  | w :: ws, H, h => LiveOk.dropsF hg ws _ (hg H w h)
theorem LiveOk.dropF : ∀ (f : Nat) (H : AHeap) (w : AWord), LiveOk H → LiveOk (dropF f H w)
  | 0, H, w, h => h
  | f + 1, H, w, h => by
    simp only [Go.Proofs.Ytciciaikajdenaa.dropF]
    split
    · exact LiveOk.dropsF (fun H w h => LiveOk.dropF f H w h) _ _ (h.drop w)
    · exact h
mutual
theorem LiveOk.buildF : ∀ (v : Val) (H : AHeap), LiveOk H → LiveOk (buildF H v).2
  | .mk k n s l, H, h => by
    simp only [Go.Proofs.Ytciciaikajdenaa.buildF]
    split
    · exact h
    · exact (LiveOk.buildsF l H h).alloc _
theorem LiveOk.buildsF : ∀ (l : List Val) (H : AHeap), LiveOk H → LiveOk (buildsF H l).2
  | [], H, h => h
  | p :: l, H, h => by
    simp only [Go.Proofs.Ytciciaikajdenaa.buildsF]
    exact LiveOk.buildsF l _ (LiveOk.buildF p H h)
end
theorem LiveOk.buildM {H : AHeap} (h : LiveOk H) (v : Val) : LiveOk (buildM H v).2 := by
  unfold Go.Proofs.Ytciciaikajdenaa.buildM
  split
  · exact LiveOk.buildF v H h
  · exact h
theorem LiveOk.copyM {H : AHeap} (h : LiveOk H) (f : Nat) (w : AWord) : LiveOk (copyM H f w).2 := by
  unfold Go.Proofs.Ytciciaikajdenaa.copyM
  split
  · exact h
  · split
    · exact h
    · exact h.buildM _
theorem LiveOk.dropM {H : AHeap} (h : LiveOk H) (f : Nat) (w : AWord) : LiveOk (dropM H f w).2 := by
  unfold Go.Proofs.Ytciciaikajdenaa.dropM
  split
  · exact h
  · exact LiveOk.dropF f H w h
theorem ok_kind {c : ACell} (h : c.ok = true) : 1 ≤ c.k ∧ c.k ≤ 3 ∧ c.ws.length ≤ 64 := by
  simp only [ACell.ok, ACell.headOk, Bool.and_eq_true, Bool.or_eq_true, beq_iff_eq, decide_eq_true_eq] at h
  omega
theorem LiveOk.cells {H : AHeap} (h : LiveOk H) : CellsOk H := fun w he => by
  rw [get_err] at he
  obtain ⟨_, _, _, _, h1, h2, _⟩ := AHeap.find_zero he
  have e : (H.get w).1 = (H.slot (H.find w).2).c := by unfold AHeap.get; rw [if_pos he]
  rw [e]
  have := ok_kind (h.slot h1 h2)
  omega

/-! A walk with fuel enough comes to an end. -/
def Seen (H : AHeap) (come : List Int) : Prop := come.Nodup ∧ ∀ x ∈ come, 0 ≤ x ∧ x < (H.slots.length : Int)
theorem nodup_below : ∀ (n : Nat) (l : List Int), l.Nodup → (∀ x ∈ l, 0 ≤ x ∧ x < (n : Int)) → l.length ≤ n
  | 0, l, _, h => by
    cases l with
    | nil => simp
    | cons a l => have := h a (by simp); omega
  | n + 1, l, hn, h => by
    have h1 := nodup_below n (l.filter fun x => decide (x ≠ (n : Int))) (hn.filter _) fun x hx => by
      simp only [List.mem_filter, decide_eq_true_eq] at hx
      have := h x hx.1
      omega
    have h2 : l.length ≤ (l.filter fun x => decide (x ≠ (n : Int))).length + 1 := by
      clear h h1
      induction l with
      | nil => simp
      | cons a l ih =>
        rw [List.nodup_cons] at hn
        simp only [List.filter_cons]
        split
        · have := ih hn.2; simp only [List.length_cons]; omega
        · rename_i ha
          simp only [decide_eq_true_eq, ne_eq, Decidable.not_not] at ha
          have : l.filter (fun x => decide (x ≠ (n : Int))) = l := List.filter_eq_self.2 fun x hx => by
            simp only [decide_eq_true_eq]
            rintro rfl
            exact hn.1 (ha ▸ hx)
          rw [this]; simp
    omega
theorem Seen.len {H : AHeap} {come : List Int} (h : Seen H come) : come.length ≤ H.slots.length := nodup_below _ _ h.1 h.2
theorem walks_end {H : AHeap} {f : Nat} (hf : ∀ w come fl, Seen H come → H.slots.length + 1 ≤ f + come.length → (∀ e, walkF H f w come fl = .bad e → e ≠ 999) ∧ ∀ v c2 f2, walkF H f w come fl = .ok v c2 f2 → Seen H c2 ∧ come.length ≤ c2.length) :
    ∀ (ws : List AWord) (come : List Int) (fl : Bool), Seen H come → H.slots.length + 1 ≤ f + come.length → (∀ e, walksF (walkF H f) ws come fl = .bad e → e ≠ 999) ∧ ∀ v c2 f2, walksF (walkF H f) ws come fl = .ok v c2 f2 → Seen H c2 ∧ come.length ≤ c2.length
  | [], come, fl, hs, hl => by
    simp only [walksF]
    refine ⟨fun e h => (by cases h), fun v c2 f2 h => ?_⟩
    cases h
    exact ⟨hs, Nat.le_refl _⟩
  | w :: ws, come, fl, hs, hl => by
    obtain ⟨h1, h2⟩ := hf w come fl hs hl
    simp only [walksF]
    cases hw : walkF H f w come fl with
    | bad e =>
      refine ⟨fun e' h => ?_, fun v c2 f2 h => by cases h⟩
      cases h
      exact h1 _ hw
    | ok v c f0 =>
      obtain ⟨s1, l1⟩ := h2 _ _ _ hw
      obtain ⟨h3, h4⟩ := walks_end hf ws c f0 s1 (by omega)
      simp only
      cases hws : walksF (walkF H f) ws c f0 with
      | bad e =>
        refine ⟨fun e' h => ?_, fun v c2 f2 h => by cases h⟩
        cases h
        exact h3 _ hws
      | ok vs c3 f3 =>
        refine ⟨fun e' h => (by cases h), fun v c2 f2 h => ?_⟩
        cases h
        obtain ⟨s2, l2⟩ := h4 _ _ _ hws
        exact ⟨s2, by omega⟩
theorem find_not {H : AHeap} {w : AWord} (h : (H.find w).1 ≠ 0) : (H.find w).1 ≠ 999 := by
  unfold AHeap.find at h ⊢
  split
  · simp
  · split
    · simp
    · split
      · split <;> simp
      · simp
theorem walk_end (H : AHeap) : ∀ (f : Nat) (w : AWord) (come : List Int) (fl : Bool), Seen H come → H.slots.length + 1 ≤ f + come.length → (∀ e, walkF H f w come fl = .bad e → e ≠ 999) ∧ ∀ v c2 f2, walkF H f w come fl = .ok v c2 f2 → Seen H c2 ∧ come.length ≤ c2.length
  | 0, w, come, fl, hs, hl => by have := hs.len; omega
  | f + 1, w, come, fl, hs, hl => by
    unfold walkF
    split
    · exact ⟨fun e h => (by cases h; decide), fun v c2 f2 h => by cases h⟩
    · split
      · refine ⟨fun e h => (by cases h), fun v c2 f2 h => ?_⟩
        cases h
        exact ⟨hs, Nat.le_refl _⟩
      · split
        · rename_i hk
          exact ⟨fun e h => (by cases h; exact find_not hk), fun v c2 f2 h => by cases h⟩
        · rename_i hfi
          split
          · exact ⟨fun e h => (by cases h; decide), fun v c2 f2 h => by cases h⟩
          · rename_i hc
            simp only [ne_eq, Decidable.not_not] at hfi
            obtain ⟨_, _, a1, a2, a3, _⟩ := AHeap.find_zero hfi
            have hs2 : Seen H (come ++ [w.n]) := ⟨List.nodup_append.2 ⟨hs.1, by simp, fun a ha b hb e => by rw [List.mem_singleton] at hb; subst hb; subst e; exact hc ha⟩, fun x hx => by
              rcases List.mem_append.1 hx with hx | hx
              · exact hs.2 x hx
              · rw [List.mem_singleton] at hx; subst hx; omega⟩
            obtain ⟨h1, h2⟩ := walks_end (walk_end H f) (H.get w).1.ws (come ++ [w.n]) fl hs2 (by simp; omega)
            cases hw : walksF (walkF H f) (H.get w).1.ws (come ++ [w.n]) fl with
            | bad e =>
              refine ⟨fun e' h => ?_, fun v c2 f2 h => by cases h⟩
              cases h
              exact h1 _ hw
            | ok vs c3 f3 =>
              refine ⟨fun e' h => (by cases h), fun v c2 f2 h => ?_⟩
              cases h
              obtain ⟨s1, l1⟩ := h2 _ _ _ hw
              simp at l1
              exact ⟨s1, by omega⟩
theorem walk_fine (H : AHeap) {f : Nat} (hf : H.slots.length + 1 ≤ f) (w : AWord) (fl : Bool) : walkF H f w [] fl ≠ .bad 999 := fun h =>
  (walk_end H f w [] fl ⟨List.nodup_nil, fun x hx => by cases hx⟩ (by simpa using hf)).1 _ h rfl
theorem walks_fine (H : AHeap) {f : Nat} (hf : H.slots.length + 1 ≤ f) (ws : List AWord) (fl : Bool) : walksF (walkF H f) ws [] fl ≠ .bad 999 := fun h =>
  (walks_end (walk_end H f) ws [] fl ⟨List.nodup_nil, fun x hx => by cases hx⟩ (by simpa using hf)).1 _ h rfl

/-! What the calls answer. -/
section
variable {H : AHeap} {B : Int} {v : Val} {w : AWord} {S : List Nat} {f : Nat}
theorem Holds.value (ok : H.Ok B) (h : Holds H v w S) (hn : S.Nodup) (hf : massV v ≤ f) : walkF H f w [] false = .ok v (intsN S) (filesV v) := by
  have := h.walk ok f [] false hf (by simpa using intsN_nodup hn)
  simpa using this
theorem Holds.valueM (ok : H.Ok B) (h : Holds H v w S) (hn : S.Nodup) (hf : massV v ≤ f) : valueM H f w = (v, 0) := by
  unfold Go.Proofs.Ytciciaikajdenaa.valueM; rw [h.value ok hn hf]
theorem Holds.copyM (ok : H.Ok B) (h : Holds H v w S) (hn : S.Nodup) (hf : massV v ≤ f) : copyM H f w = if filesV v then ((.zero, 240), H) else buildM H v := by
  unfold Go.Proofs.Ytciciaikajdenaa.copyM; rw [h.value ok hn hf]
theorem HoldsL.reachM {l : List Val} {ws : List AWord} (ok : H.Ok B) (h : HoldsL H l ws S) (hn : S.Nodup) (hf : massVL l ≤ f) : reachM H f ws = ((S.length : Int), 0) := by
  unfold Go.Proofs.Ytciciaikajdenaa.reachM
  rw [h.walk ok f [] false hf (by simpa using intsN_nodup hn)]
  simp [intsN]
theorem Holds.one (h : Holds H v w S) : HoldsL H [v] [w] S := ⟨w, [], S, [], rfl, by simp, h, rfl, rfl⟩
theorem Holds.reachM (ok : H.Ok B) (h : Holds H v w S) (hn : S.Nodup) (hf : massV v ≤ f) : reachM H f [w] = ((S.length : Int), 0) :=
  h.one.reachM ok hn (by simp [massVL]; omega)
theorem Holds.dropM (ok : H.Ok B) (h : Holds H v w S) (hn : S.Nodup) (hf : massV v ≤ f) : dropM H f w = (0, dropF f H w) := by
  unfold Go.Proofs.Ytciciaikajdenaa.dropM; rw [h.reachM ok hn hf]; simp
end
/-- As many live as there are, at most. -/
theorem Gone.live {H K : AHeap} {S : List Nat} (g : Gone H K S) : K.live = H.live - S.length := by
  unfold AHeap.live; rw [g.len, g.free]; simp; omega
end Go.Proofs.Ytciciaikajdenaa
/- N24: the chapter's rows, in plain data. No program in sight. -/
set_option linter.unusedSimpArgs false
set_option linter.unusedVariables false
namespace Go.Proofs.Ytciciaikajdenaa
open Go.RowKit

def v0 : Val := .mk 11 3 ⟨#[]⟩ [.mk 1 1 ⟨#[]⟩ [], .mk 13 0 ⟨#[]⟩ []]
def vArr : Val := .mk 13 0 ⟨#[]⟩ []
def vBad : Val := .mk 5 0 ⟨#[]⟩ []
def cA : ASlot := ⟨⟨3, 0, []⟩, 0, true⟩
def cB (i : Nat) : ASlot := ⟨⟨1, 3, [⟨1, 1, ⟨#[]⟩, 0⟩, cellWord i 0]⟩, 0, true⟩
def cD : ASlot := ⟨.zero, 1, false⟩
def H1 : AHeap := ⟨9, 2, [cA, cB 0], []⟩
def H2 : AHeap := ⟨9, 4, [cA, cB 0, cA, cB 2], []⟩
def H3 : AHeap := ⟨9, 4, [cD, cD, cA, cB 2], [1, 0]⟩
def H4 : AHeap := ⟨9, 4, [⟨⟨3, 0, []⟩, 1, true⟩, cD, cA, cB 2], [1]⟩
theorem empty_list : (ByteArray.mk #[]).toList = [] := by simp [ByteArray.toList_eq]
theorem cw_ok (n : Nat) (g : Nat) : (cellWord n g).ok = true := by simp [cellWord, AWord.ok, empty_list]
theorem w1_ok : (⟨1, 1, ⟨#[]⟩, 0⟩ : AWord).ok = true := by simp [AWord.ok, empty_list]
theorem cA_ok : (⟨3, 0, []⟩ : ACell).ok = true := by simp [ACell.ok, ACell.headOk]
theorem cB_ok (i : Nat) : (⟨1, 3, [⟨1, 1, ⟨#[]⟩, 0⟩, cellWord i 0]⟩ : ACell).ok = true := by
  have h := cw_ok i 0
  have h1 := w1_ok
  simp only [Int.ofNat_zero, Int.natCast_zero] at h
  simp [ACell.ok, ACell.headOk, h1, h]
theorem may0 : mayV v0 = true := by
  simp [mayV, mayL, v0, headV, emptyB]
theorem mayArr : mayV vArr = true := by
  simp [mayV, mayL, vArr, headV, emptyB]
theorem mayBad : mayV vBad = false := by
  simp [mayV, mayL, vBad, headV, emptyB]
theorem cells0 : cellsV v0 = 2 := by decide
theorem files0 : filesV v0 = false := by decide
theorem f1 : buildM (.new 9) v0 = ((cellWord 1 0, 0), H1) := by
  have e : makeE (.new 9) v0 = 0 := by
    unfold makeE; rw [may0, cells0]; decide
  unfold buildM
  rw [if_pos e]
  have h1 := cA_ok
  have h2 := cB_ok 0
  simp only [Int.natCast_zero] at h2
  simp [v0, buildF, buildsF, AHeap.alloc, h1, h2, AHeap.new, AHeap.live, AHeap.give, H1, cA, cB]
  decide
theorem ok1 : H1.Ok 0 := by
  have := (build_ok (B := 0) (by decide) v0 (.new 9) may0 (AHeap.new_ok 9 (by decide) (by decide) 0) (by rw [cells0]; decide)).1.ok
  have h : (buildM (.new 9) v0).2 = H1 := by rw [f1]
  have e : makeE (.new 9) v0 = 0 := by
    unfold makeE; rw [may0, cells0]; decide
  unfold buildM at h
  rw [if_pos e] at h
  exact h ▸ this
theorem hold0 {H : AHeap} {i j : Nat} (hi : H.slots[i]? = some (cB j)) (hj : H.slots[j]? = some cA) : Holds H v0 (cellWord i 0) [i, j] := by
  have l1 := (List.getElem?_eq_some_iff.1 hi).1
  have l2 := (List.getElem?_eq_some_iff.1 hj).1
  have e1 : H.slot i = cB j := by unfold AHeap.slot; simp [List.getD, hi]
  have e2 : H.slot j = cA := by unfold AHeap.slot; simp [List.getD, hj]
  refine .inr ⟨by decide, i, [j], by rw [e1]; rfl, l1, by rw [e1]; rfl, by rw [e1]; rfl, by rw [e1]; rfl, rfl, rfl, ?_⟩
  rw [e1]
  exact ⟨_, _, [], [j], rfl, rfl, .inl ⟨by decide, by decide, rfl, w1_ok, rfl, rfl⟩, _, _, [j], [], rfl, rfl, .inr ⟨by decide, j, [], by rw [e2]; rfl, l2, by rw [e2]; rfl, by rw [e2]; rfl, by rw [e2]; rfl, rfl, rfl, by rw [e2]; exact ⟨rfl, rfl⟩⟩, rfl, rfl⟩
theorem mass0 : massV v0 ≤ 8 := by decide
theorem makeOf {H : AHeap} {v : Val} (h : mayV v = true) (hr : ¬ H.room - H.live < cellsV v) : buildM H v = (((buildF H v).1, 0), (buildF H v).2) := by
  unfold buildM; rw [if_pos]; unfold makeE; rw [if_neg (by rw [h]; simp), if_neg hr]
theorem f2 : reachM H1 8 [cellWord 1 0] = (2, 0) := (hold0 (H := H1) (i := 1) (j := 0) rfl rfl).reachM ok1 (by decide) mass0
theorem f3 : valueM H1 8 (cellWord 1 0) = (v0, 0) := (hold0 (H := H1) (i := 1) (j := 0) rfl rfl).valueM ok1 (by decide) mass0
theorem b2 : buildF H1 v0 = (cellWord 3 0, H2) := by
  have h1 := cA_ok
  have h2 := cB_ok 2
  simp only [show ((2 : Nat) : Int) = 2 from rfl] at h2
  simp [v0, buildF, buildsF, AHeap.alloc, h1, h2, AHeap.new, AHeap.live, AHeap.give, H1, cA, cB, H2]
  decide
theorem f4 : copyM H1 8 (cellWord 1 0) = ((cellWord 3 0, 0), H2) := by
  have h := (hold0 (H := H1) (i := 1) (j := 0) rfl rfl).copyM ok1 (by decide) mass0
  simp only [Int.natCast_one] at h
  rw [h, files0, if_neg (by decide), makeOf may0 (by rw [cells0]; decide), b2]
theorem ok2 : H2.Ok 0 := by
  have := (build_ok (B := 0) (by decide) v0 H1 may0 ok1 (by rw [cells0]; decide)).1.ok
  rw [b2] at this
  exact this
theorem f5 : valueM H2 8 (cellWord 3 0) = (v0, 0) := (hold0 (H := H2) (i := 3) (j := 2) rfl rfl).valueM ok2 (by decide) mass0
theorem finds {H : AHeap} {B : Int} (ok : H.Ok B) (i g : Nat) (hi : i < H.slots.length) (hl : (H.slot i).lives = true) (hg : (H.slot i).gen = (g : Int)) : H.find (cellWord i g) = (0, i) := by
  have := find_cell ok hi hl
  rw [hg] at this
  exact this
theorem d2 : dropF 8 H2 (cellWord 1 0) = H3 := by
  have a := finds ok2 1 0 (by decide) rfl rfl
  have okf := ok2.freed (i := 1) (by decide) rfl
  have b := finds okf 0 0 (by decide) rfl rfl
  simp only [Int.natCast_zero, Int.natCast_one] at a b
  have e5 : ∀ n g, (cellWord n g).k = 5 := fun _ _ => rfl
  have q1 : H2.drop (cellWord 1 0) = (((cB 0).c, 0), H2.freed 1) := by unfold AHeap.drop; rw [a]; rfl
  have q2 : (H2.freed 1).drop (cellWord 0 0) = ((cA.c, 0), (H2.freed 1).freed 0) := by unfold AHeap.drop; rw [b]; rfl
  simp [dropF, dropsF, q1, q2, e5, cA, cB]
  rfl
theorem f6 : dropM H2 8 (cellWord 1 0) = (0, H3) := by
  have h := (hold0 (H := H2) (i := 1) (j := 0) rfl rfl).dropM ok2 (by decide) mass0
  simp only [Int.natCast_one] at h
  rw [h, d2]
theorem n6 : (0 : Int) + dropN 8 H2 (cellWord 1 0) < 1000000000 ∧ fuelOk 8 H2 (cellWord 1 0) := by
  obtain ⟨_, h, k⟩ := (hold0 (H := H2) (i := 1) (j := 0) rfl rfl).drop ok2 (by decide) 8 mass0
  rw [show (cellWord ((1 : Nat) : Int) 0) = cellWord 1 0 from rfl] at h k
  rw [h]
  exact ⟨by decide, k⟩
theorem ok3 : H3.Ok 2 := by
  have := dropF_ok 8 H2 (cellWord 1 0) 0 ok2
  obtain ⟨_, h, k⟩ := (hold0 (H := H2) (i := 1) (j := 0) rfl rfl).drop ok2 (by decide) 8 mass0
  rw [show (cellWord ((1 : Nat) : Int) 0) = cellWord 1 0 from rfl] at h k
  rw [d2, h] at this
  exact this
theorem b4 : buildF H3 vArr = (cellWord 0 1, H4) := by
  have h1 := cA_ok
  simp [vArr, buildF, buildsF, AHeap.alloc, h1, AHeap.live, AHeap.give, H3, cA, cB, H4, AHeap.slot, cD]
  decide
theorem f7 : buildM H3 vArr = ((cellWord 0 1, 0), H4) := by
  rw [makeOf mayArr (by decide), b4]
theorem ok4 : H4.Ok 2 := by
  have := (build_ok (B := 2) (by decide) vArr H3 mayArr ok3 (by decide)).1.ok
  rw [b4] at this
  exact this
theorem f8 : reachM H4 8 [cellWord 1 0] = (0, 230) := by
  have a := cw_ok 1 0
  simp only [Int.natCast_zero, Int.natCast_one] at a
  have e5 : (cellWord 1 0).k = 5 := rfl
  have hf : (H4.find (cellWord 1 0)).1 = 230 := by
    unfold AHeap.find
    rw [if_neg (by rw [a]; decide)]
    rfl
  simp [reachM, walksF, walkF, a, e5, hf]
theorem f9 : copyM H4 8 ⟨7, 0, ⟨#[]⟩, 0⟩ = ((.zero, 240), H4) := by
  have a : (⟨7, 0, ⟨#[]⟩, 0⟩ : AWord).ok = true := by simp [AWord.ok, empty_list]
  simp [copyM, walkF, a]
theorem f10 : buildM H4 vBad = ((.zero, 2), H4) := by
  unfold buildM makeE; rw [mayBad]; rfl
theorem live1 : LiveOk H1 := by
  have := (live_new 9).buildM v0
  rw [f1] at this
  exact this
theorem live2 : LiveOk H2 := by
  have := live1.copyM 8 (cellWord 1 0)
  rw [f4] at this
  exact this
theorem live3 : LiveOk H3 := by
  have := live2.dropM 8 (cellWord 1 0)
  rw [f6] at this
  exact this
theorem live4 : LiveOk H4 := by
  have := live3.buildM vArr
  rw [f7] at this
  exact this
end Go.Proofs.Ytciciaikajdenaa
/- N25: are two words the same? -/
set_option linter.unusedSimpArgs false
set_option linter.unusedVariables false
namespace Go.Proofs.Ytciciaikajdenaa
open Go.RowKit

section
open Classical
theorem bytesEq25 (a b : ByteArray) : (a == b) = true ↔ a = b := by
  obtain ⟨x⟩ := a
  obtain ⟨y⟩ := b
  constructor
  · intro h
    have e : x = y := by simpa using (show (x == y) = true from h)
    rw [e]
  · intro h
    cases h
    show (x == x) = true
    simp
theorem AWord.eq25 (x y : AWord) : x = y ↔ x.k = y.k ∧ x.n = y.n ∧ x.s = y.s ∧ x.g = y.g := by
  cases x; cases y; simp
def wordFields25 : List Field := [{ name := "Kind", type := 5, offset := 0, embedded := false, tag := "", pkgPath := "", byteOffset := 0 }, { name := "N", type := 2, offset := 1, embedded := false, tag := "", pkgPath := "", byteOffset := 8 },
  { name := "S", type := 9, offset := 2, embedded := false, tag := "", pkgPath := "", byteOffset := 16 }, { name := "Gen", type := 3, offset := 3, embedded := false, tag := "", pkgPath := "", byteOffset := 32 }]
theorem word_fields25 : (Try.prog.fieldsOf 36).toList = wordFields25 := by kernel_rfl
theorem word_under25 : Try.prog.underlying 36 = some (.struct (Try.prog.fieldsOf 36)) := by kernel_rfl
theorem word_stood25 : Try.prog.stoodInHeld 36 = false := by kernel_rfl
theorem plainK5 : Try.prog.plainKey 5 = true := by kernel_rfl
theorem plainK2 : Try.prog.plainKey 2 = true := by kernel_rfl
theorem plainK9 : Try.prog.plainKey 9 = true := by kernel_rfl
theorem plainK3 : Try.prog.plainKey 3 = true := by kernel_rfl
theorem part_word25 (x : AWord) (w : World) :
    (part 5 #[.int .u8 x.k, .int .i64 x.n, .string x.s, .int .i64 x.g] 0).run Try.prog w = .ok (.int .u8 x.k) w ∧ (part 2 #[.int .u8 x.k, .int .i64 x.n, .string x.s, .int .i64 x.g] 1).run Try.prog w = .ok (.int .i64 x.n) w ∧
    (part 9 #[.int .u8 x.k, .int .i64 x.n, .string x.s, .int .i64 x.g] 2).run Try.prog w = .ok (.string x.s) w ∧ (part 3 #[.int .u8 x.k, .int .i64 x.n, .string x.s, .int .i64 x.g] 3).run Try.prog w = .ok (.int .i64 x.g) w :=
  ⟨run_part_plain w plainK5 rfl, run_part_plain w plainK2 rfl, run_part_plain w plainK9 rfl, run_part_plain w plainK3 rfl⟩
theorem word_eq25 (x y : AWord) (w : World) : (Op.equalIn 10000 36 (wv x) (wv y)).run Try.prog w = .ok (decide (x = y)) w := by
  unfold wv
  show (Op.equalIn (9999 + 1) 36 _ _).run Try.prog w = _
  rw [run_equalIn_struct w 9999 36 _ _ word_under25 word_stood25, word_fields25]
  obtain ⟨p0, p1, p2, p3⟩ := part_word25 x w
  obtain ⟨r0, r1, r2, r3⟩ := part_word25 y w
  have e0 := run_equalIn_int (P := Try.prog) w 9998 5 .u8 .u8 x.k y.k Try.underlying5
  have e1 := run_equalIn_int (P := Try.prog) w 9998 2 .i64 .i64 x.n y.n Try.underlying2
  have e2 := run_equalIn_string (P := Try.prog) w 9998 9 x.s y.s Try.underlying9
  have e3 := run_equalIn_int (P := Try.prog) w 9998 3 .i64 .i64 x.g y.g Try.underlying3
  simp only [wordFields25, Op.eqFields, ne_eq, String.reduceEq, not_false_eq_true, if_true, Sem.run_bind, p0, p1, p2, p3, r0, r1, r2, r3, Result.andThen_ok, e0, e1, e2, e3, Sem.run_ite, Sem.run_pure, Bool.not_eq_true']
  rw [← beq_toListBytes]
  have hs : (x.s == y.s) = decide (x.s = y.s) := by
    by_cases h2 : x.s = y.s
    · rw [(bytesEq25 _ _).2 h2]; simp [h2]
    · cases q : x.s == y.s
      · simp [h2]
      · exact absurd ((bytesEq25 _ _).1 q) h2
  rw [hs]
  by_cases h0 : x.k = y.k <;> by_cases h1 : x.n = y.n <;> by_cases h2 : x.s = y.s <;> by_cases h3 : x.g = y.g <;> simp [h0, h1, h2, h3, AWord.eq25]
end
def wordVs (x : AWord) : List Value := [.int .u8 x.k, .int .i64 x.n, .string x.s, .int .i64 x.g]
theorem word_dec (x y : AWord) (w : World) (r : Bool) (h : r = true ↔ x = y) : (Op.equalIn 10000 36 (.agg (wordVs x).toArray) (.agg (wordVs y).toArray)).run Try.prog w = .ok r w := by
  have := word_eq25 x y w
  rw [show (Value.agg (wordVs x).toArray) = wv x from rfl, show (Value.agg (wordVs y).toArray) = wv y from rfl, this]
  by_cases e : x = y
  · rw [h.2 e]; simp [e]
  · cases r
    · simp [e]
    · exact absurd (h.1 rfl) e
section
variable {nt : Nat} {ops : Array Oper} {dr : Bool} {dos ends : List Nat} {i d ty : Nat} {pos : String} {aft : Array Edge} {gd : Option (Nat × Bool)} {l : Trr} {Q : Exit → Fr → List AObj → Prop} {fr : Fr} {σ : List AObj}
theorem s_wNe_f {t' : TypeId} {a b : Operand} (x y : AWord) (hp : dr = dr) (hg : guardB ops fr gd = some true) (ht : Nat.blt d nt = true) (ha : aget fr a = .d (.agg (wordD x))) (hb : aget fr b = .d (.agg (wordD y))) (he : x = y) (h : AL Try.prog nt ops dr dos ends l Q ((d, .d (.v (.bool false))) :: fr) σ) : ALo Try.prog nt ops dr dos ends i ⟨some d, .binOp .neq 36 a b t', ty, pos, aft, gd⟩ l Q fr σ :=
  ⟨fun ho => s_read ho hp hg ht (rd_aggNe (xs := wordVs x) (ys := wordVs y) (r := true) rfl (by kernel_rfl) ha hb (fun w => word_dec x y w true (by simp [he]))) h⟩
end
end Go.Proofs.Ytciciaikajdenaa
