/- NB: cells in order; CellOrder's and CellLast's plain laws. No program in sight. -/
import Derived.Test.YtciciaikajdenaaQN28
import Derived.Test.YtciciaikajdenaaQNA
set_option linter.unusedSimpArgs false
set_option linter.unusedVariables false
namespace Go.Proofs.Ytciciaikajdenaa
open Go.RowKit

theorem wordsFrom_count (l : List ASlot) : ∀ i, (wordsFrom i l).length = countLive l := by
  induction l with
  | nil => intro i; rfl
  | cons a l ih =>
    intro i
    have := ih (i + 1)
    cases h : a.lives <;> simp [wordsFrom, countLive, h] at this ⊢ <;> omega
theorem cells_len {H : AHeap} {B : Int} (h : H.Ok B) : (H.cells.length : Int) = H.live := by
  rw [h.live_eq]; unfold AHeap.cells; rw [wordsFrom_count]
theorem wordsFrom_mem (l : List ASlot) : ∀ i x, x ∈ wordsFrom i l → ∃ m s, l[m]? = some s ∧ s.lives = true ∧ x = cellWord ((i + m : Nat) : Int) s.gen := by
  induction l with
  | nil => intro i x h; simp [wordsFrom] at h
  | cons a l ih =>
    intro i x h
    simp only [wordsFrom, List.mem_append] at h
    rcases h with h | h
    · by_cases ha : a.lives = true
      · simp [ha] at h
        exact ⟨0, a, rfl, ha, by simpa using h⟩
      · simp [ha] at h
    · obtain ⟨m, s, h1, h2, h3⟩ := ih _ _ h
      exact ⟨m + 1, s, by simpa using h1, h2, by rw [h3]; congr 1; omega⟩
theorem wordsFrom_all : ∀ (l : List ASlot) (i : Nat), (∀ s ∈ l, s.lives = true) → ∀ j s, l[j]? = some s → (wordsFrom i l)[j]? = some (cellWord ((i + j : Nat) : Int) s.gen)
  | [], i, h, j, s, e => by simp at e
  | a :: l, i, h, 0, s, e => by
    simp at e; subst e
    simp [wordsFrom, h a (by simp)]
  | a :: l, i, h, j + 1, s, e => by
    have := wordsFrom_all l (i + 1) (fun s hs => h s (by simp [hs])) j s (by simpa using e)
    simp only [wordsFrom, h a (by simp), if_true, List.singleton_append, List.getElem?_cons_succ, this]
    congr 2; omega
theorem cells_get {H : AHeap} {B : Int} (h : H.Ok B) {x : AWord} (hx : x ∈ H.cells) : (H.get x).2 = 0 := by
  obtain ⟨m, s, h1, h2, rfl⟩ := wordsFrom_mem _ _ _ hx
  have hm := (List.getElem?_eq_some_iff.1 h1).1
  have hs : H.slot m = s := by
    have := AHeap.slot_get hm
    rw [h1] at this; injection this with this; exact this.symm
  have := get_cell h hm (by rw [hs]; exact h2)
  rw [hs] at this
  rw [Nat.zero_add, this]
/-! How many slots there are. -/
theorem give_len (H : AHeap) (c : ACell) : ((H.give c).2.slots.length : Int) = max (H.slots.length : Int) (H.live + 1) := by
  unfold AHeap.give AHeap.live
  cases hl : H.free.getLast? with
  | some i =>
    have hne : H.free ≠ [] := by intro e; rw [e] at hl; cases hl
    have : 1 ≤ H.free.length := by
      cases hf : H.free with
      | nil => exact absurd hf hne
      | cons a l => simp
    simp only [List.length_set]
    omega
  | none =>
    have : H.free = [] := by simpa using hl
    simp only [List.length_append, List.length_singleton, this, List.length_nil]
    omega
theorem live_len (H : AHeap) : H.live ≤ H.slots.length := by unfold AHeap.live; omega
mutual
theorem build_len {B : Int} (hB : 0 ≤ B) : ∀ (v : Val) (H : AHeap), mayV v = true → H.Ok B → (cellsV v : Int) ≤ H.room - H.live → ((buildF H v).2.slots.length : Int) = max (H.slots.length : Int) (buildF H v).2.live
  | .mk k n s l, H, hm, ok, hr => by
    obtain ⟨h1, h2⟩ := may_split hm
    have hll := live_len H
    by_cases hk : k < 11
    · simp only [buildF, if_pos hk]; omega
    · simp only [cellsV, if_pos (show 10 < k by omega)] at hr
      obtain ⟨b1, b2⟩ := builds_ok hB l H h2 ok (by omega)
      have hlive := b1.live
      have hroom := b1.room
      have hc := con_ok hk h1 (buildsF_len l H) b2
      have hg : (buildsF H l).2.live < (buildsF H l).2.room := by omega
      have ih := builds_len hB l H h2 ok (by omega)
      simp only [buildF, if_neg hk]
      rw [AHeap.alloc_give hc hg]
      have e1 := give_len (buildsF H l).2 ⟨k - 10, n, (buildsF H l).1⟩
      have e2 := AHeap.give_live (buildsF H l).2 ⟨k - 10, n, (buildsF H l).1⟩
      simp only at e1 e2 ⊢
      omega
theorem builds_len {B : Int} (hB : 0 ≤ B) : ∀ (l : List Val) (H : AHeap), mayL l = true → H.Ok B → (cellsL l : Int) ≤ H.room - H.live → ((buildsF H l).2.slots.length : Int) = max (H.slots.length : Int) (buildsF H l).2.live
  | [], H, _, ok, _ => by have := live_len H; simp only [buildsF]; omega
  | p :: l, H, hm, ok, hr => by
    simp only [mayL, Bool.and_eq_true] at hm
    simp only [cellsL] at hr
    obtain ⟨b1, b2⟩ := build_ok hB p H hm.1 ok (by omega)
    have hlive := b1.live
    have hroom := b1.room
    obtain ⟨d1, d2⟩ := builds_ok hB l (buildF H p).2 hm.2 b1.ok (by omega)
    have hlive2 := d1.live
    have i1 := build_len hB p H hm.1 ok (by omega)
    have i2 := builds_len hB l (buildF H p).2 hm.2 b1.ok (by omega)
    simp only [buildsF]
    omega
end
/-- A heap without free cells: the cells are all, by their numbers. -/
theorem full_free {H : AHeap} (h : (H.slots.length : Int) = H.live) : H.free = [] := by
  unfold AHeap.live at h
  exact List.length_eq_zero_iff.1 (by omega)
theorem full_cells {H : AHeap} {B : Int} (ok : H.Ok B) (h : (H.slots.length : Int) = H.live) : H.cells.length = H.slots.length ∧ ∀ (j : Nat) (x : AWord), H.cells[j]? = some x → x.n = (j : Int) := by
  have h1 := ok.count
  rw [full_free h, List.length_nil, Nat.add_zero] at h1
  have hall : ∀ s ∈ H.slots, s.lives = true := by
    unfold countLive at h1
    exact List.length_filter_eq_length_iff.1 h1
  have hl : H.cells.length = H.slots.length := by unfold AHeap.cells; rw [wordsFrom_count, h1]
  refine ⟨hl, fun j x e => ?_⟩
  have hj := (List.getElem?_eq_some_iff.1 e).1
  obtain ⟨s, hs⟩ := getS (l := H.slots) (i := j) (by omega)
  have := wordsFrom_all H.slots 0 hall j s hs
  unfold AHeap.cells at e
  rw [this] at e
  injection e with e
  subst e
  simp [cellWord]

/-! CellOrder. -/
theorem new_room (r : Int) : (AHeap.new r).room = r := rfl
theorem new_len (r : Int) : (AHeap.new r).slots.length = 0 := rfl
theorem new_most (r : Int) : (AHeap.new r).most = 0 := rfl
structure Ordered (v : Val) (r : Int) (K : AHeap) (w : AWord) : Prop where
  made : buildM (.new r) v = ((w, 0), K)
  ok : K.Ok 0
  live : K.live = cellsV v
  len : K.cells.length = cellsV v
  gets : ∀ x ∈ K.cells, (K.get x).2 = 0
  word : 0 < cellsV v → w = cellWord ((cellsV v : Int) - 1) 0
  kids : ∀ (k n : Int) (s : ByteArray) (l : List Val), v = .mk k n s l → ¬ k < 11 → (∀ (j : Nat) (p : Val), l[j]? = some p → (buildsF (.new r) (l.take j)).2.Ok 0 ∧ buildM (buildsF (.new r) (l.take j)).2 p = (((buildF (buildsF (.new r) (l.take j)).2 p).1, 0), (buildF (buildsF (.new r) (l.take j)).2 p).2)) ∧
    (buildsF (.new r) l).2.Ok 0 ∧ (buildsF (.new r) l).1.length ≤ 64 ∧ (buildsF (.new r) l).2.alloc ⟨k - 10, n, (buildsF (.new r) l).1⟩ = ((w, 0), K)
theorem mayL_take2 {l : List Val} {j : Nat} {p : Val} (h : mayL l = true) (e : l[j]? = some p) : mayL (l.take j) = true ∧ mayV p = true := by
  rw [mayL_all, List.all_eq_true] at h ⊢
  exact ⟨fun q hq => h q (List.mem_of_mem_take hq), h p (List.mem_of_getElem? e)⟩
theorem cellsL_take_le {l : List Val} {j : Nat} {p : Val} (e : l[j]? = some p) : cellsL (l.take j) + cellsV p ≤ cellsL l := by
  have h1 := cellsL_take e
  have h2 : cellsL (l.take (j + 1)) + cellsL (l.drop (j + 1)) = cellsL l := by rw [← cellsL_append, List.take_append_drop]
  omega
theorem ordered {v : Val} {r : Int} (hr0 : 0 ≤ r) (hr1 : r ≤ 100000) (hm : mayV v = true) (hs : (cellsV v : Int) ≤ r) : ∃ K w, Ordered v r K w := by
  have ok0 := AHeap.new_ok r hr0 hr1 0
  have l0 := live_of_new r
  have r0 := new_room r
  have s0 := new_len r
  have hroom : (cellsV v : Int) ≤ (AHeap.new r).room - (AHeap.new r).live := by rw [l0, r0]; omega
  obtain ⟨b, bw⟩ := build_ok (B := 0) (by decide) v _ hm ok0 hroom
  have hlen := build_len (B := 0) (by decide) v _ hm ok0 hroom
  have made : buildM (.new r) v = (((buildF (.new r) v).1, 0), (buildF (.new r) v).2) := makeOf hm (by omega)
  have hlive := b.live
  have hcl := cells_len b.ok
  refine ⟨_, _, made, b.ok, by omega, by omega, fun x hx => cells_get b.ok hx, ?_, ?_⟩
  · obtain ⟨k, n, s, l⟩ := v
    intro hp
    by_cases hk : k < 11
    · exfalso
      obtain ⟨h1, _⟩ := may_split hm
      rw [head_leaf hk] at h1
      simp only [Bool.and_eq_true, beq_iff_eq] at h1
      rw [List.length_eq_zero_iff.1 h1.1] at hp
      simp only [cellsV, cellsL] at hp
      rw [if_neg (by omega)] at hp
      omega
    · obtain ⟨h1, h2⟩ := may_split hm
      have ec : cellsV (.mk k n s l) = 1 + cellsL l := by simp only [cellsV]; rw [if_pos (by omega)]
      obtain ⟨b1, b2⟩ := builds_ok (B := 0) (by decide) l _ h2 ok0 (by omega)
      have hl1 := b1.live
      have hr1 := b1.room
      have hlen1 := builds_len (B := 0) (by decide) l _ h2 ok0 (by omega)
      have hc := con_ok hk h1 (buildsF_len l (.new r)) b2
      have hg : (buildsF (.new r) l).2.live < (buildsF (.new r) l).2.room := by omega
      simp only [buildF, if_neg hk]
      rw [AHeap.alloc_give hc hg]
      have hf : (buildsF (.new r) l).2.free = [] := full_free (by omega)
      have hn : (buildsF (.new r) l).2.slots.length = cellsL l := by omega
      simp only [AHeap.give, hf, List.getLast?_nil, hn, ec]
      congr 1
      omega
  · rintro k n s l rfl hk
    obtain ⟨h1, h2⟩ := may_split hm
    have ec : cellsV (.mk k n s l) = 1 + cellsL l := by simp only [cellsV]; rw [if_pos (by omega)]
    refine ⟨fun j p e => ?_, ?_⟩
    · obtain ⟨m1, m2⟩ := mayL_take2 h2 e
      have hle := cellsL_take_le e
      obtain ⟨b1, b2⟩ := builds_ok (B := 0) (by decide) (l.take j) _ m1 ok0 (by omega)
      have hl1 := b1.live
      have hr1 := b1.room
      exact ⟨b1.ok, makeOf m2 (by omega)⟩
    · obtain ⟨b1, b2⟩ := builds_ok (B := 0) (by decide) l _ h2 ok0 (by omega)
      have hl1 := b1.live
      have hr1 := b1.room
      have hc := con_ok hk h1 (buildsF_len l (.new r)) b2
      have hg : (buildsF (.new r) l).2.live < (buildsF (.new r) l).2.room := by omega
      refine ⟨b1.ok, ok_words hc, ?_⟩
      simp only [buildF, if_neg hk]
      rw [AHeap.alloc_give hc hg]

/-! CellLast. -/
structure Lasted (v u : Val) (r : Int) (K1 K2 K3 K4 : AHeap) (b w a : AWord) : Prop where
  made1 : buildM (.new r) u = ((b, 0), K1)
  made2 : buildM K1 v = ((w, 0), K2)
  ok1 : K1.Ok 0
  live1 : LiveOk K1
  ok2 : K2.Ok 0
  live2 : LiveOk K2
  len2 : K2.slots.length ≤ 4000
  drop : dropM K2 4001 w = (0, K3)
  dropN : dropN 4001 K2 w ≤ 4000 ∧ fuelOk 4001 K2 w
  ok3 : K3.Ok 4000
  made4 : buildM K3 v = ((a, 0), K4)
  ok4 : K4.Ok 4000
  live4 : LiveOk K4
  len4 : K4.slots.length ≤ 4000
  same : K4.cells.length = K2.cells.length
  nums : ∀ (j : Nat) (x y : AWord), K4.cells[j]? = some x → K2.cells[j]? = some y → x.n = y.n
  most : K4.most = K2.cells.length
  val1 : valueM K4 4001 a = (v, 0)
  val2 : valueM K4 4001 b = (u, 0)
theorem AHeap.Ok.up {H : AHeap} {B C : Int} (h : H.Ok B) (hb : B ≤ C) : H.Ok C :=
  { h with gens := fun s hs => ⟨(h.gens s hs).1, by have := (h.gens s hs).2; omega⟩ }
theorem lasted {v u : Val} {r : Int} (hr1 : r ≤ 100000) (hv : mayV v = true) (hu : mayV u = true) (hmv : massV v ≤ 2000) (hmu : massV u ≤ 2000) (hr : 4000 ≤ r) : ∃ K1 K2 K3 K4 b w a, Lasted v u r K1 K2 K3 K4 b w a := by
  have c1 := cells_mass v
  have c2 := cells_mass u
  have ok0 := AHeap.new_ok r (by omega) hr1 0
  have l0 := live_of_new r
  have r0 := new_room r
  have s0 := new_len r
  have m0 := new_most r
  have room1 : (cellsV u : Int) ≤ (AHeap.new r).room - (AHeap.new r).live := by omega
  obtain ⟨b1, w1⟩ := build_ok (B := 0) (by decide) u _ hu ok0 room1
  obtain ⟨g1, S1, hh1, hn1, hi1⟩ := build_holds (B := 0) (by decide) u _ hu ok0 room1
  have len1 := build_len (B := 0) (by decide) u _ hu ok0 room1
  have most1 := build_most (B := 0) (by decide) u _ hu ok0 room1 (by omega)
  have made1 : buildM (.new r) u = (((buildF (.new r) u).1, 0), (buildF (.new r) u).2) := makeOf hu (by omega)
  have live1 : LiveOk (buildF (.new r) u).2 := LiveOk.buildF u _ (live_new r)
  have lv1 := b1.live
  have rm1 := b1.room
  have ok1 := b1.ok
  generalize buildF (.new r) u = R1 at *
  have room2 : (cellsV v : Int) ≤ R1.2.room - R1.2.live := by omega
  obtain ⟨b2, w2⟩ := build_ok (B := 0) (by decide) v _ hv ok1 room2
  obtain ⟨g2, S2, hh2, hn2, hi2⟩ := build_holds (B := 0) (by decide) v _ hv ok1 room2
  have len2 := build_len (B := 0) (by decide) v _ hv ok1 room2
  have most2 := build_most (B := 0) (by decide) v _ hv ok1 room2 (by omega)
  have made2 : buildM R1.2 v = (((buildF R1.2 v).1, 0), (buildF R1.2 v).2) := makeOf hv (by omega)
  have live2 : LiveOk (buildF R1.2 v).2 := LiveOk.buildF v _ live1
  have lv2 := b2.live
  have rm2 := b2.room
  have ok2 := b2.ok
  generalize buildF R1.2 v = R2 at *
  have hh1' := hh1.grown g2
  have apart : ∀ i ∈ S1, i ∉ S2 := fun i h1 h2 => hi2 i h2 (hh1.alive i h1)
  have hd := hh2.dropM ok2 hn2 (f := 4001) (by omega)
  obtain ⟨gone, dn, fo⟩ := hh2.drop ok2 hn2 4001 (by omega)
  have cnt := hh2.count
  have ok3 := (dropF_ok 4001 R2.2 R2.1 0 ok2).up (C := 4000) (by omega)
  have lv3 := gone.live
  have rm3 := gone.room
  have mo3 := gone.most
  have ln3 := gone.len
  have live3 : LiveOk (dropF 4001 R2.2 R2.1) := LiveOk.dropF 4001 _ _ live2
  have hh3 := hh1'.gone gone apart
  generalize dropF 4001 R2.2 R2.1 = K3 at *
  have room4 : (cellsV v : Int) ≤ K3.room - K3.live := by omega
  obtain ⟨b4, w4⟩ := build_ok (B := 4000) (by decide) v _ hv ok3 room4
  obtain ⟨g4, S4, hh4, hn4, hi4⟩ := build_holds (B := 4000) (by decide) v _ hv ok3 room4
  have len4 := build_len (B := 4000) (by decide) v _ hv ok3 room4
  have most4 := build_most (B := 4000) (by decide) v _ hv ok3 room4 (by omega)
  have made4 : buildM K3 v = (((buildF K3 v).1, 0), (buildF K3 v).2) := makeOf hv (by omega)
  have live4 : LiveOk (buildF K3 v).2 := LiveOk.buildF v _ live3
  have lv4 := b4.live
  have rm4 := b4.room
  have ok4 := b4.ok
  generalize buildF K3 v = R4 at *
  have hh34 := hh3.grown g4
  obtain ⟨f2, n2⟩ := full_cells ok2 (by omega)
  obtain ⟨f4, n4⟩ := full_cells ok4 (by omega)
  refine ⟨R1.2, R2.2, K3, R4.2, R1.1, R2.1, R4.1, made1, made2, ok1, live1, ok2, live2, by omega, hd, ⟨by omega, fo⟩, ok3, made4, ok4, live4, by omega, by omega, fun j x y h1 h2 => by rw [n4 j x h1, n2 j y h2], by omega, hh4.valueM ok4 hn4 (by omega), hh34.valueM ok4 hn1 (by omega)⟩
end Go.Proofs.Ytciciaikajdenaa
/- NC: CellApart's plain law. No program in sight. -/
set_option linter.unusedSimpArgs false
set_option linter.unusedVariables false
namespace Go.Proofs.Ytciciaikajdenaa
open Go.RowKit

theorem HoldsL.two {H : AHeap} {v u : Val} {w y : AWord} {S T : List Nat} (h : Holds H v w S) (k : Holds H u y T) : HoldsL H [v, u] [w, y] (S ++ T) := ⟨w, [y], S, T, rfl, rfl, h, k.one⟩
theorem Holds.cell {H : AHeap} {v : Val} {w : AWord} {S : List Nat} (h : Holds H v w S) (hw : w.k = 5) : w.n ∈ intsN S ∧ (∃ i : Nat, w = cellWord i (H.slot i).gen ∧ i < H.slots.length ∧ (H.slot i).lives = true ∧ i ∈ S) := by
  obtain ⟨k, n, s, l⟩ := v
  rcases h with ⟨h1, h2, rfl, h4, rfl, rfl⟩ | ⟨h0, i, SS, h1, h2, h3, h4, h5, h6, rfl, h8⟩
  · exact absurd hw h2
  · subst h1
    exact ⟨by simp [intsN, cellWord], i, rfl, h2, h3, by simp⟩
theorem Holds.kind {H : AHeap} {B : Int} (ok : H.Ok B) {v : Val} {w : AWord} {S : List Nat} (h : Holds H v w S) : (w.k = 5 ↔ 0 < cellsV v) ∧ w.ok = true := by
  obtain ⟨k, n, s, l⟩ := v
  rcases h with ⟨h1, h2, rfl, h4, rfl, rfl⟩ | ⟨h0, i, SS, rfl, h2, h3, h4, h5, h6, rfl, h8⟩
  · refine ⟨?_, h4⟩
    simp only [cellsV, cellsL]
    rw [if_neg (by omega)]
    exact ⟨fun h => absurd h h2, fun h => by omega⟩
  · refine ⟨?_, word_cell ok h2⟩
    simp only [cellsV]
    rw [if_pos (by omega)]
    exact ⟨fun _ => by omega, fun _ => rfl⟩
/-- A cell's word that was come to already. -/
theorem walk_come {H : AHeap} {B : Int} (ok : H.Ok B) {v : Val} {w : AWord} {S : List Nat} (h : Holds H v w S) (hw : w.k = 5) (f : Nat) (come : List Int) (fl : Bool) (hc : w.n ∈ come) : walkF H (f + 1) w come fl = .bad 6 := by
  obtain ⟨_, i, rfl, hi, hl, _⟩ := h.cell hw
  have h1 := find_cell ok hi hl
  have h2 := word_cell ok hi
  have h5 : (cellWord i (H.slot i).gen).k = 5 := rfl
  simp only [walkF, h2, h5, h1]
  simp [hc]
theorem walk_two {H : AHeap} {B : Int} (ok : H.Ok B) {v : Val} {y : AWord} {S : List Nat} (h : Holds H v y S) (hn : S.Nodup) (h5 : y.k = 5) {i : Nat} (hi : i < H.slots.length) (hl : (H.slot i).lives = true) (hc : (H.slot i).c.ws = [y, y]) (hiS : i ∉ S) {f : Nat} (hf : massV v ≤ f) : walkF H (f + 1 + 1) (cellWord i (H.slot i).gen) [] false = .bad 6 := by
  have h1 := find_cell ok hi hl
  have h2 := word_cell ok hi
  have h3 := get_cell ok hi hl
  have hk5 : (cellWord i (H.slot i).gen).k = 5 := rfl
  have hn5 : (cellWord i (H.slot i).gen).n = (i : Int) := rfl
  have e1 := h.walk ok (f + 1) ([] ++ [(i : Int)]) false (by omega) (by
    have := intsN_nodup (S := i :: S) (List.nodup_cons.2 ⟨hiS, hn⟩)
    simpa [intsN] using this)
  have e2 := walk_come ok h h5 f (([] ++ [(i : Int)]) ++ intsN S) (false || filesV v) (by have := (h.cell h5).1; simp [this])
  rw [walkF]
  rw [if_neg (by rw [h2]; simp), if_neg (by rw [hk5]; simp), if_neg (by rw [h1]; simp), hn5, if_neg (by simp), h3]
  simp only [hc, walksF, e1, e2]
structure Aparted (v : Val) (r : Int) (K1 K2 : AHeap) (w y : AWord) : Prop where
  made : buildM (.new r) v = ((w, 0), K1)
  ok1 : K1.Ok 0
  live1 : LiveOk K1
  len1 : K1.slots.length ≤ 4000
  lives1 : K1.live = cellsV v
  walk1 : ∃ come fl, walkF K1 8003 w [] false = .ok v come fl
  files : filesV v = true → copyM K1 8003 w = ((.zero, 240), K1)
  copy : filesV v = false → copyM K1 8003 w = ((y, 0), K2) ∧ K2.Ok 0 ∧ LiveOk K2 ∧ K2.slots.length ≤ 8000 ∧ (w.k = 5 ↔ 0 < cellsV v) ∧
    (w.k = 5 → reachM K2 8003 [w, y] = (2 * (cellsV v : Int), 0) ∧ reachM K2 8003 [w, y, w] = (0, 6) ∧ ∃ K3 b, K2.alloc ⟨3, 0, [y, y]⟩ = ((b, 0), K3) ∧ K3.Ok 0 ∧ LiveOk K3 ∧ K3.slots.length ≤ 8001 ∧ valueM K3 8003 b = (.mk 0 0 ⟨#[]⟩ [], 6) ∧ copyM K3 8003 b = ((.zero, 6), K3) ∧ walkF K3 8003 b [] false = .bad 6 ∧ dropM K3 8003 b = (6, K3) ∧ K3.live = 2 * cellsV v + 1) ∧
    ∃ K4, dropM K2 8003 w = (0, K4) ∧ dropN 8003 K2 w ≤ 4000 ∧ fuelOk 8003 K2 w ∧ K4.Ok 4000 ∧ LiveOk K4 ∧ K4.slots.length ≤ 8000 ∧ valueM K4 8003 y = (v, 0) ∧ (w.k = 5 → (valueM K4 8003 w).2 = 230) ∧ (w.k ≠ 5 → (valueM K4 8003 w).2 = 0) ∧ K4.live = cellsV v
theorem aparted {v : Val} {r : Int} (hr1 : r ≤ 100000) (hv : mayV v = true) (hmv : massV v ≤ 4000) (hr : 9000 ≤ r) : ∃ K1 K2 w y, Aparted v r K1 K2 w y := by
  have c1 := cells_mass v
  have ok0 := AHeap.new_ok r (by omega) hr1 0
  have l0 := live_of_new r
  have r0 := new_room r
  have s0 := new_len r
  have room1 : (cellsV v : Int) ≤ (AHeap.new r).room - (AHeap.new r).live := by omega
  obtain ⟨b1, w1⟩ := build_ok (B := 0) (by decide) v _ hv ok0 room1
  obtain ⟨g1, S1, hh1, hn1, hi1⟩ := build_holds (B := 0) (by decide) v _ hv ok0 room1
  have len1 := build_len (B := 0) (by decide) v _ hv ok0 room1
  have made1 : buildM (.new r) v = (((buildF (.new r) v).1, 0), (buildF (.new r) v).2) := makeOf hv (by omega)
  have live1 : LiveOk (buildF (.new r) v).2 := LiveOk.buildF v _ (live_new r)
  have lv1 := b1.live
  have rm1 := b1.room
  have ok1 := b1.ok
  generalize buildF (.new r) v = R1 at *
  have hcp := hh1.copyM ok1 hn1 (f := 8003) (by omega)
  have room2 : (cellsV v : Int) ≤ R1.2.room - R1.2.live := by omega
  obtain ⟨b2, w2⟩ := build_ok (B := 0) (by decide) v _ hv ok1 room2
  obtain ⟨g2, S2, hh2, hn2, hi2⟩ := build_holds (B := 0) (by decide) v _ hv ok1 room2
  have len2 := build_len (B := 0) (by decide) v _ hv ok1 room2
  have made2 : buildM R1.2 v = (((buildF R1.2 v).1, 0), (buildF R1.2 v).2) := makeOf hv (by omega)
  have live2 : LiveOk (buildF R1.2 v).2 := LiveOk.buildF v _ live1
  have lv2 := b2.live
  have rm2 := b2.room
  have ok2 := b2.ok
  generalize buildF R1.2 v = R2 at *
  have hh1' := hh1.grown g2
  have apart : ∀ i ∈ S1, i ∉ S2 := fun i h1 h2 => hi2 i h2 (hh1.alive i h1)
  refine ⟨R1.2, R2.2, R1.1, R2.1, made1, ok1, live1, by omega, by omega, ⟨_, _, hh1.value ok1 hn1 (by omega)⟩, fun hf => by rw [hcp, if_pos hf], fun hf => ⟨by rw [hcp, hf, if_neg (by decide), made2], ok2, live2, by omega, (hh1.kind ok1).1, fun h5 => ?_, ?_⟩⟩
  · have hp := (hh1.kind ok1).1.1 h5
    have h5y := (hh2.kind ok2).1.2 hp
    have hnd : (S1 ++ S2).Nodup := List.nodup_append.2 ⟨hn1, hn2, fun a ha b hb e => apart a ha (e ▸ hb)⟩
    have cn1 := hh1.count
    have cn2 := hh2.count
    refine ⟨?_, ?_, ?_⟩
    · rw [(HoldsL.two hh1' hh2).reachM ok2 hnd (by simp [massVL]; omega)]
      simp only [List.length_append, cn1, cn2, Prod.mk.injEq, and_true]
      omega
    · have e1 := hh1'.walk ok2 8003 [] false (by omega) (by simpa using intsN_nodup hn1)
      have e2 := hh2.walk ok2 8003 ([] ++ intsN S1) (false || filesV v) (by omega) (by rw [List.nil_append, ← intsN_append]; exact intsN_nodup hnd)
      have e3 := walk_come ok2 hh1' h5 8002 (([] ++ intsN S1) ++ intsN S2) ((false || filesV v) || filesV v) (by have := (hh1'.cell h5).1; simp [this])
      simp only [reachM, walksF, e1, e2, e3]
    · have hcok : (⟨3, 0, [R2.1, R2.1]⟩ : ACell).ok = true := by
        simp [ACell.ok, ACell.headOk, (hh2.kind ok2).2]
      have hgl : R2.2.live < R2.2.room := by omega
      obtain ⟨i, ni, li, lvi, ci, wi, gi⟩ := give_new_cell ok2 (⟨3, 0, [R2.1, R2.1]⟩ : ACell)
      have ok3 : (R2.2.give ⟨3, 0, [R2.1, R2.1]⟩).2.Ok 0 := ok2.give (by decide) (ok_words hcok) hgl
      have ln3 := give_len R2.2 ⟨3, 0, [R2.1, R2.1]⟩
      have lv3 := AHeap.give_live R2.2 ⟨3, 0, [R2.1, R2.1]⟩
      have live3 : LiveOk (R2.2.give ⟨3, 0, [R2.1, R2.1]⟩).2 := live2.give hcok
      refine ⟨(R2.2.give ⟨3, 0, [R2.1, R2.1]⟩).2, (R2.2.give ⟨3, 0, [R2.1, R2.1]⟩).1, AHeap.alloc_give hcok hgl, ok3, live3, ?_⟩
      generalize R2.2.give ⟨3, 0, [R2.1, R2.1]⟩ = R3 at *
      have hh3 := hh2.grown gi
      have hw : walkF R3.2 8003 R3.1 [] false = .bad 6 := by
        have hiS : i ∉ S2 := fun h => ni (by have := hh2.alive i h; exact this)
        rw [wi]
        exact walk_two (f := 8001) ok3 hh3 hn2 h5y li lvi (by rw [ci]) hiS (by omega)
      have hr3 : reachM R3.2 8003 [R3.1] = (0, 6) := by simp only [reachM, walksF, hw]
      refine ⟨by omega, by unfold valueM; rw [hw], by unfold copyM; rw [hw], hw, by unfold dropM; rw [hr3]; simp, by omega⟩
  · have hd := hh1'.dropM ok2 hn1 (f := 8003) (by omega)
    obtain ⟨gone, dn, fo⟩ := hh1'.drop ok2 hn1 8003 (by omega)
    have cnt := hh1.count
    have ok3 := (dropF_ok 8003 R2.2 R1.1 0 ok2).up (C := 4000) (by omega)
    have lv3 := gone.live
    have ln3 := gone.len
    have live3 : LiveOk (dropF 8003 R2.2 R1.1) := LiveOk.dropF 8003 _ _ live2
    have hh3 := hh2.gone gone fun i h2 h1 => apart i h1 h2
    generalize dropF 8003 R2.2 R1.1 = K4 at *
    refine ⟨K4, hd, by omega, fo, ok3, live3, by omega, hh3.valueM ok3 hn2 (by omega), fun h5 => ?_, fun h5 => ?_, by omega⟩
    · obtain ⟨_, i, ew, hi, hl, hm⟩ := hh1'.cell h5
      have h2 := word_cell ok2 hi
      have hf : (K4.find (cellWord i (R2.2.slot i).gen)).1 = 230 := by
        have hk : (cellWord i (R2.2.slot i).gen).k = 5 := rfl
        have hn : (cellWord i (R2.2.slot i).gen).n = (i : Int) := rfl
        unfold AHeap.find
        rw [if_neg (by rw [h2]; simp [hk]), hn, if_neg (by omega), Int.toNat_natCast, AHeap.slot_get (by omega)]
        simp only
        rw [if_neg (by rw [gone.dead i hm]; simp)]
      rw [ew]
      unfold valueM
      simp [walkF, h2, hf, show (cellWord i (R2.2.slot i).gen).k = 5 from rfl]
    · have hw := (hh1.kind ok1).2
      unfold valueM
      simp [walkF, hw, h5]
end Go.Proofs.Ytciciaikajdenaa
/- NJ: the heap's and the cells' contracts in the shapes of the laws' walks. -/
set_option linter.unusedSimpArgs false
set_option linter.unusedVariables false
namespace Go.Proofs.Ytciciaikajdenaa
open Go.RowKit

section
variable {H : AHeap} {B : Int} {f : Nat} {w : AWord} {v : Val}
theorem new_m {r : Int} (h0 : 0 ≤ r) (h1 : r ≤ 100000) : NewH r (.new r) := fun σ => new_r h0 h1
theorem build_m (hv : v.low) (hs : massV v ≤ 1000000000) (ok : H.Ok B) (hB : 0 ≤ B) : Mut2 45 [.d (.agg (valD v))] H (.tup [.agg (wordD (buildM H v).1.1), .v (.int .i64 (buildM H v).1.2)]) (buildM H v).2 := fun σ loc hH => build_c45 ok hB hH (Val.low_kok _ hv) hs
theorem copy_m (ok : H.Ok B) (hB : 0 ≤ B) (hl : LiveOk H) (hf : H.slots.length + 1 ≤ f) (hkm : ∀ v come fl, walkF H f w [] false = .ok v come fl → v.kok ∧ massV v ≤ 1000000000) : Mut2 46 [.d (.agg (wordD w))] H (.tup [.agg (wordD (copyM H f w).1.1), .v (.int .i64 (copyM H f w).1.2)]) (copyM H f w).2 := fun σ loc hH => copy_c46 ok hB hl.cells hH (walk_fine H hf _ _) hkm
theorem drop_m (ok : H.Ok B) (hl : LiveOk H) (hf : H.slots.length + 1 ≤ f) (hN : (reachM H f [w]).2 = 0 → B + dropN f H w < 1000000000 ∧ fuelOk f H w) : Mut2 50 [.d (.fptr worldC), .d (.agg (wordD w))] H (.v (.int .i64 (dropM H f w).1)) (dropM H f w).2 := fun σ loc hH => drop_c50 ok hl.cells hH (walks_fine H hf _ _) hN
theorem value_m (ok : H.Ok B) (hl : LiveOk H) (hf : H.slots.length + 1 ≤ f) (w : AWord) : See2 49 [.d (.agg (wordD w))] H (.tup [.agg (valD (valueM H f w).1), .v (.int .i64 (valueM H f w).2)]) := fun σ loc hH => value_c ok hl.cells hH (walk_fine H hf _ _)
theorem reach_m (ok : H.Ok B) (hl : LiveOk H) (hf : H.slots.length + 1 ≤ f) (ws : List AWord) (hw : ws.length ≤ 1000000000) : See2 48 [.d (.lst 4 (wordsR ws))] H (.tup [.v (.int .i64 (reachM H f ws).1), .v (.int .i64 (reachM H f ws).2)]) := fun σ loc hH => reach_c ok hl.cells hH hw (walks_fine H hf _ _)
theorem size_m (ok : H.Ok B) (hl : LiveOk H) (hf : H.slots.length + 1 ≤ f) (w : AWord) : See2 53 [.d (.agg (wordD w))] H (.tup [.v (.int .i64 (reachM H f [w]).1), .v (.int .i64 (reachM H f [w]).2)]) := fun σ loc hH => size_c53 ok hl.cells hH (walks_fine H hf _ _)
theorem alloc_m (ok : H.Ok B) (c : ACell) (hm : c.ws.length ≤ maxLen) : Mut2 20 [.d (.agg (cellD c))] H (.tup [.agg (wordD (H.alloc c).1.1), .v (.int .i64 (H.alloc c).1.2)]) (H.alloc c).2 := fun σ loc hH => (alloc_r hH ok c hm).mono fun v σ' ⟨h1, hc⟩ => ⟨h1, hc.at', fun i ob hp e => hc.keep hp e⟩
theorem live_m (H : AHeap) : Look 33 H (.v (.int .i64 H.live)) := fun σ loc hH => live_r hH
theorem most_m (H : AHeap) : Look 36 H (.v (.int .i64 H.most)) := fun σ loc hH => most_r hH
theorem left_m (ok : H.Ok B) : Look 35 H (.v (.int .i64 (H.room - H.live))) := fun σ loc hH => left_r hH ok
theorem cells_m (ok : H.Ok B) : Look 38 H (.lst 4 (wordsR H.cells)) := fun σ loc hH => cells_r hH ok
end
theorem size_small {v : Val} (hv : v.low) : RunsP Try.prog 43 [.agg (valD v), .v (.int .i64 0)] (fun v => ∃ z : Int, v = .v (.int .i64 z)) := (size_c v hv 0 (by decide) (by decide)).mono fun _ ⟨z, e, _⟩ => ⟨z, e⟩
theorem size_great {v : Val} (hv : v.low) {n : Nat} (hn : n ≤ 9000) (h : ¬ massV v ≤ n) : RunsP Try.prog 43 [.agg (valD v), .v (.int .i64 0)] (fun v => ∃ z : Int, v = .v (.int .i64 z) ∧ (n : Int) < z) := (size_c v hv 0 (by decide) (by decide)).mono fun _ ⟨z, e, h1, h2⟩ => by
  obtain ⟨h3, h4, h5⟩ := h2 (by decide)
  refine ⟨z, e, ?_⟩
  by_cases hz : z ≤ 9000
  · have := h5 hz; omega
  · omega
theorem build_not {v : Val} (h : mayV v = false) (H : AHeap) : buildM H v = ((.zero, 2), H) := by
  have e : makeE H v = 2 := by unfold makeE; rw [h]; rfl
  unfold buildM
  rw [e, if_neg (by decide)]
end Go.Proofs.Ytciciaikajdenaa
