/- find. -/
import Derived.Test.YtlpgekodoiioaaaA2
set_option linter.unusedSimpArgs false
set_option linter.unusedVariables false
namespace Go.Proofs.Ytlpgekodoiioaaa
open Go.RowKit

theorem flat_get' {α : Type} {f : α → List Value} {k : Nat} (hf : ∀ x, (f x).length = k) : ∀ (l : List α) (i j : Nat) (x : α), l[i]? = some x → j < k → (l.flatMap f)[i * k + j]? = (f x)[j]?
  | [], i, j, x, h, _ => by simp at h
  | a :: l, 0, j, x, h, hj => by
    simp at h; subst h
    simp only [List.flatMap_cons, Nat.zero_mul, Nat.zero_add]
    rw [List.getElem?_append_left (by rw [hf]; exact hj)]
  | a :: l, i + 1, j, x, h, hj => by
    simp only [List.flatMap_cons]
    rw [List.getElem?_append_right (by rw [hf, Nat.add_mul]; omega), hf]
    rw [show (i + 1) * k + j - k = i * k + j from by rw [Nat.add_mul]; omega]
    exact flat_get' hf l i j x (by simpa using h) hj

theorem flat_len' {α : Type} {f : α → List Value} {k : Nat} (hf : ∀ x, (f x).length = k) : ∀ (l : List α), (l.flatMap f).length = l.length * k
  | [] => by simp
  | a :: l => by simp only [List.flatMap_cons, List.length_append, List.length_cons, hf, flat_len' hf l, Nat.add_mul]; omega

theorem hCells_len (x : AHandle) : (hCells x).length = 3 := rfl
theorem fCells_len (x : AFile) : (fCells x).length = 2 := rfl
theorem oCells_len (x : AOp) : (oCells x).length = 5 := rfl

section
variable {W0 w : World} {L : List HProp} {p : Nat} {W : AW}

/-- The cells of the i-th handle. -/
theorem handle_cells {b : Nat} {rest : List Value} {hs : List AHandle} {i : Nat} {x : AHandle} {T : TypeId} (h : St W0 w (cellsB b (hs.flatMap hCells ++ rest).toArray T :: L)) (hx : hs[i]? = some x) :
    w.cell? ⟨b, i * 3, none⟩ = some (.int .i64 x.file) ∧ w.cell? ⟨b, i * 3 + 1, none⟩ = some (.int .i64 x.pos) ∧ w.cell? ⟨b, i * 3 + 2, none⟩ = some (.bool x.shut) := by
  have hl : i < hs.length := (List.getElem?_eq_some_iff.1 hx).1
  have key : ∀ j, j < 3 → w.cell? ⟨b, i * 3 + j, none⟩ = (hCells x)[j]? := by
    intro j hj
    rw [h.cell, List.getElem?_toArray, List.getElem?_append_left (by rw [flat_len' hCells_len]; omega), flat_get' hCells_len hs i j x hx hj]
  exact ⟨key 0 (by omega), key 1 (by omega), key 2 (by omega)⟩

/-- The cells of the i-th file. -/
theorem file_cells {b : Nat} {rest : List Value} {fs : List AFile} {i : Nat} {x : AFile} {T : TypeId} (h : St W0 w (cellsB b (fs.flatMap fCells ++ rest).toArray T :: L)) (hx : fs[i]? = some x) :
    w.cell? ⟨b, i * 2, none⟩ = some (.string x.name) ∧ w.cell? ⟨b, i * 2 + 1, none⟩ = some (.string x.text) := by
  have hl : i < fs.length := (List.getElem?_eq_some_iff.1 hx).1
  have key : ∀ j, j < 2 → w.cell? ⟨b, i * 2 + j, none⟩ = (fCells x)[j]? := by
    intro j hj
    rw [h.cell, List.getElem?_toArray, List.getElem?_append_left (by rw [flat_len' fCells_len]; omega), flat_get' fCells_len fs i j x hx hj]
  exact ⟨key 0 (by omega), key 1 (by omega)⟩

theorem wrong_zero {h : Int} (hw : W.wrong h = 0) : ∃ i : Nat, h = i ∧ i < W.handles.length ∧ W.handles[i]? = some (W.handle i) ∧ (W.handle i).shut = false := by
  unfold AW.wrong at hw
  split at hw
  · cases hw
  · rename_i h1
    simp only [not_or, Int.not_lt, Int.not_le] at h1
    obtain ⟨i, rfl⟩ := Int.eq_ofNat_of_zero_le h1.1
    have hi : i < W.handles.length := by omega
    have hx : W.handles[i]? = some (W.handle i) := by simp [AW.handle, List.getD, List.getElem?_eq_getElem hi]
    refine ⟨i, rfl, hi, hx, ?_⟩
    simp only [Int.toNat_natCast, hx] at hw
    cases hs : (W.handle i).shut
    · rfl
    · rw [hs] at hw; simp at hw

set_option maxRecDepth 100000 in
/-- A handle that can't be used. -/
theorem find_bad (h : St W0 w (worldAt p W :: L)) {x k : Int} (hk : W.wrong x = k) (h0 : k ≠ 0) (hn : W.handles.length ≤ 100000) :
    Calls Try.prog 42 #[.pointer (some ⟨p, 0, none⟩), .int .i64 x] w fun e w' => e = .returned (.tuple #[.pointer none, .int .i64 k]) ∧ w' = w := by
  obtain ⟨vf, vb, vh, vt, hO⟩ := h.world_open
  unfold worldL at hO
  simp only [List.cons_append, List.nil_append] at hO
  obtain ⟨ha, hcap, rfl, _⟩ := (hO.pull 3).own_form
  have d0 := hO.cell
  by_cases h1 : x < 0
  · have e : k = 4 := by unfold AW.wrong at hk; rw [if_pos (Or.inl h1)] at hk; exact hk.symm
    subst e
    clear h hO hk h0
    go_enter Try.func42, Try.ntmps42
    go_wp2
    go_ret2
    exact ⟨rfl, rfl⟩
  · by_cases h2 : (W.handles.length : Int) ≤ x
    · have e : k = 4 := by unfold AW.wrong at hk; rw [if_pos (Or.inr h2)] at hk; exact hk.symm
      subst e
      clear h hO hk h0
      go_enter Try.func42, Try.ntmps42
      go_wp2
      go_ret2
      exact ⟨rfl, rfl⟩
    · obtain ⟨i, rfl⟩ := Int.eq_ofNat_of_zero_le (show 0 ≤ x by omega)
      have hi : i < W.handles.length := by omega
      have hx : W.handles[i]? = some (W.handle i) := by simp [AW.handle, List.getD, List.getElem?_eq_getElem hi]
      have e : k = 220 ∧ (W.handle i).shut = true := by
        unfold AW.wrong at hk
        rw [if_neg (by omega)] at hk
        simp only [Int.toNat_natCast, hx] at hk
        cases hs : (W.handle i).shut
        · rw [hs] at hk; simp at hk; exact absurd hk.symm h0
        · rw [hs] at hk; simp at hk; exact ⟨hk.symm, rfl⟩
      obtain ⟨rfl, hs⟩ := e
      obtain ⟨hl, hc⟩ := St.own_cases (hO.pull 3)
      obtain ⟨b, cap, rest, e0, k1, k2, k3, s⟩ := hc.resolve_left (fun q => by have := q.2.1; omega)
      injection e0 with e1 _ e3
      subst e1 e3
      obtain ⟨c0, c1, c2⟩ := handle_cells s hx
      rw [hs] at c2
      have hlt : (i : Int) < (W.handles.length : Int) := by omega
      clear h hO hk h0 s hl hc hx hs h1 h2
      go_enter Try.func42, Try.ntmps42
      go_wp2
      go_ret2
      exact ⟨rfl, rfl⟩

set_option maxRecDepth 100000 in
/-- A handle that can be used. -/
theorem find_good {b cap : Nat} {rest : List Value} {vf vb vt : Value} {hs : List AHandle} (h : St W0 w (cellsB b (hs.flatMap hCells ++ rest).toArray 86 :: cellsB p #[vf, vb, .slice (some ⟨b, 0, none⟩) hs.length cap, vt] 78 :: L)) {i : Nat} {x : AHandle} (hx : hs[i]? = some x) (hsh : x.shut = false) (hn : hs.length ≤ 100000) :
    Calls Try.prog 42 #[.pointer (some ⟨p, 0, none⟩), .int .i64 i] w fun e w' => e = .returned (.tuple #[.pointer (some ⟨b, i * 3, none⟩), .int .i64 0]) ∧ w' = w := by
  have d0 := (h.pull 1).cell
  obtain ⟨c0, c1, c2⟩ := handle_cells h hx
  rw [hsh] at c2
  have hi : i < hs.length := (List.getElem?_eq_some_iff.1 hx).1
  have hlt : (i : Int) < (hs.length : Int) := by omega
  have hge : ¬ (hs.length : Int) ≤ (i : Int) := by omega
  have h0 : ¬ (i : Int) < 0 := by omega
  clear h hx hsh
  go_enter Try.func42, Try.ntmps42
  go_wp2
  go_ret2
  exact ⟨rfl, rfl⟩
end
end Go.Proofs.Ytlpgekodoiioaaa
