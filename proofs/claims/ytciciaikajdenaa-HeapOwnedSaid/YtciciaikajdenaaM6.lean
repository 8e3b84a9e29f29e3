/- HeapOwned: the table is emptied, cell by cell. -/
import Derived.Test.YtciciaikajdenaaM5
set_option linter.unusedSimpArgs false
set_option linter.unusedVariables false
namespace Go.Proofs.Ytciciaikajdenaa
open Go.RowKit
open Classical

structure Drained (H : AHeap) (E D : List AEnt) (j : Nat) : Prop where
  left : ∀ j' x, j ≤ j' → H.cells[j']? = some x → getA x D = getA x E
  nodup : (D.map Prod.fst).Nodup
  len : D.length + j = H.cells.length

theorem drained_zero {H : AHeap} {room B : Int} {E : List AEnt} {Gs : List (AWord × Value)} (o : OwnInv H room B E Gs) : Drained H E E 0 := by
  refine ⟨fun _ _ _ _ => rfl, ?_, ?_⟩
  · have := o.own.nodup
    simpa [absE, Function.comp_def] using this
  · have h1 := o.len
    have h2 := cells_len o.ok
    omega

theorem drained_step {H : AHeap} {room B : Int} {E D : List AEnt} {Gs : List (AWord × Value)} (o : OwnInv H room B E Gs) {j : Nat} (h : Drained H E D j) {x : AWord} (hx : H.cells[j]? = some x) :
    ∃ c v, getA x E = some (c, v) ∧ getA x D = some (c, v) ∧ H.get x = (c, 0) ∧ c.ws.length ≤ 64 ∧ Drained H E (delA x D) (j + 1) := by
  obtain ⟨h1, h2, h3, h4⟩ := cells_get o.ok (List.mem_of_getElem? hx)
  have hv := o.own.has x
  rw [val_some h1, getA_abs] at hv
  have hl := h.left j x (Nat.le_refl _) hx
  cases hq : getA x E with
  | none => rw [hq] at hv; cases hv
  | some q =>
    obtain ⟨c, v⟩ := q
    rw [hq] at hv
    simp only [Option.map_some, Option.some.injEq] at hv
    have hd : getA x D = some (c, v) := by rw [hl, hq]
    have hgx : H.get x = (c, 0) := by unfold AHeap.get; rw [h1, hv]; rfl
    refine ⟨c, v, rfl, hd, hgx, get_ws o.ok hgx, ?_, ?_, ?_⟩
    · intro j' y hj' hy
      rw [getA_delA h.nodup, if_neg, h.left j' y (by omega) hy]
      intro e
      subst e
      have hp := wordsFrom_sorted H.slots 0
      obtain ⟨hk', ek⟩ := List.getElem?_eq_some_iff.1 hx
      obtain ⟨hj2, ej⟩ := List.getElem?_eq_some_iff.1 hy
      have := List.pairwise_iff_getElem.1 hp j j' hk' hj2 (by omega)
      unfold AHeap.cells at ek ej
      rw [ek, ej] at this
      omega
    · exact (delA_sub.map _).nodup h.nodup
    · have := delA_len hd
      have := h.len
      omega

/-- While the table is emptied. -/
def EndRel (w : World) (H : AHeap) (E : List AEnt) (p b7 r1 : Nat) (v i : Value) (wr : World) : Prop :=
  ∃ (j : Nat) (D : List AEnt), j ≤ H.cells.length ∧ i = .int .i64 j ∧ Drained H E D j ∧ St w wr [wordsOwn v H.cells, heapAt p H, cellsB b7 #[.map (some r1)] 58, mapB wv r1 (hasL D), entW E]

end Go.Proofs.Ytciciaikajdenaa
