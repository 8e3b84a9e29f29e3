/- HeapOrder: the claim's statement, out of the walk. -/
import Derived.Test.YtciciaikajdenaaH5
import Derived.Test.YtciciaikajdenaaLawTop
set_option linter.unusedVariables false
set_option linter.unusedSimpArgs false
namespace Go.Proofs.Ytciciaikajdenaa.heapOrder
open Go.ChangeShapes Go.WideShapes Go.ChangeAt Go.RowKit

theorem own : ownKnob Try.prog.godebug = none := by kernel_rfl
theorem laidOut : laidOutB Try.prog = true := by kernel_rfl
theorem cells3 : Try.prog.cellsOf 3 = 1 := by kernel_rfl

/-- A slice of integers that came in can be read. -/
theorem rd_ints {W : World} {a : Addr} {len cap : Nat} {zs : List Int} (hl : len ≤ zs.length) (hc : len ≤ cap) (hlt : 0 < len → a.block < W.heap.size)
    (h : ∀ i, i < zs.length → W.cell? (a.add i) = some (.int .i64 (zs.getD i 0))) : 0 < (zs.take len).length → rd W 1 (.slice (some a) (zs.take len).length cap) (zs.take len).length ((zs.take len).map (Value.int .i64)) := by
  intro h0
  have hlen : (zs.take len).length = len := by simp; omega
  rw [hlen] at h0 ⊢
  obtain ⟨b, off, spot⟩ := a
  have hspot : spot = none := by simpa [Addr.add] using World.cell?_spot (h 0 (by omega))
  subst hspot
  refine ⟨by simp; omega, .inr ⟨b, off, cap, rfl, hc, fun _ => hlt h0, ?_⟩⟩
  intro j u hj
  have hj' : j < len := by
    have := (List.getElem?_eq_some_iff.1 hj).1
    simp at this; omega
  rw [← addr_add, h j (by omega)]
  simp [List.getElem?_take, hj'] at hj
  obtain ⟨x, hx, rfl⟩ := hj
  simp [List.getD, hx]

theorem walk (n : Int) (a : Option Addr) (zs : List Int) (cap : Nat) (w : World) (hz : 0 < zs.length → rd w 1 (.slice a zs.length cap) zs.length (zs.map (Value.int .i64))) :
    Calls Try.prog 5 #[.int .i64 n, .slice a zs.length cap] w fun e w' => KnownPost w e w' := by
  by_cases h : n < 0 ∨ 400 < n ∨ n < zs.length
  · exact order_early n a zs.length cap w h
  · obtain ⟨m, rfl⟩ : ∃ m : Nat, n = m := ⟨n.toNat, by omega⟩
    exact order_main m (by omega) a zs cap w (by omega) hz

set_option maxRecDepth 100000 in
theorem lifted (os : Os) (started : os.Started) (H : Type) (enc : TypeId × Value → H) :
    ReturnsInHanded {} Try.checked os 5 .any (Rows.heapOrderSpec.pre6 enc Try.prog Try.f5 Rows.heapOrderRow.domain false) (Rows.heapOrderSpec.post enc Try.prog Try.f5 false true false false) := by
  refine returnsInHanded_of_change (C := Try.checked) own started (by kernel_rfl) Try.func5
    (ChangeSpec.witness6 (enc := enc) (C := Try.checked) false ⟨#[], #[.int .i64 0, .slice none 0 0], []⟩ 8 (by kernel_rfl) (by kernel_rfl) (by kernel_rfl) (by kernel_rfl)) ?_
  intro W base args ds gs before hval0 hW hcnd _
  have hval : ∀ (j : Nat) t v, Try.f5.params[j]? = some t → args[j]? = some v → Value.okWide Try.prog W .any base t v := hval0
  have hW' := hW
  obtain ⟨p, q, hA0, hV, rfl, hfz, hnd⟩ := hW
  have hA : DataW.TrodAll enc Try.prog W 0 (fun _ => true) true Try.f5.params.toList args.toList ds p := hA0
  rw [Try.params5] at hA hval
  obtain ⟨v0, v1, d0, d1, p0, p1, rfl, rfl, rfl, h0, h1⟩ := trodAll_two hA
  obtain ⟨rfl, rfl⟩ := trodVars_none hV
  have hlt := hW'.lt
  obtain ⟨n, rfl, rfl, rfl, wn⟩ := open_int Try.underlying3 (hval 0 3 v0 rfl rfl) h0
  obtain ⟨a0, len, cap, rfl⟩ := okWide_slice Try.underlying52 (hval 1 52 v1 rfl rfl)
  obtain ⟨fuel, hf⟩ := h1
  have main : Calls Try.prog 5 #[.int .i64 n, .slice a0 len cap] W fun e w' => KnownPost W e w' := by
    rcases open_ints Try.underlying52 Try.underlying3 cells3 hf with ⟨hcs, hx⟩ | ⟨a, len', cap', zs, hcs, _, hl, hm, hz, hx, hcell, hwz⟩
    · simp [Value.cells] at hcs
      obtain ⟨rfl, rfl, rfl⟩ := hcs
      exact walk n none [] 0 W (fun h => by cases h)
    · simp [Value.cells] at hcs
      obtain ⟨rfl, rfl, rfl⟩ := hcs
      simp only [Prod.mk.injEq] at hx
      obtain ⟨rfl, rfl⟩ := hx
      simp only [if_true] at hz
      have e : len = (zs.take len).length := by simp; omega
      have k := walk n (some a) (zs.take len) cap W (rd_ints (by omega) hl (fun h => hlt (.cell a.block a.off) (by simp only [List.mem_append]; exact .inl (.inr (MemPlace.mem_row.2 ⟨0, by omega, by simp⟩)))) hcell)
      rw [← e] at k
      exact k
  refine main.mono fun e W' ⟨he, hb⟩ => ?_
  subst he
  exact ⟨_, rfl, law_post laidOut (by kernel_rfl) rfl (by kernel_rfl) Try.underlying4 rfl hW' hb⟩

theorem over : Rows.heapOrderRow.holds Try.pinned (OpenSpec.ofChange Rows.heapOrderSpec) :=
  OpenClaim.holds_of_wide 5 Try.f5 rfl rfl rfl rfl rfl rfl rfl ⟨rfl, rfl, rfl, rfl, rfl⟩ rfl rfl rfl rfl rfl (by kernel_rfl) Try.func5 (by kernel_rfl)
    (of_decide_eq_true (by kernel_rfl)) (by unfold Func.isWrapper; first | (rw [if_pos (by decide +kernel)]; kernel_rfl) | (rw [if_neg (by decide +kernel)]; exact ⟨rfl, rfl⟩))
    (fun os started H enc _ => lifted os started H enc)

/-- ████ THE STATEMENT ████ -/
theorem proved : Rows.HeapOrderSaid := over
#print axioms proved
end Go.Proofs.Ytciciaikajdenaa.heapOrder
