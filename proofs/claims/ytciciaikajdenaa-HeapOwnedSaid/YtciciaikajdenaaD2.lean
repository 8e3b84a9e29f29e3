/- The word that a call means. -/
import Derived.Test.YtciciaikajdenaaD1
set_option linter.unusedSimpArgs false
set_option linter.unusedVariables false
namespace Go.Proofs.Ytciciaikajdenaa
open Go.RowKit

def meantIdx (n : Int) (m : Nat) : Nat := ((n.tmod m + m).tmod m).toNat
def meantW (ws : List AWord) (d : ADo) : AWord := if d.raw = true ∨ ws.length = 0 then d.w else ws.getD (meantIdx d.n ws.length) .zero

theorem meantIdx_lt (n : Int) {m : Nat} (h : 0 < m) : meantIdx n m < m := by
  unfold meantIdx
  have h1 := Int.tmod_lt_of_pos n (b := (m : Int)) (by omega)
  have h2 : -(m : Int) < n.tmod m := by
    exact Int.lt_tmod_of_pos n (by omega)
  have h3 := Int.tmod_lt_of_pos (n.tmod m + m) (b := (m : Int)) (by omega)
  omega

set_option maxRecDepth 100000 in
theorem meant_c (ws : List AWord) (vl : Value) (d : ADo) (vc : Value) (w : World) (h : rd w 4 vl ws.length (flatW ws)) (hm : ws.length ≤ 1000000) (hv : ∃ a n cap, vc = .slice a n cap) :
    Calls Try.prog 17 #[vl, .agg (dCells (d, vc)).toArray] w fun e w' => e = .returned (wv (meantW ws d)) ∧ Below w.heap.size w w' := by
  obtain ⟨a, cap, rfl⟩ := rd_form h
  obtain ⟨va, vn, vcap, rfl⟩ := hv
  obtain ⟨kind, n, i, c, x, dw, raw⟩ := d
  have H := Lib.hid h
  have fin : ∀ (raw : Bool) (z : AWord), St w _ [cellsB (w.alloc (.cells (dCells (⟨kind, n, i, c, x, dw, raw⟩, .slice va vn vcap)).toArray 38)).heap.size #[Value.int .u8 z.k, .int .i64 z.n, .string z.s, .int .i64 z.g] 36, cellsB w.heap.size (dCells (⟨kind, n, i, c, x, dw, raw⟩, .slice va vn vcap)).toArray 38] := fun raw z => ((St.refl w).allocC (dCells (⟨kind, n, i, c, x, dw, raw⟩, .slice va vn vcap)).toArray 38).allocC #[Value.int .u8 z.k, .int .i64 z.n, .string z.s, .int .i64 z.g] 36
  simp only [World.size_alloc] at fin
  have HF := Lib.hid fin
  have h63 : ws.length ≤ 1000000 := hm
  clear h fin
  simp only [dCells]
  cases raw with
  | true =>
    go_enter Try.func17, Try.ntmps17
    go_wp2_with fail
    have d1 := (HF.out true dw).cell
    refine bodyPost_ret (v := wv dw) (by simp [results, Try.results17, go_sem, d1, wv]) rfl ⟨by simp [meantW], (HF.out true dw).below⟩
  | false =>
    by_cases hl : ws.length = 0
    · go_enter Try.func17, Try.ntmps17
      go_wp2_with fail
      have d1 := (HF.out false dw).cell
      refine bodyPost_ret (v := wv dw) (by simp [results, Try.results17, go_sem, d1, wv]) rfl ⟨by simp [meantW, hl], (HF.out false dw).below⟩
    · have hi := meantIdx_lt n (show 0 < ws.length by omega)
      obtain ⟨b, off, rfl⟩ := rd_some H.out (by omega)
      obtain ⟨z, hz⟩ : ∃ z, ws[meantIdx n ws.length]? = some z := ⟨_, List.getElem?_eq_getElem hi⟩
      have hzw : meantW ws ⟨kind, n, i, c, x, dw, false⟩ = z := by simp [meantW, hl, List.getD, hz]
      have hne : ((ws.length : Int) == 0) = false := by simp only [beq_eq_false_iff_ne, ne_eq]; omega
      have t1 := Int.lt_tmod_of_pos n (b := (ws.length : Int)) (by omega)
      have t2 := Int.tmod_lt_of_pos n (b := (ws.length : Int)) (by omega)
      have hw : wrap64 (n.tmod ws.length + ws.length) = n.tmod ws.length + ws.length := IntWalk.wrap64_in _ (by omega)
      have hidx : (n.tmod ws.length + ws.length).tmod ws.length = (meantIdx n ws.length : Int) := by
        have t3 := Int.tmod_nonneg (ws.length : Int) (a := n.tmod ws.length + ws.length) (by omega)
        unfold meantIdx; omega
      obtain ⟨q0, q1, q2, q3⟩ := rd_word (H.out.st (HF.out false .zero)) hz
      simp only [dCells, AWord.zero] at q0 q1 q2 q3
      have hi' : (meantIdx n ws.length : Int) < ws.length := by omega
      generalize meantIdx n ws.length = m at *
      clear t1 t2
      go_enter Try.func17, Try.ntmps17
      go_wp2_with fail
      have d1 := (HF.out false z).cell
      refine bodyPost_ret (v := wv z) (by simp [results, Try.results17, go_sem, d1, wv]) rfl ⟨by rw [hzw], (HF.out false z).below⟩

/-- The same, the argument written out. -/
theorem meant_x (ws : List AWord) (a : Option Addr) (cap : Nat) (d : ADo) (va : Option Addr) (vn vcap : Nat) (w : World) (h : rd w 4 (.slice a ws.length cap) ws.length (flatW ws)) (hm : ws.length ≤ 1000000) :
    Calls Try.prog 17 #[.slice a ws.length cap, .agg #[.int .i64 d.kind, .int .i64 d.n, .int .i64 d.i, .int .u8 d.c.k, .int .i64 d.c.n, .slice va vn vcap, .int .u8 d.x.k, .int .i64 d.x.n, .string d.x.s, .int .i64 d.x.g, .int .u8 d.w.k, .int .i64 d.w.n, .string d.w.s, .int .i64 d.w.g, .bool d.raw]] w fun e w' => e = .returned (wv (meantW ws d)) ∧ Below w.heap.size w w' :=
  meant_c ws _ d _ w h hm ⟨_, _, _, rfl⟩

end Go.Proofs.Ytciciaikajdenaa
