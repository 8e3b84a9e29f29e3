/- N45: CellOrder (joined, but for the chapter's rows). -/
import Derived.Test.YtciciaikajdenaaQN42
import Derived.Test.YtciciaikajdenaaQN43
import Derived.Test.YtciciaikajdenaaQN44
set_option linter.unusedSimpArgs false
set_option linter.unusedVariables false
namespace Go.Proofs.Ytciciaikajdenaa
open Go.RowKit

theorem cellOrder_w (kn : Known) (v : Val) (hv : v.low) : RunsP Try.prog 10 [.agg (valD v)] (fun r => r = .v (.bool true)) := by
  by_cases hm : massV v ≤ 4000
  · have hsz := size_small hv
    have b0 : NewH 100000 (.new 100000) := new_m (by decide) (by decide)
    have m1 := build_m (H := .new 100000) hv (by omega) (AHeap.new_ok 100000 (by decide) (by decide) 0) (by decide)
    have h47 := cells_c47 v (by omega)
    have hc := cells_mass v
    cases hmv : mayV v with
    | false =>
      rw [build_not hmv] at m1
      have l1 := live_m (.new 100000)
      rw [live_of_new] at l1
      obtain ⟨vk, vn, vs, vl⟩ := v
      exact order_not kn hsz b0 m1 l1
    | true =>
      obtain ⟨K, w, A⟩ := ordered (v := v) (r := 100000) (by decide) (by decide) hmv (by omega)
      rw [A.made] at m1
      have l1 := live_m K
      rw [A.live] at l1
      obtain ⟨vk, vn, vs, vl⟩ := v
      by_cases hk : vk < 11
      · have h0 : cellsV (.mk vk vn vs vl) = 0 := by
          obtain ⟨h1, _⟩ := may_split hmv
          rw [head_leaf hk] at h1
          simp only [Bool.and_eq_true, beq_iff_eq] at h1
          rw [List.length_eq_zero_iff.1 h1.1]
          simp only [cellsV, cellsL]
          rw [if_neg (by omega)]
        rw [h0] at l1 h47
        obtain ⟨wk, wn, ws, wg⟩ := w
        exact order_leaf kn hsz hk b0 m1 l1 h47
      · have hp : 0 < cellsV (.mk vk vn vs vl) := by simp only [cellsV]; rw [if_pos (by omega)]; omega
        have hw := A.word hp
        subst hw
        obtain ⟨k1, k2, k3, k4⟩ := A.kids vk vn vs vl rfl hk
        have hl64 : vl.length ≤ 64 := by rw [buildsF_len] at k3; exact k3
        have hml : massVL vl ≤ 4000 := by simp only [massV] at hm; omega
        have ha := alloc_m k2 ⟨vk - 10, vn, (buildsF (.new 100000) vl).1⟩ (by show (buildsF (.new 100000) vl).1.length ≤ maxLen; unfold maxLen; omega)
        rw [k4] at ha
        exact order_con kn hsz (cs := K.cells) (n := (cellsV (.mk vk vn vs vl) : Int)) (fun x hx σ loc hH => by
            have h := get_r hH A.ok x
            rw [A.gets x hx] at h
            exact h) (fun x hx => same26 _ (by
            obtain ⟨m, s, h1, h2, rfl⟩ := wordsFrom_mem _ _ _ hx
            have hm2 := (List.getElem?_eq_some_iff.1 h1).1
            have hs : K.slot m = s := by
              have := AHeap.slot_get hm2
              rw [h1] at this; injection this with this; exact this.symm
            have := get_cell A.ok hm2 (by rw [hs]; exact h2)
            rw [hs] at this
            rw [Nat.zero_add, this]
            have := A.ok.words s (List.mem_of_getElem? h1)
            show s.c.ws.length ≤ 1000000
            omega)) (cells_m A.ok) (by rw [A.len]; omega) (by rw [A.len]) hk hv.1.2 (by omega) hl64 b0 b0 m1 l1 h47 (fun j p e => by
            obtain ⟨o1, o2⟩ := k1 j p e
            have hpm := massVL_mem (List.mem_of_getElem? e)
            have h := build_m (H := (buildsF (.new 100000) (vl.take j)).2) (Val.low_get hv e) (by omega) o1 (by decide)
            rw [o2] at h
            exact h) ha
  · have hsz := size_great (n := 4000) hv (by decide) hm
    obtain ⟨vk, vn, vs, vl⟩ := v
    exact order_big kn hsz
end Go.Proofs.Ytciciaikajdenaa
