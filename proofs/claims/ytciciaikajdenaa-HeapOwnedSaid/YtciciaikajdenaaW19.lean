/- cell, number; Same of what is the same. -/
import Derived.Test.YtciciaikajdenaaW18
set_option linter.unusedSimpArgs false
set_option linter.unusedVariables false
namespace Go.Proofs.Ytciciaikajdenaa
open Go.RowKit

theorem cell_c (n g : Int) (w : World) : Calls Try.prog 41 #[.int .i64 n, .int .i64 g] w fun e w' => e = .returned (.agg #[.int .u8 5, .int .i64 n, .string ⟨#[]⟩, .int .i64 g]) ∧ Below w.heap.size w w' := by
  go_enter Try.func41, Try.ntmps41
  go_wp2
  refine bodyPost_ret (v := .agg #[.int .u8 5, .int .i64 n, .string ⟨#[]⟩, .int .i64 g]) (by simp [results, Try.results41, go_sem]) rfl ⟨rfl, ?_⟩
  exact (Below.refl _ _).alloc (Nat.le_refl _) _

theorem number_c (n : Int) (w : World) : Calls Try.prog 32 #[.int .i64 n] w fun e w' => e = .returned (.agg #[.int .u8 1, .int .i64 n, .string ⟨#[]⟩, .int .i64 0]) ∧ Below w.heap.size w w' := by
  go_enter Try.func32, Try.ntmps32
  go_wp2
  refine bodyPost_ret (v := .agg #[.int .u8 1, .int .i64 n, .string ⟨#[]⟩, .int .i64 0]) (by simp [results, Try.results32, go_sem]) rfl ⟨rfl, ?_⟩
  exact (Below.refl _ _).alloc (Nat.le_refl _) _

theorem rd_form {w : World} {sz n : Nat} {v : Value} {xs : List Value} (h : rd w sz v n xs) : ∃ a cap, v = .slice a n cap := by
  rcases h.2 with ⟨⟨_, _, rfl⟩, e⟩ | ⟨b, off, cap, rfl, _⟩
  · exact ⟨_, _, by rw [e]⟩
  · exact ⟨_, _, rfl⟩

theorem rd_some {w : World} {sz n cap : Nat} {a : Option Addr} {xs : List Value} (h : rd w sz (.slice a n cap) n xs) (hn : 0 < n) : ∃ b off, a = some ⟨b, off, none⟩ := by
  rcases h.2 with ⟨_, e⟩ | ⟨b, off, cap', e, _⟩
  · omega
  · injection e with e1 _ _; exact ⟨_, _, e1⟩

set_option maxRecDepth 100000 in
set_option maxHeartbeats 1000000 in
theorem same_c (c : ACell) (v1 v2 : Value) (w : World) (h1 : rd w 4 v1 c.ws.length (flatW c.ws)) (h2 : rd w 4 v2 c.ws.length (flatW c.ws)) (hm : c.ws.length ≤ maxLen) :
    Calls Try.prog 26 #[cv c v1, cv c v2] w fun e w' => e = .returned (.bool true) ∧ Below w.heap.size w w' := by
  obtain ⟨a1, cap1, rfl⟩ := rd_form h1
  obtain ⟨a2, cap2, rfl⟩ := rd_form h2
  have H1 := Lib.hid h1
  have H2 := Lib.hid h2
  have s0 := ((St.refl w).allocC #[Value.int .u8 c.k, .int .i64 c.n, .slice a1 c.ws.length cap1] 34).allocC #[Value.int .u8 c.k, .int .i64 c.n, .slice a2 c.ws.length cap2] 34
  simp only [World.size_alloc] at s0
  have S0 := Lib.hid s0
  clear h1 h2 s0
  unfold maxLen at hm
  unfold cv
  go_enter Try.func26, Try.ntmps26
  go_wp2
  go_loopw [5] (fun i wr => ∃ k : Nat, k ≤ c.ws.length ∧ i = .int .i64 k ∧ St w wr [cellsB (w.heap.size + 1) #[Value.int .u8 c.k, .int .i64 c.n, .slice a2 c.ws.length cap2] 34, cellsB w.heap.size #[Value.int .u8 c.k, .int .i64 c.n, .slice a1 c.ws.length cap1] 34]) (fun i _ => c.ws.length - (intOf i).toNat)
  case atStart => exact ⟨0, Nat.zero_le _, rfl, S0.out⟩
  case round =>
    obtain ⟨k, hk, rfl, S⟩ := hrel
    have d1 := (S.pull 1).cell
    by_cases hlt : k < c.ws.length
    · obtain ⟨x, hx⟩ : ∃ x, c.ws[k]? = some x := ⟨_, List.getElem?_eq_getElem hlt⟩
      obtain ⟨b1, o1, rfl⟩ := rd_some H1.out (by omega)
      obtain ⟨b2, o2, rfl⟩ := rd_some H2.out (by omega)
      have HS := Lib.hid S
      clear S
      go_wp2
      refine wp_region_st HS.out [0, 1, 2, 3, 4, 5, 6, 7, 8, 9, 10] (fun w' => (∀ o, w'.cell? ⟨w.heap.size, o, none⟩ = #[Value.int .u8 c.k, .int .i64 c.n, .slice (some ⟨b1, o1, none⟩) c.ws.length cap1][o]?) ∧ (∀ o, w'.cell? ⟨w.heap.size + 1, o, none⟩ = #[Value.int .u8 c.k, .int .i64 c.n, .slice (some ⟨b2, o2, none⟩) c.ws.length cap2][o]?) ∧
        (w'.cell? ⟨b1, o1 + k * 4, none⟩ = some (.int .u8 x.k) ∧ w'.cell? ⟨b1, o1 + k * 4 + 1, none⟩ = some (.int .i64 x.n) ∧ w'.cell? ⟨b1, o1 + k * 4 + 2, none⟩ = some (.string x.s) ∧ w'.cell? ⟨b1, o1 + k * 4 + 3, none⟩ = some (.int .i64 x.g)) ∧
        (w'.cell? ⟨b2, o2 + k * 4, none⟩ = some (.int .u8 x.k) ∧ w'.cell? ⟨b2, o2 + k * 4 + 1, none⟩ = some (.int .i64 x.n) ∧ w'.cell? ⟨b2, o2 + k * 4 + 2, none⟩ = some (.string x.s) ∧ w'.cell? ⟨b2, o2 + k * 4 + 3, none⟩ = some (.int .i64 x.g))) [1, 4, 6, 9] [] [] (by kernel_rfl) (by kernel_rfl) (fun c d v a w h => by cases d <;> exact h) ?_
      intro w6 S6
      have HF := Lib.hid (And.intro (S6.pull 1).cell (And.intro S6.cell (And.intro (rd_word (H1.out.st S6) hx) (rd_word (H2.out.st S6) hx))))
      have HM := Lib.hid hm
      clear d1 hx hm
      iterate 11
        (first
          | refine walk_load rfl rfl rfl HF.out rfl (by rintro w' ⟨g0, g1, ⟨g2, g3, g4, g5⟩, g6, g7, g8, g9⟩; go_simp; with_reducible rfl) ?_
          | refine walk_pure rfl rfl rfl rfl (by intro w'; go_simp; with_reducible rfl) ?_)
        simp only [List.getElem_toArray, List.getElem_cons_zero, List.getElem_cons_succ, Act.put, List.setIfInBounds_toArray, List.set_cons_zero, List.set_cons_succ]
      refine walk_nil ?_
      clear HF
      have hm := HM.out
      go_wp2
      exact ⟨⟨k + 1, by omega, by go_num, S6⟩, by simp [intOf]; omega⟩
    · go_wp2
      go_ret
      exact ⟨rfl, S.below⟩

theorem same_words_c (ws : List AWord) (v1 v2 : Value) (w : World) (h1 : rd w 4 v1 ws.length (flatW ws)) (h2 : rd w 4 v2 ws.length (flatW ws)) (hm : ws.length ≤ maxLen) :
    Calls Try.prog 37 #[v1, v2] w fun e w' => e = .returned (.bool true) ∧ Below w.heap.size w w' := by
  have H := Lib.hid (same_c ⟨0, 0, ws⟩ v1 v2 w h1 h2 hm)
  obtain ⟨a1, cap1, rfl⟩ := rd_form h1
  obtain ⟨a2, cap2, rfl⟩ := rd_form h2
  clear h1 h2 hm
  unfold cv at H
  go_enter Try.func37, Try.ntmps37
  go_wp2_with (go_at_call 26; refine H.out.mono ?_; rintro e w' ⟨rfl, hb⟩)
  go_ret
  exact ⟨rfl, hb⟩

end Go.Proofs.Ytciciaikajdenaa
