/- T2: the document's heap, natively: a row and two owned arrays; Wrong, Live, Copied, New. -/
import Derived.Test.YtciciaikajdenaaTPR12T1x2
set_option linter.unusedSimpArgs false
set_option linter.unusedVariables false
namespace Go.Proofs.Ytciciaikajdenaa
open Go.RowKit

structure RQ where
  p : Nat
  s : Nat
  g : Nat
structure RQ.Ok (q : RQ) : Prop where
  ps : q.p ≠ q.s
  pg : q.p ≠ q.g
  sg : q.s ≠ q.g
def slotD (s : ASlot) : List DV := [.v (.int .u8 s.c.k), .v (.int .i64 s.c.n), .lst 4 (wordsR s.c.ws), .v (.int .i64 s.gen), .v (.bool s.lives)]
def slotsR (l : List ASlot) : List (List DV) := l.map slotD
def goneR (l : List Nat) : List (List DV) := l.map fun (i : Nat) => [DV.v (.int .i64 (i : Int))]
theorem slotsR_len (l : List ASlot) : (slotsR l).length = l.length := by simp [slotsR]
theorem goneR_len (l : List Nat) : (goneR l).length = l.length := by simp [goneR]
theorem slotsR_get {l : List ASlot} {j : Nat} {p : ASlot} (h : l[j]? = some p) : (slotsR l)[j]? = some (slotD p) := row_map h
def rRow (q : RQ) (vs vg : Nat) (H : AHeap) : AObj := .row 54 [.d (.v (.int .i64 H.room)), .own q.s vs 5 0 H.slots.length, .own q.g vg 1 0 H.free.length, .d (.v (.int .i64 H.most))]
/-- The document's heap, in memory. -/
structure RHeap (σ : List AObj) (q : RQ) (H : AHeap) : Prop where
  ok : q.Ok
  at' : ∃ (vs vg : Nat) (gr : List (List DV)), σ[q.p]? = some (rRow q vs vg H) ∧ σ[q.s]? = some (.arr 114 5 vs (slotsR H.slots)) ∧ σ[q.g]? = some (.arr 3 1 vg gr) ∧ gr.take H.free.length = goneR H.free ∧ H.free.length ≤ gr.length
def NotQ (q : RQ) (k : Nat) : Prop := k ≠ q.p ∧ k ≠ q.s ∧ k ≠ q.g
theorem RHeap.keepP {σ σ' : List AObj} {q : RQ} {H : AHeap} {p : Nat → Prop} (h : RHeap σ q H) (k : KeptP p σ σ') (h1 : p q.p) (h2 : p q.s) (h3 : p q.g) : RHeap σ' q H := by
  obtain ⟨vs, vg, gr, a, b, c, d⟩ := h.at'
  exact ⟨h.ok, vs, vg, gr, k _ _ h1 a, k _ _ h2 b, k _ _ h3 c, d⟩
theorem RHeap.keep {σ σ' : List AObj} {q : RQ} {H : AHeap} (h : RHeap σ q H) (k : KeptP (fun _ => True) σ σ') : RHeap σ' q H := h.keepP k trivial trivial trivial
section
variable {σ : List AObj} {q : RQ} {H : AHeap}
set_option maxRecDepth 100000 in
set_option maxHeartbeats 8000000 in
theorem wrong_q (h : RHeap σ q H) (hl : H.slots.length ≤ 1000000) (w : AWord) : Runs Try.prog 78 [.ptr q.p 0 0, .d (.agg (wordD w))] σ (fun r σ' => r = .d (.v (.int .i64 (H.find w).1)) ∧ σ' = σ) := by
  obtain ⟨vs, vg, gr, hP, hS, hG, hgr, hgl⟩ := h.at'
  have e1 := slotsR_len H.slots
  unfold rRow at hP
  obtain ⟨wk, wn, ws, wg⟩ := w
  have w73 : RunsP Try.prog 73 [.agg [DV.v (.int .u8 wk), DV.v (.int .i64 wn), DV.v (.string ws), DV.v (.int .i64 wg)]] (fun v => v = .v (.bool (AWord.ok ⟨wk, wn, ws, wg⟩))) := word73 ⟨wk, wn, ws, wg⟩
  show Runs Try.prog 78 [.ptr q.p 0 0, .d (.agg [DV.v (.int .u8 wk), DV.v (.int .i64 wn), DV.v (.string ws), DV.v (.int .i64 wg)])] σ _
  by_cases h5 : wk = 5
  · subst h5
    cases hok : AWord.ok ⟨5, wn, ws, wg⟩ with
    | false =>
      rw [hok] at w73
      have hf : (H.find ⟨5, wn, ws, wg⟩).1 = 2 := by unfold AHeap.find; rw [if_pos (.inr hok)]
      rw [hf]
      clear hf
      refine enterB 45 tab_ok Try.func78 rfl (by kernel_rfl) rfl rfl rfl ?_
      repeat' (first | refine s_op rfl ?_ | (apply s_move; (iterate 4 (exact rfl))) | (apply s_fa_f tab_ok; (iterate 6 (exact rfl))) | (apply s_ld_f tab_ok; (iterate 6 (exact rfl))) | (apply s_assign; (iterate 4 (exact rfl))) | (apply s_pick_f; (iterate 5 (exact rfl))) | (apply s_boxZ; (iterate 5 (exact rfl)); first | exact rfl | exact allD_mapd _) | (apply s_not_f; (iterate 4 (exact rfl))) | (apply s_neq_f; (iterate 5 (exact rfl)); omega) | (apply s_call; (iterate 6 (exact rfl)); first | (exact w73; rintro _ rfl)) | refine al_nil ?_ | refine q_then_n ?_ | refine q_then_r ?_ | refine aw_seq ?_ | refine aw_reg ?_ | refine aw_true rfl ?_ | refine aw_ret ?_)
      all_goals exact q_retB (resB_1 rfl (resV_t rfl)) ⟨rfl, rfl⟩
    | true =>
      rw [hok] at w73
      have hn : 0 ≤ wn := by
        unfold AWord.ok at hok
        simp at hok
        exact hok.1.1
      obtain ⟨j, rfl⟩ : ∃ j : Nat, wn = (j : Int) := ⟨wn.toNat, by omega⟩
      by_cases hlt : H.slots.length ≤ j
      · have hf : (H.find ⟨5, (j : Int), ws, wg⟩).1 = 4 := by
          unfold AHeap.find
          rw [if_neg (by rw [hok]; simp), if_pos (by show (H.slots.length : Int) ≤ (j : Int); omega)]
        rw [hf]
        clear hf hok
        refine enterB 45 tab_ok Try.func78 rfl (by kernel_rfl) rfl rfl rfl ?_
        repeat' (first | refine s_op rfl ?_ | (apply s_move; (iterate 4 (exact rfl))) | (apply s_fa_p tab_ok; (iterate 5 (exact rfl))) | (apply s_fa_f tab_ok; (iterate 6 (exact rfl))) | (apply s_ld_f tab_ok; (iterate 6 (exact rfl))) | (apply s_assign; (iterate 4 (exact rfl))) | (apply s_pick_f; (iterate 5 (exact rfl))) | (apply s_len tab_ok; (iterate 5 (exact rfl))) | (apply s_nilc; (iterate 5 (exact rfl))) | (apply s_boxZ; (iterate 5 (exact rfl)); first | exact rfl | exact allD_mapd _) | (apply s_not_t; (iterate 4 (exact rfl))) | (apply s_neq_f; (iterate 5 (exact rfl)); omega) | (apply s_geq_t; (iterate 5 (exact rfl)); omega) | (apply s_ldF tab_ok; (iterate 5 (exact rfl)); exact hP; exact rfl) | (apply s_call; (iterate 6 (exact rfl)); first | (exact w73; rintro _ rfl)) | refine al_nil ?_ | refine q_then_n ?_ | refine q_then_r ?_ | refine aw_seq ?_ | refine aw_reg ?_ | refine aw_true rfl ?_ | refine aw_false rfl ?_ | refine aw_skip ?_ | refine aw_ret ?_ | refine aw_draws (id := 3) (trO [0, 1, 2, 3, 4, 5, 6, 7] .nil) [] [] mixed_ok (by kernel_rfl) ?_)
        all_goals exact q_retB (resB_1 rfl (resV_t rfl)) ⟨rfl, rfl⟩
      · obtain ⟨s, hs⟩ := getS (show j < H.slots.length by omega)
        have hr := slotsR_get hs
        have hf : (H.find ⟨5, (j : Int), ws, wg⟩).1 = if s.lives = true ∧ s.gen = wg then 0 else 230 := by
          unfold AHeap.find
          rw [if_neg (by rw [hok]; simp), if_neg (by show ¬ (H.slots.length : Int) ≤ (j : Int); omega)]
          simp only [Int.toNat_natCast, hs]
          split <;> rfl
        rw [hf]
        clear hf hok hs
        obtain ⟨⟨ck, cn, cw⟩, sg, sl⟩ := s
        replace hr : (slotsR H.slots)[j]? = some [DV.v (.int .u8 ck), DV.v (.int .i64 cn), DV.lst 4 (wordsR cw), DV.v (.int .i64 sg), DV.v (.bool sl)] := hr
        cases sl with
        | false =>
          rw [if_neg (by simp)]
          refine enterB 45 tab_ok Try.func78 rfl (by kernel_rfl) rfl rfl rfl ?_
          repeat' (first | refine s_op rfl ?_ | (apply s_skipV; (iterate 2 (exact rfl))) | (apply s_move; (iterate 4 (exact rfl))) | (apply s_fa_p tab_ok; (iterate 5 (exact rfl))) | (apply s_fa_f tab_ok; (iterate 6 (exact rfl))) | (apply s_ld_f tab_ok; (iterate 6 (exact rfl))) | (apply s_assign; (iterate 4 (exact rfl))) | (apply s_pick_t; (iterate 5 (exact rfl))) | (apply s_pick_f; (iterate 5 (exact rfl))) | (apply s_len tab_ok; (iterate 5 (exact rfl))) | (apply s_nilc; (iterate 5 (exact rfl))) | (apply s_boxZ; (iterate 5 (exact rfl)); first | exact rfl | exact allD_mapd _) | (apply s_not_t; (iterate 4 (exact rfl))) | (apply s_not_f; (iterate 4 (exact rfl))) | (apply s_neq_f; (iterate 5 (exact rfl)); omega) | (apply s_geq_f; (iterate 5 (exact rfl)); omega) | (apply s_ldF tab_ok; (iterate 5 (exact rfl)); exact hP; exact rfl) | (apply s_idxO (j * 5) tab_ok; (iterate 7 (exact rfl)); exact hS; exact ⟨by omega, by omega⟩) | (apply s_ldA j 4 tab_ok; (iterate 5 (exact rfl)); exact hS; exact hr; omega; exact rfl) | (apply s_call; (iterate 6 (exact rfl)); first | (exact w73; rintro _ rfl)) | refine al_nil ?_ | refine q_then_n ?_ | refine q_then_r ?_ | refine aw_seq ?_ | refine aw_reg ?_ | refine aw_true rfl ?_ | refine aw_false rfl ?_ | refine aw_skip ?_ | refine aw_ret ?_ | refine aw_draws (id := 3) (trO [0, 1, 2, 3, 4, 5, 6, 7] .nil) [] [] mixed_ok (by kernel_rfl) ?_ | refine aw_draws (id := 5) (trO [0, 1, 2, 3, 4, 5, 6, 7, 8, 9, 10, 11, 12, 13, 14, 15, 16, 17, 18, 19, 20, 21, 22, 23] .nil) [] [] mixed_ok (by kernel_rfl) ?_)
          all_goals exact q_retB (resB_1 rfl (resV_t rfl)) ⟨rfl, rfl⟩
        | true =>
          by_cases hg : sg = wg
          · rw [if_pos ⟨rfl, hg⟩]
            refine enterB 45 tab_ok Try.func78 rfl (by kernel_rfl) rfl rfl rfl ?_
            repeat' (first | refine s_op rfl ?_ | (apply s_move; (iterate 4 (exact rfl))) | (apply s_fa_p tab_ok; (iterate 5 (exact rfl))) | (apply s_fa_f tab_ok; (iterate 6 (exact rfl))) | (apply s_ld_f tab_ok; (iterate 6 (exact rfl))) | (apply s_assign; (iterate 4 (exact rfl))) | (apply s_pick_f; (iterate 5 (exact rfl))) | (apply s_len tab_ok; (iterate 5 (exact rfl))) | (apply s_nilc; (iterate 5 (exact rfl))) | (apply s_boxZ; (iterate 5 (exact rfl)); first | exact rfl | exact allD_mapd _) | (apply s_not_t; (iterate 4 (exact rfl))) | (apply s_neq_f; (iterate 5 (exact rfl)); omega) | (apply s_geq_f; (iterate 5 (exact rfl)); omega) | (apply s_ldF tab_ok; (iterate 5 (exact rfl)); exact hP; exact rfl) | (apply s_idxO (j * 5) tab_ok; (iterate 7 (exact rfl)); exact hS; exact ⟨by omega, by omega⟩) | (apply s_ldA j 4 tab_ok; (iterate 5 (exact rfl)); exact hS; exact hr; omega; exact rfl) | (apply s_ldA j 3 tab_ok; (iterate 5 (exact rfl)); exact hS; exact hr; omega; exact rfl) | (apply s_call; (iterate 6 (exact rfl)); first | (exact w73; rintro _ rfl)) | refine al_nil ?_ | refine q_then_n ?_ | refine aw_seq ?_ | refine aw_reg ?_ | refine aw_false rfl ?_ | refine aw_skip ?_ | refine aw_ret ?_ | refine aw_draws (id := 3) (trO [0, 1, 2, 3, 4, 5, 6, 7] .nil) [] [] mixed_ok (by kernel_rfl) ?_ | refine aw_draws (id := 5) (trO [0, 1, 2, 3, 4, 5, 6, 7, 8, 9, 10, 11, 12, 13, 14, 15, 16, 17, 18, 19, 20, 21, 22, 23] .nil) [] [] mixed_ok (by kernel_rfl) ?_)
            all_goals exact q_retB (resB_1 rfl (resV_t rfl)) ⟨rfl, rfl⟩
          · rw [if_neg (fun h => hg h.2)]
            refine enterB 45 tab_ok Try.func78 rfl (by kernel_rfl) rfl rfl rfl ?_
            repeat' (first | refine s_op rfl ?_ | (apply s_move; (iterate 4 (exact rfl))) | (apply s_fa_p tab_ok; (iterate 5 (exact rfl))) | (apply s_fa_f tab_ok; (iterate 6 (exact rfl))) | (apply s_ld_f tab_ok; (iterate 6 (exact rfl))) | (apply s_assign; (iterate 4 (exact rfl))) | (apply s_pick_f; (iterate 5 (exact rfl))) | (apply s_len tab_ok; (iterate 5 (exact rfl))) | (apply s_nilc; (iterate 5 (exact rfl))) | (apply s_boxZ; (iterate 5 (exact rfl)); first | exact rfl | exact allD_mapd _) | (apply s_not_t; (iterate 4 (exact rfl))) | (apply s_neq_t; (iterate 5 (exact rfl)); omega) | (apply s_neq_f; (iterate 5 (exact rfl)); omega) | (apply s_geq_f; (iterate 5 (exact rfl)); omega) | (apply s_ldF tab_ok; (iterate 5 (exact rfl)); exact hP; exact rfl) | (apply s_idxO (j * 5) tab_ok; (iterate 7 (exact rfl)); exact hS; exact ⟨by omega, by omega⟩) | (apply s_ldA j 4 tab_ok; (iterate 5 (exact rfl)); exact hS; exact hr; omega; exact rfl) | (apply s_ldA j 3 tab_ok; (iterate 5 (exact rfl)); exact hS; exact hr; omega; exact rfl) | (apply s_call; (iterate 6 (exact rfl)); first | (exact w73; rintro _ rfl)) | refine al_nil ?_ | refine q_then_n ?_ | refine q_then_r ?_ | refine aw_seq ?_ | refine aw_reg ?_ | refine aw_true rfl ?_ | refine aw_false rfl ?_ | refine aw_skip ?_ | refine aw_ret ?_ | refine aw_draws (id := 3) (trO [0, 1, 2, 3, 4, 5, 6, 7] .nil) [] [] mixed_ok (by kernel_rfl) ?_ | refine aw_draws (id := 5) (trO [0, 1, 2, 3, 4, 5, 6, 7, 8, 9, 10, 11, 12, 13, 14, 15, 16, 17, 18, 19, 20, 21, 22, 23] .nil) [] [] mixed_ok (by kernel_rfl) ?_)
            all_goals exact q_retB (resB_1 rfl (resV_t rfl)) ⟨rfl, rfl⟩
  · have hf : (H.find ⟨wk, wn, ws, wg⟩).1 = 2 := by unfold AHeap.find; rw [if_pos (.inl h5)]
    rw [hf]
    clear hf w73
    refine enterB 45 tab_ok Try.func78 rfl (by kernel_rfl) rfl rfl rfl ?_
    repeat' (first | refine s_op rfl ?_ | (apply s_skipV; (iterate 2 (exact rfl))) | (apply s_move; (iterate 4 (exact rfl))) | (apply s_fa_f tab_ok; (iterate 6 (exact rfl))) | (apply s_ld_f tab_ok; (iterate 6 (exact rfl))) | (apply s_assign; (iterate 4 (exact rfl))) | (apply s_pick_t; (iterate 5 (exact rfl))) | (apply s_boxZ; (iterate 5 (exact rfl)); first | exact rfl | exact allD_mapd _) | (apply s_neq_t; (iterate 5 (exact rfl)); omega) | refine al_nil ?_ | refine q_then_n ?_ | refine q_then_r ?_ | refine aw_seq ?_ | refine aw_reg ?_ | refine aw_true rfl ?_ | refine aw_ret ?_)
    all_goals exact q_retB (resB_1 rfl (resV_t rfl)) ⟨rfl, rfl⟩
theorem countLive_take {l : List ASlot} {k : Nat} {s : ASlot} (h : l[k]? = some s) : countLive (l.take (k + 1)) = countLive (l.take k) + (if s.lives then 1 else 0) := by
  unfold countLive
  rw [List.take_add_one, h, List.filter_append, List.length_append]
  cases hl : s.lives <;> simp [hl]
set_option maxRecDepth 100000 in
set_option maxHeartbeats 8000000 in
theorem live_q (h : RHeap σ q H) (hl : H.slots.length ≤ 1000000) : Runs Try.prog 34 [.ptr q.p 0 0] σ (fun r σ' => r = .d (.v (.int .i64 (countLive H.slots))) ∧ σ' = σ) := by
  obtain ⟨vs, vg, gr, hP, hS, hG, hgr, hgl⟩ := h.at'
  have e1 := slotsR_len H.slots
  unfold rRow at hP
  refine enterB 25 tab_ok Try.func34 rfl (by kernel_rfl) rfl rfl rfl ?_
  repeat' (first | refine s_op rfl ?_ | (apply s_assign; (iterate 4 (exact rfl))) | refine al_nil ?_ | refine q_then_n ?_ | refine aw_block ?_ | refine aw_seq ?_ | refine aw_reg ?_)
  refine w_loop [0, 3, 4] (fun n' vs' σ' => ∃ j : Nat, vs' = [.ptr q.p 0 0, .d (.v (.int .i64 (countLive (H.slots.take j) : Int))), .d (.v (.int .i64 (j : Int)))] ∧ σ' = σ ∧ j ≤ H.slots.length ∧ n' = H.slots.length - j) rfl ⟨0, rfl, rfl, by omega, rfl⟩ ?_
  rintro n' vs' σ' ⟨j, rfl, rfl, hj, rfl⟩ fr hfr
  cases hfr
  by_cases hlt : j < H.slots.length
  · obtain ⟨s, hs⟩ := getS hlt
    have hr := slotsR_get hs
    have ht := countLive_take hs
    have hle := countLive_le (H.slots.take j)
    have hle2 : (H.slots.take j).length ≤ j := by rw [List.length_take]; omega
    obtain ⟨⟨ck, cn, cw⟩, sg, sl⟩ := s
    replace hr : (slotsR H.slots)[j]? = some [DV.v (.int .u8 ck), DV.v (.int .i64 cn), DV.lst 4 (wordsR cw), DV.v (.int .i64 sg), DV.v (.bool sl)] := hr
    cases sl with
    | false =>
      repeat' (first | refine s_op rfl ?_ | (apply s_move; (iterate 4 (exact rfl))) | (apply s_fa_p tab_ok; (iterate 5 (exact rfl))) | (apply s_assign; (iterate 4 (exact rfl))) | (apply s_len tab_ok; (iterate 5 (exact rfl))) | (apply s_nilc; (iterate 5 (exact rfl))) | (apply s_lss_t; (iterate 5 (exact rfl)); omega) | (apply s_add64; (iterate 5 (exact rfl)); omega) | (apply s_ldF tab_ok; (iterate 5 (exact rfl)); exact hP; exact rfl) | (apply s_idxO (j * 5) tab_ok; (iterate 7 (exact rfl)); exact hS; exact ⟨by omega, by omega⟩) | (apply s_ldA j 4 tab_ok; (iterate 5 (exact rfl)); exact hS; exact hr; omega; exact rfl) | refine al_nil ?_ | refine q_then_n ?_ | refine q_blk_n ?_ | refine aw_block ?_ | refine aw_seq ?_ | refine aw_reg ?_ | refine aw_true rfl ?_ | refine aw_false rfl ?_ | refine aw_skip ?_)
      all_goals exact ⟨_, _, rfl, by omega, j + 1, by (rw [ht]; rfl), rfl, by omega, rfl⟩
    | true =>
      repeat' (first | refine s_op rfl ?_ | (apply s_move; (iterate 4 (exact rfl))) | (apply s_fa_p tab_ok; (iterate 5 (exact rfl))) | (apply s_assign; (iterate 4 (exact rfl))) | (apply s_len tab_ok; (iterate 5 (exact rfl))) | (apply s_nilc; (iterate 5 (exact rfl))) | (apply s_lss_t; (iterate 5 (exact rfl)); omega) | (apply s_add64; (iterate 5 (exact rfl)); omega) | (apply s_ldF tab_ok; (iterate 5 (exact rfl)); exact hP; exact rfl) | (apply s_idxO (j * 5) tab_ok; (iterate 7 (exact rfl)); exact hS; exact ⟨by omega, by omega⟩) | (apply s_ldA j 4 tab_ok; (iterate 5 (exact rfl)); exact hS; exact hr; omega; exact rfl) | refine al_nil ?_ | refine q_then_n ?_ | refine q_blk_n ?_ | refine aw_block ?_ | refine aw_seq ?_ | refine aw_reg ?_ | refine aw_true rfl ?_ | refine aw_skip ?_)
      all_goals exact ⟨_, _, rfl, by omega, j + 1, by (rw [ht]; rfl), rfl, by omega, rfl⟩
  · rw [show List.take j H.slots = H.slots from List.take_of_length_le (by omega)]
    repeat' (first | refine s_op rfl ?_ | (apply s_move; (iterate 4 (exact rfl))) | (apply s_fa_p tab_ok; (iterate 5 (exact rfl))) | (apply s_assign; (iterate 4 (exact rfl))) | (apply s_len tab_ok; (iterate 5 (exact rfl))) | (apply s_nilc; (iterate 5 (exact rfl))) | (apply s_lss_f; (iterate 5 (exact rfl)); omega) | (apply s_ldF tab_ok; (iterate 5 (exact rfl)); exact hP; exact rfl) | refine al_nil ?_ | refine q_then_n ?_ | refine q_blk_e ?_ | refine q_then_e ?_ | refine aw_exit ?_ | refine aw_seq ?_ | refine aw_reg ?_ | refine aw_false rfl ?_ | refine aw_ret ?_)
    all_goals exact q_retB (resB_1 rfl (resV_t rfl)) ⟨rfl, rfl⟩
end
end Go.Proofs.Ytciciaikajdenaa
/- T3: the document's heap: Copied, New, Get, Cells. -/
set_option linter.unusedSimpArgs false
set_option linter.unusedVariables false
namespace Go.Proofs.Ytciciaikajdenaa
open Go.RowKit

section
variable {σ : List AObj} {q : RQ} {H : AHeap}
set_option maxRecDepth 100000 in
set_option maxHeartbeats 8000000 in
theorem copied_q (c : ACell) (hc : c.ws.length ≤ 1000000) : RunsP Try.prog 75 [.agg (cellD c)] (fun v => v = .agg (cellD c)) := by
  obtain ⟨ck, cn, cw⟩ := c
  replace hc : cw.length ≤ 1000000 := hc
  have e1 := wordsR_len cw
  show RunsP Try.prog 75 [.agg [DV.v (.int .u8 ck), DV.v (.int .i64 cn), DV.lst 4 (wordsR cw)]] (fun v => v = .agg [DV.v (.int .u8 ck), DV.v (.int .i64 cn), DV.lst 4 (wordsR cw)])
  refine enterPB 9 tab_ok Try.func75 rfl (by kernel_rfl) rfl rfl rfl ?_
  repeat' (first | refine s_op rfl ?_ | (apply s_fa_p tab_ok; (iterate 5 (exact rfl))) | (apply s_boxF; (iterate 6 (exact rfl)); intro locC σ hc; have hC := hc.at'; clear hc) | (apply s_allocF tabZ_ok (d := 2); (iterate 6 (exact rfl)); intro locX σ hc; have hX := hc.at'; have nCX := hc.ne hC; replace hC := hc.keep hC; clear hc) | (apply s_lit0 tab_ok tabZ_ok; (iterate 7 (exact rfl))) | (refine o_adoptF 3 36 4 rfl ?_; intro locA σ hc; have hA := hc.at'; have nCA := hc.ne hC; replace hC := hc.keep hC; have nXA := hc.ne hX; replace hX := hc.keep hX; clear hc) | (apply s_ldF tab_ok; (iterate 5 (exact rfl)); exact hC; exact rfl) | (apply s_appF tab_ok tabZ_ok (d := 6) (rows2 := wordsR cw) (rows3 := wordsR cw) (m := cw.length); (iterate 10 (exact rfl)); exact hA; exact src_of (Tab.slIs tab_ok (t := 32) rfl) (rows_d rfl); exact List.nil_append _; exact ⟨rfl, by omega, by omega⟩; intro σ hc; replace hA := hc.at'; replace hC := hc.keep (by first | assumption | (apply Ne.symm; assumption) | omega) hC; replace hX := hc.keep (by first | assumption | (apply Ne.symm; assumption) | omega) hX; clear hc) | (refine o_freezeF 6 rfl hA (by omega) ?_; intro σ hc; replace hC := hc.keep (by first | assumption | (apply Ne.symm; assumption) | omega) hC; replace hX := hc.keep (by first | assumption | (apply Ne.symm; assumption) | omega) hX; clear hc hA) | (apply s_storeF tab_ok; (iterate 7 (exact rfl)); exact hC; (iterate 2 (exact rfl)); intro σ hc; replace hC := hc.at'; replace hX := hc.keep (by first | assumption | (apply Ne.symm; assumption) | omega) hX; clear hc) | (apply s_storeF tab_ok; (iterate 7 (exact rfl)); exact hX; (iterate 2 (exact rfl)); intro σ hc; replace hX := hc.at'; replace hC := hc.keep (by first | assumption | (apply Ne.symm; assumption) | omega) hC; clear hc) | refine al_nil ?_ | refine q_then_n ?_ | refine aw_seq ?_ | refine aw_reg ?_ | refine aw_ret ?_)
  all_goals exact q_retB (resB_1 rfl (resV_c (t := 34) rfl rfl hX rfl)) ⟨_, rfl, rfl⟩
end
end Go.Proofs.Ytciciaikajdenaa
/- T4: the document's heap: New, Get, Cells. -/
set_option linter.unusedSimpArgs false
set_option linter.unusedVariables false
namespace Go.Proofs.Ytciciaikajdenaa
open Go.RowKit

section
variable {σ : List AObj} {q : RQ} {H : AHeap}
set_option maxRecDepth 100000 in
set_option maxHeartbeats 8000000 in
theorem new_q {r : Int} (h0 : 0 ≤ r) (h1 : r ≤ 100000) : Runs Try.prog 16 [.d (.v (.int .i64 r))] σ (fun v σ' => ∃ q : RQ, v = .tup [.ptr q.p 0 0, .d (.v (.int .i64 0))] ∧ RHeap σ' q (.new r) ∧ KeptP (fun _ => True) σ σ' ∧ OutP (fun _ => True) σ q.p ∧ OutP (fun _ => True) σ q.s ∧ OutP (fun _ => True) σ q.g) := by
  have hK := KeptP.refl (fun _ => True) σ
  refine enterB 13 tab_ok Try.func16 rfl (by kernel_rfl) rfl rfl rfl ?_
  repeat' (first | refine s_op rfl ?_ | (apply s_move; (iterate 4 (exact rfl))) | (apply s_assign; (iterate 4 (exact rfl))) | (apply s_pick_f; (iterate 5 (exact rfl))) | (apply s_build tabZ_ok; (iterate 5 (exact rfl))) | (apply s_lss_f; (iterate 5 (exact rfl)); omega) | (apply s_gtr_f; (iterate 5 (exact rfl)); omega) | (apply s_boxF; (iterate 6 (exact rfl)); intro locP σ hc; have hP := hc.at'; have oP := hK.out hc; replace hK := hK.fresh hc; clear hc) | (refine w_adoptC locP 1 114 5 hP rfl ?_; intro locS σ hc; have key := hK.adopt (t := 54) oP hc; have hS := hc.arr; have nPS := hc.ne.symm; replace hP := hc.row; obtain ⟨hK, oS⟩ := key; clear hc; refine w_adoptC locP 2 3 1 hP rfl ?_; intro locG σ hc; have key := hK.adopt (t := 54) oP hc; have hG := hc.arr; have nPG := hc.ne.symm; have nSG := hc.fresh _ _ hS; replace hS := hc.keep nPS.symm hS; replace hP := hc.row; obtain ⟨hK, oG⟩ := key; clear hc) | refine al_nil ?_ | refine q_then_n ?_ | refine aw_seq ?_ | refine aw_reg ?_ | refine aw_false rfl ?_ | refine aw_skip ?_ | refine aw_ret ?_)
  all_goals exact q_retB (resB_2 rfl (resV_t rfl) (resV_t rfl) rfl) ⟨⟨locP, locS, locG⟩, rfl, ⟨⟨nPS, nPG, nSG⟩, 0, 0, [], hP, hS, hG, rfl, by simp [AHeap.new]⟩, hK, oP, oS, oG⟩
set_option maxRecDepth 100000 in
theorem new_qn {r : Int} (h : r < 0 ∨ 100000 < r) : Runs Try.prog 16 [.d (.v (.int .i64 r))] σ (fun v σ' => v = .d (.tup [.v (.pointer none), .v (.int .i64 2)]) ∧ σ' = σ) := by
  rcases h with h | h
  all_goals
    refine enterB 13 tab_ok Try.func16 rfl (by kernel_rfl) rfl rfl rfl ?_
    repeat' (first | refine s_op rfl ?_ | (apply s_skipV; (iterate 2 (exact rfl))) | (apply s_move; (iterate 4 (exact rfl))) | (apply s_assign; (iterate 4 (exact rfl))) | (apply s_pick_t; (iterate 5 (exact rfl))) | (apply s_pick_f; (iterate 5 (exact rfl))) | (apply s_lss_t; (iterate 5 (exact rfl)); omega) | (apply s_lss_f; (iterate 5 (exact rfl)); omega) | (apply s_gtr_t; (iterate 5 (exact rfl)); omega) | refine al_nil ?_ | refine q_then_n ?_ | refine q_then_r ?_ | refine aw_seq ?_ | refine aw_reg ?_ | refine aw_true rfl ?_ | refine aw_ret ?_)
    all_goals exact q_retB (resB_2 rfl (resV_t rfl) (resV_t rfl) rfl) ⟨rfl, rfl⟩
set_option maxRecDepth 100000 in
set_option maxHeartbeats 8000000 in
theorem get_q (h : RHeap σ q H) (hl : H.slots.length ≤ 1000000) (hw : ∀ s ∈ H.slots, s.c.ws.length ≤ 64) (w : AWord) : Runs Try.prog 23 [.ptr q.p 0 0, .d (.agg (wordD w))] σ (fun r σ' => r = .d (.tup [.agg (cellD (H.get w).1), .v (.int .i64 (H.get w).2)]) ∧ KeptP (fun _ => True) σ σ') := by
  have hwr := fun (σ : List AObj) (h : RHeap σ q H) => wrong_q h hl w
  have hK := KeptP.refl (fun _ => True) σ
  obtain ⟨vs, vg, gr, hP, hS, hG, hgr, hgl⟩ := h.at'
  have e1 := slotsR_len H.slots
  unfold rRow at hP
  by_cases hf : (H.find w).1 = 0
  · obtain ⟨z1, z2, z3, z4, z5, z6, z7⟩ := AHeap.find_zero hf
    have hget : H.get w = ((H.slot (H.find w).2).c, 0) := by unfold AHeap.get; rw [if_pos hf]
    rw [hget]
    rw [hf] at hwr
    have hs := AHeap.slot_get z5
    have hcw := hw _ (AHeap.slot_mem z5)
    have hr := slotsR_get hs
    generalize (H.find w).2 = j at *
    generalize H.slot j = s at *
    obtain ⟨c, sg, sl⟩ := s
    have hcp := copied_q c (by have : c.ws.length ≤ 64 := hcw; omega)
    obtain ⟨ck, cn, cw⟩ := c
    obtain ⟨wk, wn, ws, wg⟩ := w
    replace z4 : wn = (j : Int) := z4
    subst z4
    clear hf z1 z2 z3 z6 z7 hget hs hw hcw
    replace hr : (slotsR H.slots)[j]? = some [DV.v (.int .u8 ck), DV.v (.int .i64 cn), DV.lst 4 (wordsR cw), DV.v (.int .i64 sg), DV.v (.bool sl)] := hr
    show Runs Try.prog 23 [.ptr q.p 0 0, .d (.agg [DV.v (.int .u8 wk), DV.v (.int .i64 (j : Int)), DV.v (.string ws), DV.v (.int .i64 wg)])] σ _
    refine enterB 24 tab_ok Try.func23 rfl (by kernel_rfl) rfl rfl rfl ?_
    repeat' (first | refine s_op rfl ?_ | (apply s_move; (iterate 4 (exact rfl))) | (apply s_fa_p tab_ok; (iterate 5 (exact rfl))) | (apply s_fa_f tab_ok; (iterate 6 (exact rfl))) | (apply s_ld_f tab_ok; (iterate 6 (exact rfl))) | (apply s_assign; (iterate 4 (exact rfl))) | (apply s_nilc; (iterate 5 (exact rfl))) | (apply s_boxZ; (iterate 5 (exact rfl)); first | exact rfl | exact allD_mapd _) | (apply s_neq_f; (iterate 5 (exact rfl)); omega) | (apply s_allocF tabZ_ok (d := 4); (iterate 6 (exact rfl)); intro locX σ hc; have hX := hc.at'; have nPX := hc.ne hP; replace hP := hc.keep hP; replace hS := hc.keep hS; replace h := h.keep (KeptP.fresh (KeptP.refl _ _) hc); have oX := hK.out hc; replace hK := hK.fresh hc; clear hc) | (apply s_callS; (iterate 6 (exact rfl)); exact hwr _ h; rintro _ σ2 ⟨rfl, rfl⟩) | (apply s_ldF tab_ok; (iterate 5 (exact rfl)); exact hP; exact rfl) | (apply s_idxO (j * 5) tab_ok; (iterate 7 (exact rfl)); exact hS; exact ⟨by omega, by omega⟩) | (apply s_ldA j 0 tab_ok; (iterate 5 (exact rfl)); exact hS; exact hr; omega; exact rfl) | (apply s_storeF tab_ok; (iterate 7 (exact rfl)); exact hX; (iterate 2 (exact rfl)); intro σ hc; replace hX := hc.at'; replace hK := hK.chg oX hc; clear hc) | (apply s_call; (iterate 6 (exact rfl)); first | (exact hcp; rintro _ rfl)) | refine al_nil ?_ | refine q_then_n ?_ | refine aw_seq ?_ | refine aw_reg ?_ | refine aw_false rfl ?_ | refine aw_skip ?_ | refine aw_ret ?_ | refine aw_draws (id := 4) (trO [0, 1, 2, 3, 4, 5, 6, 7, 8, 9, 10, 11] .nil) [9, 10] [10] mixed_ok (by kernel_rfl) ?_)
    all_goals exact q_retB (resB_2 rfl (resV_c (t := 34) rfl rfl hX rfl) (resV_t rfl) rfl) ⟨rfl, hK⟩
  · have hget : H.get w = (.zero, (H.find w).1) := by unfold AHeap.get; rw [if_neg hf]
    rw [hget]
    generalize (H.find w).1 = e at *
    clear hget
    refine Runs.weakR ?_
    obtain ⟨wk, wn, ws, wg⟩ := w
    show Runs Try.prog 23 [.ptr q.p 0 0, .d (.agg [DV.v (.int .u8 wk), DV.v (.int .i64 wn), DV.v (.string ws), DV.v (.int .i64 wg)])] σ _
    refine enterB 24 tab_ok Try.func23 rfl (by kernel_rfl) rfl rfl rfl ?_
    repeat' (first | refine s_op rfl ?_ | (apply s_move; (iterate 4 (exact rfl))) | (apply s_ld_f tab_ok; (iterate 6 (exact rfl))) | (apply s_assign; (iterate 4 (exact rfl))) | (apply s_build tabZ_ok; (iterate 5 (exact rfl))) | (apply s_boxZ; (iterate 5 (exact rfl)); first | exact rfl | exact allD_mapd _) | (apply s_neq_t; (iterate 5 (exact rfl)); omega) | (apply s_allocF tabZ_ok (d := 4); (iterate 6 (exact rfl)); intro locX σ hc; have hX := hc.at'; have nPX := hc.ne hP; replace hP := hc.keep hP; replace hS := hc.keep hS; replace h := h.keep (KeptP.fresh (KeptP.refl _ _) hc); have oX := hK.out hc; replace hK := hK.fresh hc; clear hc) | (apply s_callS; (iterate 6 (exact rfl)); exact hwr _ h; rintro _ σ2 ⟨rfl, rfl⟩) | (apply s_storeF tab_ok; (iterate 7 (exact rfl)); exact hX; (iterate 2 (exact rfl)); intro σ hc; replace hX := hc.at'; replace hK := hK.chg oX hc; clear hc) | refine al_nil ?_ | refine q_then_n ?_ | refine q_then_r ?_ | refine aw_seq ?_ | refine aw_reg ?_ | refine aw_true rfl ?_ | refine aw_ret ?_)
    all_goals exact q_retB (resB_2 rfl (resV_c (t := 34) rfl rfl hX rfl) (resV_t rfl) rfl) ⟨_, rfl, Wk.tup ⟨Wk.agg ⟨Wk.refl _, Wk.refl _, Wk.nil 4, trivial⟩, Wk.refl _, trivial⟩, hK⟩
theorem wordsFrom_le (l : List ASlot) (i : Nat) : (wordsFrom i l).length ≤ l.length := by rw [wordsFrom_count]; exact countLive_le l
set_option maxRecDepth 100000 in
set_option maxHeartbeats 8000000 in
theorem cells_q {σ0 : List AObj} (h : RHeap σ0 q H) (hl : H.slots.length ≤ 1000000) : Runs Try.prog 39 [.ptr q.p 0 0] σ0 (fun r σ' => r = .d (.lst 4 (wordsR H.cells)) ∧ KeptP (fun _ => True) σ0 σ') := by
  have hK := KeptP.refl (fun _ => True) σ0
  obtain ⟨vs, vg, gr, hP, hS, hG, hgr, hgl⟩ := h.at'
  have e1 := slotsR_len H.slots
  unfold rRow at hP
  refine enterB 36 tab_ok Try.func39 rfl (by kernel_rfl) rfl rfl rfl ?_
  repeat' (first | refine s_op rfl ?_ | (apply s_assign; (iterate 4 (exact rfl))) | (refine w_adoptF 3 36 4 rfl ?_; intro locL σ hc; have hL := hc.at'; have nPL := hc.ne hP; have nSL := hc.ne hS; replace hP := hc.keep hP; replace hS := hc.keep hS; have oL := hK.out hc; replace hK := hK.fresh hc; clear hc) | refine al_nil ?_ | refine q_then_n ?_ | refine aw_block ?_ | refine aw_seq ?_ | refine aw_reg ?_)
  refine w_loop [0, 3, 4] (fun n' vs' σ' => ∃ j ver : Nat, vs' = [.ptr q.p 0 0, .own locL ver 4 0 (wordsFrom 0 (H.slots.take j)).length, .d (.v (.int .i64 (j : Int)))] ∧ σ'[q.p]? = some (.row 54 [.d (.v (.int .i64 H.room)), .own q.s vs 5 0 H.slots.length, .own q.g vg 1 0 H.free.length, .d (.v (.int .i64 H.most))]) ∧ σ'[q.s]? = some (.arr 114 5 vs (slotsR H.slots)) ∧ σ'[locL]? = some (.arr 36 4 ver (wordsR (wordsFrom 0 (H.slots.take j)))) ∧ KeptP (fun _ => True) σ0 σ' ∧ j ≤ H.slots.length ∧ n' = H.slots.length - j) rfl ⟨0, 0, rfl, hP, hS, hL, hK, by omega, rfl⟩ ?_
  clear hP hS hL hK
  rintro n' vs' σ ⟨j, ver, rfl, hP, hS, hL, hK, hj, rfl⟩ fr hfr
  cases hfr
  have e2 := wordsR_len (wordsFrom 0 (H.slots.take j))
  have e3 := wordsFrom_le (H.slots.take j) 0
  have e4 : (H.slots.take j).length ≤ j := by rw [List.length_take]; omega
  by_cases hlt : j < H.slots.length
  · obtain ⟨s, hs⟩ := getS hlt
    have hr := slotsR_get hs
    have ht := wordsFrom_take hs
    obtain ⟨⟨ck, cn, cw⟩, sg, sl⟩ := s
    replace hr : (slotsR H.slots)[j]? = some [DV.v (.int .u8 ck), DV.v (.int .i64 cn), DV.lst 4 (wordsR cw), DV.v (.int .i64 sg), DV.v (.bool sl)] := hr
    cases sl with
    | false =>
      repeat' (first | refine s_op rfl ?_ | (apply s_move; (iterate 4 (exact rfl))) | (apply s_fa_p tab_ok; (iterate 5 (exact rfl))) | (apply s_assign; (iterate 4 (exact rfl))) | (apply s_len tab_ok; (iterate 5 (exact rfl))) | (apply s_nilc; (iterate 5 (exact rfl))) | (apply s_lss_t; (iterate 5 (exact rfl)); omega) | (apply s_add64; (iterate 5 (exact rfl)); omega) | (apply s_ldF tab_ok; (iterate 5 (exact rfl)); exact hP; exact rfl) | (apply s_idxO (j * 5) tab_ok; (iterate 7 (exact rfl)); exact hS; exact ⟨by omega, by omega⟩) | (apply s_ldA j 4 tab_ok; (iterate 5 (exact rfl)); exact hS; exact hr; omega; exact rfl) | refine al_nil ?_ | refine q_then_n ?_ | refine q_blk_n ?_ | refine aw_block ?_ | refine aw_seq ?_ | refine aw_reg ?_ | refine aw_true rfl ?_ | refine aw_false rfl ?_ | refine aw_skip ?_)
      all_goals exact ⟨_, _, rfl, by omega, j + 1, ver, by (rw [ht]; simp), hP, hS, by (rw [ht]; simpa using hL), hK, by omega, rfl⟩
    | true =>
      have ew : wordsR (wordsFrom 0 (H.slots.take j)) ++ [wordD (cellWord (j : Int) sg)] = wordsR (wordsFrom 0 (H.slots.take (j + 1))) := by rw [ht, wordsR_append]; rfl
      have el : (wordsFrom 0 (H.slots.take (j + 1))).length = (wordsFrom 0 (H.slots.take j)).length + 1 := by rw [ht]; simp
      repeat' (first | refine s_op rfl ?_ | (apply s_move; (iterate 4 (exact rfl))) | (apply s_fa_p tab_ok; (iterate 5 (exact rfl))) | (apply s_assign; (iterate 4 (exact rfl))) | (apply s_len tab_ok; (iterate 5 (exact rfl))) | (apply s_nilc; (iterate 5 (exact rfl))) | (apply s_build tabZ_ok; (iterate 5 (exact rfl))) | (apply s_lit tab_ok tabZ_ok; (iterate 10 (exact rfl))) | (apply s_lss_t; (iterate 5 (exact rfl)); omega) | (apply s_add64; (iterate 5 (exact rfl)); omega) | (apply s_ldF tab_ok; (iterate 5 (exact rfl)); exact hP; exact rfl) | (apply s_idxO (j * 5) tab_ok; (iterate 7 (exact rfl)); exact hS; exact ⟨by omega, by omega⟩) | (apply s_ldA j 4 tab_ok; (iterate 5 (exact rfl)); exact hS; exact hr; omega; exact rfl) | (apply s_ldA j 3 tab_ok; (iterate 5 (exact rfl)); exact hS; exact hr; omega; exact rfl) | (apply s_appF tab_ok tabZ_ok (d := 34) (rows2 := [wordD (cellWord (j : Int) sg)]) (rows3 := wordsR (wordsFrom 0 (H.slots.take (j + 1)))) (m := (wordsFrom 0 (H.slots.take (j + 1))).length); (iterate 10 (exact rfl)); exact hL; exact src_of (Tab.slIs tab_ok (t := 32) rfl) (rows_d rfl); exact ew; (refine ⟨?_, ?_, ?_⟩ <;> first | omega | (simp only [List.length_cons, List.length_nil] <;> omega)); intro σ hc; replace hL := hc.at'; replace hP := hc.keep nPL hP; replace hS := hc.keep nSL hS; replace hK := hK.chg oL hc; clear hc) | refine al_nil ?_ | refine q_then_n ?_ | refine q_blk_n ?_ | refine aw_block ?_ | refine aw_seq ?_ | refine aw_reg ?_ | refine aw_true rfl ?_ | refine aw_skip ?_)
      all_goals exact ⟨_, _, rfl, by omega, j + 1, _, rfl, hP, hS, hL, hK, by omega, rfl⟩
  · rw [show List.take j H.slots = H.slots from List.take_of_length_le (by omega)] at hL e2 ⊢
    repeat' (first | refine s_op rfl ?_ | (apply s_move; (iterate 4 (exact rfl))) | (apply s_fa_p tab_ok; (iterate 5 (exact rfl))) | (apply s_assign; (iterate 4 (exact rfl))) | (apply s_len tab_ok; (iterate 5 (exact rfl))) | (apply s_nilc; (iterate 5 (exact rfl))) | (apply s_lss_f; (iterate 5 (exact rfl)); omega) | (apply s_ldF tab_ok; (iterate 5 (exact rfl)); exact hP; exact rfl) | (refine w_freezeF 3 rfl hL (by omega) ?_; intro σ hc; replace hP := hc.keep nPL hP; replace hK := hK.chg oL hc; clear hc hL) | refine al_nil ?_ | refine q_then_n ?_ | refine q_blk_e ?_ | refine q_then_e ?_ | refine aw_exit ?_ | refine aw_seq ?_ | refine aw_reg ?_ | refine aw_false rfl ?_ | refine aw_ret ?_)
    all_goals exact q_retB (resB_1 rfl (resV_t rfl)) ⟨rfl, hK⟩
end
end Go.Proofs.Ytciciaikajdenaa
