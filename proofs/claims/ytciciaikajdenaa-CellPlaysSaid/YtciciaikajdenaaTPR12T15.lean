/- T15: the document's Build and Copy. -/
import Derived.Test.YtciciaikajdenaaTPR12T14
set_option linter.unusedSimpArgs false
set_option linter.unusedVariables false
namespace Go.Proofs.Ytciciaikajdenaa
open Go.RowKit

set_option maxRecDepth 100000 in
set_option maxHeartbeats 8000000 in
theorem cells47_m : ∀ p : Val, massV p ≤ 1000000000 → RunsP Try.prog 47 [.agg (valD p)] (fun v => v = .v (.int .i64 (cellsV p))) := by
  refine rec_val fun vk vn vs l ih hp => ?_
  have e1 := valR_len l
  have hll := massVL_len l
  simp only [massV] at hp
  have hcl : ∀ k, cellsL (l.take k) ≤ massVL l := fun k => by
    have h1 : ∀ m : List Val, cellsL m ≤ massVL m := fun m => by
      induction m with
      | nil => simp [cellsL, massVL]
      | cons a m ih2 => have := cells_mass a; simp only [cellsL, massVL]; omega
    have h2 : massVL (l.take k) + massVL (l.drop k) = massVL l := by rw [← massVL_append, List.take_append_drop]
    have := h1 (l.take k)
    omega
  have key : ∀ c0 : Nat, c0 = (if 10 < vk then 1 else 0) → ∀ {fr : Fr}, True := fun _ _ _ => trivial
  clear key
  refine enterP 24 Try.func47 rfl (by kernel_rfl) rfl rfl rfl ?_
  by_cases hk : 10 < vk
  · repeat' (first | refine s_op rfl ?_ | (apply s_fa_f tab_ok; (iterate 6 (exact rfl))) | (apply s_ld_f tab_ok; (iterate 6 (exact rfl))) | (apply s_assign; (iterate 4 (exact rfl))) | (apply s_boxZ; (iterate 5 (exact rfl)); first | exact rfl | exact allD_mapd _) | (apply s_gtr_t; (iterate 5 (exact rfl)); omega) | refine al_nil ?_ | refine q_then_n ?_ | refine aw_block ?_ | refine aw_seq ?_ | refine aw_reg ?_ | refine aw_true rfl ?_)
    refine w_loop [1, 3, 4] (fun n' vs' σ => ∃ k : Nat, vs' = [.d (.fptr (valD (.mk vk vn vs l))), .d (.v (.int .i64 ((1 + cellsL (l.take k) : Nat) : Int))), .d (.v (.int .i64 (k : Int)))] ∧ σ = [] ∧ k ≤ l.length ∧ n' = l.length - k) rfl ⟨0, rfl, rfl, by omega, rfl⟩ ?_
    rintro n' vs' σ ⟨k, rfl, rfl, hk2, rfl⟩ fr hfr
    cases hfr
    by_cases hlt : k < l.length
    · obtain ⟨q, hq⟩ := getS hlt
      have hm := massVL_mem (List.mem_of_getElem? hq)
      have hi := ih q (List.mem_of_getElem? hq) (by omega)
      have ht := cellsL_take hq
      have := hcl (k + 1)
      repeat' (first | refine s_op rfl ?_ | (apply s_move; (iterate 4 (exact rfl))) | (apply s_fa_f tab_ok; (iterate 6 (exact rfl))) | (apply s_ld_f tab_ok; (iterate 6 (exact rfl))) | (apply s_ld_w tab_ok; (iterate 5 (exact rfl)); (first | exact valD_len _ | exact wordD_len _)) | (apply s_assign; (iterate 4 (exact rfl))) | (apply s_len tab_ok; (iterate 5 (exact rfl))) | (apply s_idx tab_ok; (iterate 7 (exact rfl)); (first | exact valR_get (by assumption) | exact wordsR_get (by assumption) | assumption)) | (apply s_lss_t; (iterate 5 (exact rfl)); omega) | (apply s_addV ((k + 1 : Nat) : Int); (iterate 5 (exact rfl)); omega) | (apply s_addV ((1 + cellsL (l.take (k + 1)) : Nat) : Int); (iterate 5 (exact rfl)); omega) | (apply s_call; (iterate 6 (exact rfl)); first | (exact hi; rintro _ rfl)) | refine al_nil ?_ | refine q_then_n ?_ | refine q_blk_n ?_ | refine aw_block ?_ | refine aw_seq ?_ | refine aw_reg ?_ | refine aw_true rfl ?_ | refine aw_skip ?_)
      exact ⟨_, _, rfl, by omega, k + 1, rfl, rfl, by omega, rfl⟩
    · rw [List.take_of_length_le (by omega)]
      repeat' (first | refine s_op rfl ?_ | (apply s_move; (iterate 4 (exact rfl))) | (apply s_fa_f tab_ok; (iterate 6 (exact rfl))) | (apply s_ld_f tab_ok; (iterate 6 (exact rfl))) | (apply s_assign; (iterate 4 (exact rfl))) | (apply s_len tab_ok; (iterate 5 (exact rfl))) | (apply s_lss_f; (iterate 5 (exact rfl)); omega) | refine al_nil ?_ | refine q_then_n ?_ | refine q_blk_e ?_ | refine q_then_e ?_ | refine aw_exit ?_ | refine aw_seq ?_ | refine aw_reg ?_ | refine aw_false rfl ?_ | refine aw_ret ?_)
      exact q_ret rfl ⟨_, rfl, by simp only [cellsV, if_pos hk]⟩
  · repeat' (first | refine s_op rfl ?_ | (apply s_fa_f tab_ok; (iterate 6 (exact rfl))) | (apply s_ld_f tab_ok; (iterate 6 (exact rfl))) | (apply s_assign; (iterate 4 (exact rfl))) | (apply s_boxZ; (iterate 5 (exact rfl)); first | exact rfl | exact allD_mapd _) | (apply s_gtr_f; (iterate 5 (exact rfl)); omega) | refine al_nil ?_ | refine q_then_n ?_ | refine aw_block ?_ | refine aw_seq ?_ | refine aw_reg ?_ | refine aw_false rfl ?_ | refine aw_skip ?_)
    refine w_loop [1, 3, 4] (fun n' vs' σ => ∃ k : Nat, vs' = [.d (.fptr (valD (.mk vk vn vs l))), .d (.v (.int .i64 ((cellsL (l.take k) : Nat) : Int))), .d (.v (.int .i64 (k : Int)))] ∧ σ = [] ∧ k ≤ l.length ∧ n' = l.length - k) rfl ⟨0, rfl, rfl, by omega, rfl⟩ ?_
    rintro n' vs' σ ⟨k, rfl, rfl, hk2, rfl⟩ fr hfr
    cases hfr
    by_cases hlt : k < l.length
    · obtain ⟨q, hq⟩ := getS hlt
      have hm := massVL_mem (List.mem_of_getElem? hq)
      have hi := ih q (List.mem_of_getElem? hq) (by omega)
      have ht := cellsL_take hq
      have := hcl (k + 1)
      repeat' (first | refine s_op rfl ?_ | (apply s_move; (iterate 4 (exact rfl))) | (apply s_fa_f tab_ok; (iterate 6 (exact rfl))) | (apply s_ld_f tab_ok; (iterate 6 (exact rfl))) | (apply s_ld_w tab_ok; (iterate 5 (exact rfl)); (first | exact valD_len _ | exact wordD_len _)) | (apply s_assign; (iterate 4 (exact rfl))) | (apply s_len tab_ok; (iterate 5 (exact rfl))) | (apply s_idx tab_ok; (iterate 7 (exact rfl)); (first | exact valR_get (by assumption) | exact wordsR_get (by assumption) | assumption)) | (apply s_lss_t; (iterate 5 (exact rfl)); omega) | (apply s_addV ((k + 1 : Nat) : Int); (iterate 5 (exact rfl)); omega) | (apply s_addV ((cellsL (l.take (k + 1)) : Nat) : Int); (iterate 5 (exact rfl)); omega) | (apply s_call; (iterate 6 (exact rfl)); first | (exact hi; rintro _ rfl)) | refine al_nil ?_ | refine q_then_n ?_ | refine q_blk_n ?_ | refine aw_block ?_ | refine aw_seq ?_ | refine aw_reg ?_ | refine aw_true rfl ?_ | refine aw_skip ?_)
      exact ⟨_, _, rfl, by omega, k + 1, rfl, rfl, by omega, rfl⟩
    · rw [List.take_of_length_le (by omega)]
      repeat' (first | refine s_op rfl ?_ | (apply s_move; (iterate 4 (exact rfl))) | (apply s_fa_f tab_ok; (iterate 6 (exact rfl))) | (apply s_ld_f tab_ok; (iterate 6 (exact rfl))) | (apply s_assign; (iterate 4 (exact rfl))) | (apply s_len tab_ok; (iterate 5 (exact rfl))) | (apply s_lss_f; (iterate 5 (exact rfl)); omega) | refine al_nil ?_ | refine q_then_n ?_ | refine q_blk_e ?_ | refine q_then_e ?_ | refine aw_exit ?_ | refine aw_seq ?_ | refine aw_reg ?_ | refine aw_false rfl ?_ | refine aw_ret ?_)
      exact q_ret rfl ⟨_, rfl, by simp only [cellsV, if_neg hk]; simp⟩
set_option maxRecDepth 100000 in
set_option maxHeartbeats 8000000 in
theorem may55_m : ∀ p : Val, massV p ≤ 1000000000 → RunsP Try.prog 55 [.agg (valD p)] (fun v => v = .v (.bool (mayV p))) := by
  refine rec_val fun vk vn vs l ih hp => ?_
  have hll := massVL_len l
  simp only [massV] at hp
  have hl : l.length ≤ 140737488355328 := by omega
  by_cases h : vk = 1 ∨ vk = 2 ∨ vk = 3 ∨ vk = 4 ∨ vk = 6 ∨ vk = 7
  · exact may_leaf h
  · refine enterP 114 Try.func55 rfl (by kernel_rfl) rfl rfl rfl ?_
    simp only [not_or] at h
    obtain ⟨h1, h2, h3, h4, h6, h7⟩ := h
    repeat' (first | refine s_op rfl ?_ | (apply s_fa_f tab_ok; (iterate 6 (exact rfl))) | (apply s_ld_f tab_ok; (iterate 6 (exact rfl))) | (apply s_assign; (iterate 4 (exact rfl))) | (apply s_boxZ; (iterate 5 (exact rfl)); first | exact rfl | exact allD_mapd _) | (apply s_eql_f; (iterate 5 (exact rfl)); omega) | (refine w_keep [1] rfl rfl ?_; refine may_head ⟨h1, h2, h3, h4, h6, h7⟩ (fun X hX => ?_) rfl; exact may_loop hl (fun p hp2 => ih p hp2 (by have := massVL_mem hp2; omega)) _ hX) | refine al_nil ?_ | refine q_then_n ?_ | refine aw_block ?_ | refine aw_seq ?_ | refine aw_reg ?_ | refine aw_false rfl ?_ | refine aw_skip ?_)
section
variable {σ : List AObj} {q : RQ} {H : AHeap} {B : Int}
set_option maxRecDepth 100000 in
set_option maxHeartbeats 8000000 in
theorem build61 (ok : H.Ok B) (hB : 0 ≤ B) {v : Val} (hv : v.kok) (hm : massV v ≤ 1000000000) (h : RHeap σ q H) : Runs Try.prog 61 [.ptr q.p 0 0, .d (.agg (valD v))] σ (fun r σ' => r = .d (.tup [.agg (wordD (buildM H v).1.1), .v (.int .i64 (buildM H v).1.2)]) ∧ RHeap σ' q (buildM H v).2 ∧ KeptP (NotQ q) σ σ') := by
  have hl : H.slots.length ≤ 1000000 := by have := ok.few; have := ok.room1; omega
  have hK := KeptP.refl (NotQ q) σ
  have hmay := may55_m v hm
  have h47 := cells47_m v hm
  have hcm := cells_mass v
  have hlive := ok.live_eq
  have hr0 := ok.room0
  have hr1 := ok.room1
  have hcl := countLive_le H.slots
  have hlv := fun σ (h : RHeap σ q H) => live_q h hl
  rw [← hlive] at hlv
  have hlp : ∀ σ (h : RHeap σ q H), ∃ x1 x2 x3 : AV, σ[q.p]? = some (.row 54 [.d (.v (.int .i64 H.room)), x1, x2, x3]) := fun σ h => by
    obtain ⟨vs, vg, gr, a, _⟩ := h.at'
    exact ⟨_, _, _, a⟩
  cases hmv : mayV v with
  | false =>
    rw [build_not hmv]
    rw [hmv] at hmay
    obtain ⟨vk, vn, vs, vl⟩ := v
    show Runs Try.prog 61 [.ptr q.p 0 0, .d (.agg [DV.v (.int .u8 vk), DV.v (.int .i64 vn), DV.v (.string vs), DV.lst 4 (valR vl)])] σ _
    refine enterB 24 tab_ok Try.func61 rfl (by kernel_rfl) rfl rfl rfl ?_
    repeat' (first | refine s_op rfl ?_ | (apply s_ld_f tab_ok; (iterate 6 (exact rfl))) | (apply s_assign; (iterate 4 (exact rfl))) | (apply s_build tabZ_ok; (iterate 5 (exact rfl))) | (apply s_boxZ; (iterate 5 (exact rfl)); first | exact rfl | exact allD_mapd _) | (apply s_not_f; (iterate 4 (exact rfl))) | (apply s_allocF tabZ_ok (d := 4); (iterate 6 (exact rfl)); intro locX σ hc; have hX := hc.at'; have pX : NotQ q locX := (by obtain ⟨vs, vg, gr, a, b, c, _⟩ := h.at'; exact ⟨(hc.ne a).symm, (hc.ne b).symm, (hc.ne c).symm⟩); replace h := h.keep (KeptP.fresh (KeptP.refl _ _) hc); have oX := hK.out hc; replace hK := hK.fresh hc; clear hc) | (apply s_storeF tab_ok; (iterate 7 (exact rfl)); exact hX; (iterate 2 (exact rfl)); intro σ hc; replace hX := hc.at'; replace h := h.keepP (p := (· ≠ locX)) (fun k o hk e => hc.keep hk e) pX.1.symm pX.2.1.symm pX.2.2.symm; replace hK := hK.chg oX hc; clear hc) | (apply s_call; (iterate 6 (exact rfl)); first | (exact hmay; rintro _ rfl)) | refine al_nil ?_ | refine q_then_n ?_ | refine q_then_r ?_ | refine aw_seq ?_ | refine aw_reg ?_ | refine aw_true rfl ?_ | refine aw_ret ?_)
    all_goals exact q_retB (resB_2 rfl (resV_c (t := 36) rfl rfl hX rfl) (resV_t rfl) rfl) ⟨rfl, h, hK⟩
  | true =>
    rw [hmv] at hmay
    by_cases hr : H.room - H.live < cellsV v
    · rw [make_room hmv hr]
      obtain ⟨vk, vn, vs, vl⟩ := v
      show Runs Try.prog 61 [.ptr q.p 0 0, .d (.agg [DV.v (.int .u8 vk), DV.v (.int .i64 vn), DV.v (.string vs), DV.lst 4 (valR vl)])] σ _
      refine enterB 24 tab_ok Try.func61 rfl (by kernel_rfl) rfl rfl rfl ?_
      repeat' (first | refine s_op rfl ?_ | (apply s_move; (iterate 4 (exact rfl))) | (apply s_fa_p tab_ok; (iterate 5 (exact rfl))) | (apply s_ld_f tab_ok; (iterate 6 (exact rfl))) | (apply s_assign; (iterate 4 (exact rfl))) | (apply s_nilc; (iterate 5 (exact rfl))) | (apply s_build tabZ_ok; (iterate 5 (exact rfl))) | (apply s_boxZ; (iterate 5 (exact rfl)); first | exact rfl | exact allD_mapd _) | (apply s_not_t; (iterate 4 (exact rfl))) | (apply s_gtr_t; (iterate 5 (exact rfl)); omega) | (apply s_sub64; (iterate 5 (exact rfl)); omega) | (apply s_allocF tabZ_ok (d := 4); (iterate 6 (exact rfl)); intro locX σ hc; have hX := hc.at'; have pX : NotQ q locX := (by obtain ⟨vs, vg, gr, a, b, c, _⟩ := h.at'; exact ⟨(hc.ne a).symm, (hc.ne b).symm, (hc.ne c).symm⟩); replace h := h.keep (KeptP.fresh (KeptP.refl _ _) hc); have oX := hK.out hc; replace hK := hK.fresh hc; clear hc) | (apply s_storeF tab_ok; (iterate 7 (exact rfl)); exact hX; (iterate 2 (exact rfl)); intro σ hc; replace hX := hc.at'; replace h := h.keepP (p := (· ≠ locX)) (fun k o hk e => hc.keep hk e) pX.1.symm pX.2.1.symm pX.2.2.symm; replace hK := hK.chg oX hc; clear hc) | (obtain ⟨x1, x2, x3, hP⟩ := hlp _ h; apply s_ldF tab_ok; (iterate 5 (exact rfl)); exact hP; exact rfl) | (apply s_callS; (iterate 6 (exact rfl)); exact hlv _ h; rintro _ σ2 ⟨rfl, rfl⟩) | (apply s_call; (iterate 6 (exact rfl)); first | (exact hmay; rintro _ rfl) | (exact h47; rintro _ rfl)) | refine al_nil ?_ | refine q_then_n ?_ | refine q_then_r ?_ | refine aw_seq ?_ | refine aw_reg ?_ | refine aw_true rfl ?_ | refine aw_false rfl ?_ | refine aw_skip ?_ | refine aw_ret ?_ | refine al_fork ?_ ?_ | refine aw_draws (id := 3) (trO [0, 2, 3, 4, 6] (.fork 1 (.fork 5 (trO [7, 8, 9] .nil) 7 (trO [5, 8, 9] .nil)) 5 (trO [1, 7, 8, 9] .nil))) [1, 5, 7] [7] mixed_ok (by kernel_rfl) ?_)
      all_goals exact q_retB (resB_2 rfl (resV_c (t := 36) rfl rfl hX rfl) (resV_t rfl) rfl) ⟨rfl, h, hK⟩
    · have hmk := makeOf hmv hr
      rw [hmk]
      have hgv := fun σ (h : RHeap σ q H) => give_q hB v hv hmv H σ ok (by omega) h
      unfold GivenP at hgv
      generalize buildF H v = g at *
      obtain ⟨⟨gk, gn, gs, gg⟩, g2⟩ := g
      clear hmk
      obtain ⟨vk, vn, vs, vl⟩ := v
      show Runs Try.prog 61 [.ptr q.p 0 0, .d (.agg [DV.v (.int .u8 vk), DV.v (.int .i64 vn), DV.v (.string vs), DV.lst 4 (valR vl)])] σ _
      refine enterB 24 tab_ok Try.func61 rfl (by kernel_rfl) rfl rfl rfl ?_
      repeat' (first | refine s_op rfl ?_ | (apply s_move; (iterate 4 (exact rfl))) | (apply s_fa_p tab_ok; (iterate 5 (exact rfl))) | (apply s_ld_f tab_ok; (iterate 6 (exact rfl))) | (apply s_assign; (iterate 4 (exact rfl))) | (apply s_nilc; (iterate 5 (exact rfl))) | (apply s_boxZ; (iterate 5 (exact rfl)); first | exact rfl | exact allD_mapd _) | (apply s_not_t; (iterate 4 (exact rfl))) | (apply s_gtr_f; (iterate 5 (exact rfl)); omega) | (apply s_sub64; (iterate 5 (exact rfl)); omega) | (apply s_allocF tabZ_ok (d := 4); (iterate 6 (exact rfl)); intro locX σ hc; have hX := hc.at'; have pX : NotQ q locX := (by obtain ⟨vs, vg, gr, a, b, c, _⟩ := h.at'; exact ⟨(hc.ne a).symm, (hc.ne b).symm, (hc.ne c).symm⟩); replace h := h.keep (KeptP.fresh (KeptP.refl _ _) hc); have oX := hK.out hc; replace hK := hK.fresh hc; clear hc) | (apply s_storeF tab_ok; (iterate 7 (exact rfl)); exact hX; (iterate 2 (exact rfl)); intro σ hc; replace hX := hc.at'; replace h := h.keepP (p := (· ≠ locX)) (fun k o hk e => hc.keep hk e) pX.1.symm pX.2.1.symm pX.2.2.symm; replace hK := hK.chg oX hc; clear hc) | (obtain ⟨x1, x2, x3, hP⟩ := hlp _ h; apply s_ldF tab_ok; (iterate 5 (exact rfl)); exact hP; exact rfl) | (apply s_callS; (iterate 6 (exact rfl)); exact hlv _ h; rintro _ σ2 ⟨rfl, rfl⟩) | (apply s_callS; (iterate 6 (exact rfl)); exact hgv _ h; rintro _ σ2 ⟨rfl, h2, hk2⟩; replace hX := hk2 _ _ pX hX; replace h := h2; replace hK := hK.trans hk2; clear h2 hk2) | (apply s_call; (iterate 6 (exact rfl)); first | (exact hmay; rintro _ rfl) | (exact h47; rintro _ rfl)) | refine al_nil ?_ | refine q_then_n ?_ | refine aw_seq ?_ | refine aw_reg ?_ | refine aw_false rfl ?_ | refine aw_skip ?_ | refine aw_ret ?_ | refine al_fork ?_ ?_ | refine aw_draws (id := 3) (trO [0, 2, 3, 4, 6] (.fork 1 (.fork 5 (trO [7, 8, 9] .nil) 7 (trO [5, 8, 9] .nil)) 5 (trO [1, 7, 8, 9] .nil))) [1, 5, 7] [7] mixed_ok (by kernel_rfl) ?_)
      all_goals exact q_retB (resB_2 rfl (resV_c (t := 36) rfl rfl hX rfl) (resV_t rfl) rfl) ⟨rfl, h, hK⟩
set_option maxRecDepth 100000 in
set_option maxHeartbeats 8000000 in
theorem copy62 (ok : H.Ok B) (hB : 0 ≤ B) (hlv : LiveOk H) {f : Nat} (hf : H.slots.length + 1 ≤ f) (w : AWord) (hkm : ∀ v come fl, walkF H f w [] false = .ok v come fl → v.kok ∧ massV v ≤ 1000000000) (h : RHeap σ q H) : Runs Try.prog 62 [.ptr q.p 0 0, .d (.agg (wordD w))] σ (fun r σ' => r = .d (.tup [.agg (wordD (copyM H f w).1.1), .v (.int .i64 (copyM H f w).1.2)]) ∧ RHeap σ' q (copyM H f w).2 ∧ KeptP (NotQ q) σ σ') := by
  have hK := KeptP.refl (NotQ q) σ
  cases hw : walkF H f w [] false with
  | bad e =>
    have hv : copyM H f w = ((.zero, e), H) := by unfold copyM; rw [hw]
    rw [hv]
    have hwk := walk_n_bad (q := q) ok hf hw
    obtain ⟨wk, wn, ws, wg⟩ := w
    show Runs Try.prog 62 [.ptr q.p 0 0, .d (.agg [DV.v (.int .u8 wk), DV.v (.int .i64 wn), DV.v (.string ws), DV.v (.int .i64 wg)])] σ _
    refine enterB 32 tab_ok Try.func62 rfl (by kernel_rfl) rfl rfl rfl ?_
    repeat' (first | refine s_op rfl ?_ | (apply s_skipV; (iterate 2 (exact rfl))) | (apply s_move; (iterate 4 (exact rfl))) | (apply s_ld_f tab_ok; (iterate 6 (exact rfl))) | (apply s_assign; (iterate 4 (exact rfl))) | (apply s_pick_f; (iterate 5 (exact rfl))) | (apply s_ext; (iterate 5 (exact rfl))) | (apply s_build tabZ_ok; (iterate 5 (exact rfl))) | (apply s_boxZ; (iterate 5 (exact rfl)); first | exact rfl | exact allD_mapd _) | (apply s_eql_f; (iterate 5 (exact rfl)); omega) | (apply s_neq_t; (iterate 5 (exact rfl)); omega) | (apply s_allocF tabZ_ok (d := 4); (iterate 6 (exact rfl)); intro locX σ hc; have hX := hc.at'; have pX : NotQ q locX := (by obtain ⟨vs, vg, gr, a, b, c, _⟩ := h.at'; exact ⟨(hc.ne a).symm, (hc.ne b).symm, (hc.ne c).symm⟩); replace h := h.keep (KeptP.fresh (KeptP.refl _ _) hc); have oX := hK.out hc; replace hK := hK.fresh hc; clear hc) | (apply s_storeF tab_ok; (iterate 7 (exact rfl)); exact hX; (iterate 2 (exact rfl)); intro σ hc; replace hX := hc.at'; replace h := h.keepP (p := (· ≠ locX)) (fun k o hk e => hc.keep hk e) pX.1.symm pX.2.1.symm pX.2.2.symm; replace hK := hK.chg oX hc; clear hc) | (apply s_callS; (iterate 6 (exact rfl)); exact hwk _ h; rintro _ σ2 ⟨locW, verW, nW, fW, rfl, he, hk2⟩; replace h := h.keep hk2; replace hX := hk2 _ _ trivial hX; replace hK := hK.trans (hk2.of fun _ _ => trivial); clear hk2) | refine al_nil ?_ | refine q_then_n ?_ | refine q_then_r ?_ | refine aw_seq ?_ | refine aw_reg ?_ | refine aw_true rfl ?_ | refine aw_false rfl ?_ | refine aw_skip ?_ | refine aw_ret ?_)
    all_goals exact q_retB (resB_2 rfl (resV_c (t := 36) rfl rfl hX rfl) (resV_t rfl) rfl) ⟨rfl, h, hK⟩
  | ok v c2 f2 =>
    obtain ⟨k1, k2⟩ := hkm v c2 f2 hw
    have hwk := walk_n_ok (q := q) ok hf hw
    cases f2 with
    | true =>
      have hv : copyM H f w = ((.zero, 240), H) := by unfold copyM; rw [hw]; rfl
      rw [hv]
      obtain ⟨wk, wn, ws, wg⟩ := w
      show Runs Try.prog 62 [.ptr q.p 0 0, .d (.agg [DV.v (.int .u8 wk), DV.v (.int .i64 wn), DV.v (.string ws), DV.v (.int .i64 wg)])] σ _
      refine enterB 32 tab_ok Try.func62 rfl (by kernel_rfl) rfl rfl rfl ?_
      repeat' (first | refine s_op rfl ?_ | (apply s_move; (iterate 4 (exact rfl))) | (apply s_ld_f tab_ok; (iterate 6 (exact rfl))) | (apply s_assign; (iterate 4 (exact rfl))) | (apply s_pick_t; (iterate 5 (exact rfl))) | (apply s_ext; (iterate 5 (exact rfl))) | (apply s_build tabZ_ok; (iterate 5 (exact rfl))) | (apply s_boxZ; (iterate 5 (exact rfl)); first | exact rfl | exact allD_mapd _) | (apply s_eql_t; (iterate 5 (exact rfl)); omega) | (apply s_neq_t; (iterate 5 (exact rfl)); omega) | (apply s_allocF tabZ_ok (d := 4); (iterate 6 (exact rfl)); intro locX σ hc; have hX := hc.at'; have pX : NotQ q locX := (by obtain ⟨vs, vg, gr, a, b, c, _⟩ := h.at'; exact ⟨(hc.ne a).symm, (hc.ne b).symm, (hc.ne c).symm⟩); replace h := h.keep (KeptP.fresh (KeptP.refl _ _) hc); have oX := hK.out hc; replace hK := hK.fresh hc; clear hc) | (apply s_storeF tab_ok; (iterate 7 (exact rfl)); exact hX; (iterate 2 (exact rfl)); intro σ hc; replace hX := hc.at'; replace h := h.keepP (p := (· ≠ locX)) (fun k o hk e => hc.keep hk e) pX.1.symm pX.2.1.symm pX.2.2.symm; replace hK := hK.chg oX hc; clear hc) | (apply s_callS; (iterate 6 (exact rfl)); exact hwk _ h; rintro _ σ2 ⟨locW, verW, nW, rfl, hk2⟩; replace h := h.keep hk2; replace hX := hk2 _ _ trivial hX; replace hK := hK.trans (hk2.of fun _ _ => trivial); clear hk2) | refine al_nil ?_ | refine q_then_n ?_ | refine q_then_r ?_ | refine aw_seq ?_ | refine aw_reg ?_ | refine aw_true rfl ?_ | refine aw_ret ?_)
      all_goals exact q_retB (resB_2 rfl (resV_c (t := 36) rfl rfl hX rfl) (resV_t rfl) rfl) ⟨rfl, h, hK⟩
    | false =>
      have hv : copyM H f w = buildM H v := by unfold copyM; rw [hw]; rfl
      rw [hv]
      have hvq := fun σ (h : RHeap σ q H) => value_q ok hlv f w [] false v c2 false σ hw h
      have hbm := fun σ (h : RHeap σ q H) => build61 (σ := σ) ok hB k1 k2 h
      generalize buildM H v = M at *
      obtain ⟨⟨⟨gk, gn, gs, gg⟩, e⟩, g2⟩ := M
      obtain ⟨wk, wn, ws, wg⟩ := w
      obtain ⟨vk, vn, vs, vl⟩ := v
      show Runs Try.prog 62 [.ptr q.p 0 0, .d (.agg [DV.v (.int .u8 wk), DV.v (.int .i64 wn), DV.v (.string ws), DV.v (.int .i64 wg)])] σ _
      refine enterB 32 tab_ok Try.func62 rfl (by kernel_rfl) rfl rfl rfl ?_
      repeat' (first | refine s_op rfl ?_ | (apply s_move; (iterate 4 (exact rfl))) | (apply s_ld_f tab_ok; (iterate 6 (exact rfl))) | (apply s_assign; (iterate 4 (exact rfl))) | (apply s_pick_t; (iterate 5 (exact rfl))) | (apply s_ext; (iterate 5 (exact rfl))) | (apply s_boxZ; (iterate 5 (exact rfl)); first | exact rfl | exact allD_mapd _) | (apply s_eql_t; (iterate 5 (exact rfl)); omega) | (apply s_neq_f; (iterate 5 (exact rfl)); omega) | (apply s_allocF tabZ_ok (d := 4); (iterate 6 (exact rfl)); intro locX σ hc; have hX := hc.at'; have pX : NotQ q locX := (by obtain ⟨vs, vg, gr, a, b, c, _⟩ := h.at'; exact ⟨(hc.ne a).symm, (hc.ne b).symm, (hc.ne c).symm⟩); replace h := h.keep (KeptP.fresh (KeptP.refl _ _) hc); have oX := hK.out hc; replace hK := hK.fresh hc; clear hc) | (apply s_storeF tab_ok; (iterate 7 (exact rfl)); exact hX; (iterate 2 (exact rfl)); intro σ hc; replace hX := hc.at'; replace h := h.keepP (p := (· ≠ locX)) (fun k o hk e => hc.keep hk e) pX.1.symm pX.2.1.symm pX.2.2.symm; replace hK := hK.chg oX hc; clear hc) | (apply s_callS; (iterate 6 (exact rfl)); exact hwk _ h; rintro _ σ2 ⟨locW, verW, nW, rfl, hk2⟩; replace h := h.keep hk2; replace hX := hk2 _ _ trivial hX; replace hK := hK.trans (hk2.of fun _ _ => trivial); clear hk2) | (apply s_callS; (iterate 6 (exact rfl)); exact hvq _ h; rintro _ σ2 ⟨rfl, hk2⟩; replace h := h.keep hk2; replace hX := hk2 _ _ trivial hX; replace hK := hK.trans (hk2.of fun _ _ => trivial); clear hk2) | (apply s_callS; (iterate 6 (exact rfl)); exact hbm _ h; rintro _ σ2 ⟨rfl, h2, hk2⟩; replace hX := hk2 _ _ pX hX; replace h := h2; replace hK := hK.trans hk2; clear h2 hk2) | refine al_nil ?_ | refine q_then_n ?_ | refine aw_seq ?_ | refine aw_reg ?_ | refine aw_false rfl ?_ | refine aw_skip ?_ | refine aw_ret ?_)
      all_goals exact q_retB (resB_2 rfl (resV_c (t := 36) rfl rfl hX rfl) (resV_t rfl) rfl) ⟨rfl, h, hK⟩
end
end Go.Proofs.Ytciciaikajdenaa
