/- C32, C47: in one. -/
import Derived.Test.YtjflembhgjcgkaaTP11XLdLzx2
import Derived.Test.YtjflembhgjcgkaaTP11XM1M11C1x2
import Derived.Test.YtjflembhgjcgkaaTP11XAhAiAj
import Derived.Test.YtjflembhgjcgkaaTP11XM8C21
set_option linter.unusedSimpArgs false
set_option linter.unusedVariables false
/- C32: sizes, told: what is of at most 9000 is as much as it is. -/
namespace Go.Proofs.Ytjflembhgjcgkaa
open Go.RowKit

section
variable {P : Program} {T : Tab} {Z : TabZ} {nt : Nat} {Q : Exit → Fr → List AObj → Prop} {fr : Fr} {σ σ' : List AObj} {ops : Array Oper} {dr : Bool} {dos ends : List Nat} {l : Trr} {i d : Nat} {o : Oper}
variable {dst : Option Tmp} {op : Op} {ty : TypeId} {pos : String} {aft : Array Edge} {gd : Option (Nat × Bool)}
theorem s_quoV {t t' : TypeId} {a b : Operand} {k : IntKind} {m n : Int} (r : Int) (hp : dr = dr) (hg : guardB ops fr gd = some true) (ht : Nat.blt d nt = true) (ha : aget fr a = .d (.v (.int k m))) (hb : aget fr b = .d (.v (.int k n))) (hv : n ≠ 0 ∧ k.wrap (m.tdiv n) = r) (h : AL P nt ops dr dos ends l Q ((d, .d (.v (.int k r))) :: fr) σ) : ALo P nt ops dr dos ends i ⟨some d, .binOp .quo t a b t', ty, pos, aft, gd⟩ l Q fr σ := by
  obtain ⟨h1, rfl⟩ := hv
  exact s_quo hp hg ht ha hb h1 h
end
theorem quo16 (n : Nat) (h : n ≤ 140737488355328) : (16 : Int) ≠ 0 ∧ IntKind.wrap .i64 ((n : Int).tdiv 16) = ((n / 16 : Nat) : Int) := by
  refine ⟨by decide, ?_⟩
  have : ((n : Int).tdiv 16) = ((n / 16 : Nat) : Int) := by
    rw [Int.tdiv_eq_ediv_of_nonneg (by omega)]; rfl
  rw [this, wrap64 (by omega) (by omega)]

set_option maxRecDepth 100000 in
theorem sizeZ_c : ∀ p : Pat, p.low → ∀ d : Int, RunsP Try.prog 17 [patsD p.l, .v (.int .i64 d)] (fun v => ∃ z : Int, v = .v (.int .i64 z) ∧ SizeZ (massL p.l) d z) := by
  refine rec_pat fun k0 n0 i0 s0 a0 b0 c0 l ih hp d => ?_
  have hl : l.length ≤ 140737488355328 := hp.2.1
  have e1 := patR_len l
  simp only [Pat.l]
  by_cases hd : 0 ≤ d ∧ d ≤ 100
  · obtain ⟨hd0, hd1⟩ := hd
    have hd2 : ¬ d > 100 := by omega
    refine enterP 39 Try.func17 rfl (by kernel_rfl) rfl rfl rfl ?_
    repeat' (first | refine s_op rfl ?_ | (apply s_assign; (iterate 4 (exact rfl))) | refine al_nil ?_ | refine q_then_n ?_ | refine aw_block ?_ | refine aw_seq ?_ | refine aw_reg ?_)
    refine w_loop [0, 1, 5, 6] (fun n' vs σ => ∃ (k : Nat) (n : Int), vs = [.d (patsD l), .d (.v (.int .i64 d)), .d (.v (.int .i64 n)), .d (.v (.int .i64 (k : Int)))] ∧ σ = [] ∧ k ≤ l.length ∧ 0 ≤ n ∧ n ≤ (101 - d) * 8796093031300 + 9001 ∧ (n ≤ 9000 → n = (massL (l.take k) : Int)) ∧ n' = l.length - k) rfl ⟨0, 0, rfl, rfl, by omega, by omega, by omega, by simp [massL], rfl⟩ ?_
    rintro n' vs σ ⟨k, n, rfl, rfl, hk, hn0, hn1, hn2, rfl⟩ fr hfr
    cases hfr
    have fin : k = l.length ∨ 9000 < n → SizeZ (massL l) d n := by
      intro h
      refine ⟨fun e => by omega, fun _ _ => ⟨hn0, hn1, fun h9 => ?_⟩⟩
      rcases h with rfl | h
      · have := hn2 h9; rwa [List.take_length] at this
      · omega
    by_cases hlt : k < l.length
    · by_cases hn : n ≤ 9000
      · obtain ⟨q, hq⟩ := getS hlt
        have hqs := Pat.low_get hp hq
        have hi := ih q (List.mem_of_getElem? hq) hqs (d + 1)
        have ht := massL_take hq
        obtain ⟨qk, qn, qi, qs, qa, qb, qc, ql⟩ := q
        have hs : qs.size ≤ 140737488355328 := hqs.1
        simp only [Pat.l] at hi
        simp only [massP] at ht
        repeat' (first | refine s_op rfl ?_ | (apply s_move; (iterate 4 (exact rfl))) | (apply s_fa_f tab_ok; (iterate 6 (exact rfl))) | (apply s_ld_f tab_ok; (iterate 6 (exact rfl))) | (apply s_assign; (iterate 4 (exact rfl))) | (apply s_pick_t; (iterate 5 (exact rfl))) | (apply s_len tab_ok; (iterate 5 (exact rfl))) | (apply s_lens str_ok; (iterate 4 (exact rfl))) | (apply s_idx tab_ok; (iterate 7 (exact rfl)); (first | exact patR_get (by assumption) | exact valR_get (by assumption) | exact row_map (by assumption) | assumption)) | (apply s_lss_t; (iterate 5 (exact rfl)); omega) | (apply s_leq_t; (iterate 5 (exact rfl)); omega) | (apply s_call; (iterate 6 (exact rfl)); exact hi; rintro _ ⟨z, rfl, hz⟩; have hz0 : 0 ≤ z ∧ z ≤ (100 - d) * 8796093031300 + 9001 ∧ (z ≤ 9000 → z = (massL ql : Int)) := by (rcases (show d + 1 = 101 ∨ d + 1 ≤ 100 by omega) with h | h; (have := hz.1 h; omega); (have := hz.2 (by omega) h; omega))) | (apply s_addV ((k + 1 : Nat) : Int); (iterate 5 (exact rfl)); omega) | (apply s_addV (d + 1); (iterate 5 (exact rfl)); omega) | (apply s_quoV ((qs.size / 16 : Nat) : Int); (iterate 5 (exact rfl)); exact quo16 _ hs) | (apply s_add64; (iterate 5 (exact rfl)); omega) | refine al_nil ?_ | refine q_then_n ?_ | refine q_blk_n ?_ | refine aw_block ?_ | refine aw_seq ?_ | refine aw_reg ?_ | refine aw_true rfl ?_ | refine aw_skip ?_ | refine aw_draws (id := 5) (trO [0, 1, 2, 3, 4, 5, 6, 7, 8, 9, 10, 11, 12, 13, 14, 15, 16, 17, 18, 19] .nil) [17] [] mixed_ok (by kernel_rfl) ?_)
        exact ⟨_, _, rfl, by omega, k + 1, _, rfl, rfl, by omega, by omega, by omega, by omega, rfl⟩
      · repeat' (first | refine s_op rfl ?_ | (apply s_move; (iterate 4 (exact rfl))) | (apply s_assign; (iterate 4 (exact rfl))) | (apply s_pick_t; (iterate 5 (exact rfl))) | (apply s_len tab_ok; (iterate 5 (exact rfl))) | (apply s_lss_t; (iterate 5 (exact rfl)); omega) | (apply s_gtr_f; (iterate 5 (exact rfl)); omega) | (apply s_leq_f; (iterate 5 (exact rfl)); omega) | refine al_nil ?_ | refine q_then_n ?_ | refine q_blk_e ?_ | refine q_then_e ?_ | refine aw_exit ?_ | refine aw_seq ?_ | refine aw_reg ?_ | refine aw_false rfl ?_ | refine aw_skip ?_ | refine aw_ret ?_)
        exact q_ret rfl ⟨_, rfl, _, rfl, fin (.inr (by omega))⟩
    · repeat' (first | refine s_op rfl ?_ | (apply s_skipV; (iterate 2 (exact rfl))) | (apply s_move; (iterate 4 (exact rfl))) | (apply s_assign; (iterate 4 (exact rfl))) | (apply s_pick_f; (iterate 5 (exact rfl))) | (apply s_len tab_ok; (iterate 5 (exact rfl))) | (apply s_lss_f; (iterate 5 (exact rfl)); omega) | (apply s_gtr_f; (iterate 5 (exact rfl)); omega) | refine al_nil ?_ | refine q_then_n ?_ | refine q_blk_e ?_ | refine q_then_e ?_ | refine aw_exit ?_ | refine aw_seq ?_ | refine aw_reg ?_ | refine aw_false rfl ?_ | refine aw_skip ?_ | refine aw_ret ?_)
      exact q_ret rfl ⟨_, rfl, _, rfl, fin (.inl (by omega))⟩
  · have weak : RunsP Try.prog 17 [patsD l, .v (.int .i64 d)] (fun v => ∃ z : Int, v = .v (.int .i64 z) ∧ (d > 100 → z = 9001)) := by
      refine enterP 39 Try.func17 rfl (by kernel_rfl) rfl rfl rfl ?_
      repeat' (first | refine s_op rfl ?_ | (apply s_assign; (iterate 4 (exact rfl))) | refine al_nil ?_ | refine q_then_n ?_ | refine aw_block ?_ | refine aw_seq ?_ | refine aw_reg ?_)
      refine w_loop [0, 1, 5, 6] (fun n' vs σ => ∃ (k : Nat) (n : Int), vs = [.d (patsD l), .d (.v (.int .i64 d)), .d (.v (.int .i64 n)), .d (.v (.int .i64 (k : Int)))] ∧ σ = [] ∧ k ≤ l.length ∧ n' = l.length - k) rfl ⟨0, 0, rfl, rfl, by omega, rfl⟩ ?_
      rintro n' vs σ ⟨k, n, rfl, rfl, hk, rfl⟩ fr hfr
      cases hfr
      by_cases hlt : k < l.length
      · by_cases hn : n ≤ 9000
        · obtain ⟨q, hq⟩ := getS hlt
          have hi := size_c q (Pat.low_small (Pat.low_get hp hq)) (IntKind.wrap .i64 (d + 1))
          obtain ⟨qk, qn, qi, qs, qa, qb, qc, ql⟩ := q
          simp only [Pat.l] at hi
          repeat' (first | refine s_op rfl ?_ | (apply s_move; (iterate 4 (exact rfl))) | (apply s_fa_f tab_ok; (iterate 6 (exact rfl))) | (apply s_ld_f tab_ok; (iterate 6 (exact rfl))) | (apply s_assign; (iterate 4 (exact rfl))) | (apply s_pick_t; (iterate 5 (exact rfl))) | (apply s_len tab_ok; (iterate 5 (exact rfl))) | (apply s_lens str_ok; (iterate 4 (exact rfl))) | (apply s_idx tab_ok; (iterate 7 (exact rfl)); (first | exact patR_get (by assumption) | exact valR_get (by assumption) | exact row_map (by assumption) | assumption)) | (apply s_lss_t; (iterate 5 (exact rfl)); omega) | (apply s_leq_t; (iterate 5 (exact rfl)); omega) | (apply s_call; (iterate 6 (exact rfl)); exact hi; rintro _ ⟨z, rfl⟩) | (apply s_addV ((k + 1 : Nat) : Int); (iterate 5 (exact rfl)); omega) | (apply s_add; (iterate 6 (exact rfl))) | (apply s_quo; (iterate 5 (exact rfl)); decide) | refine al_nil ?_ | refine q_then_n ?_ | refine q_blk_n ?_ | refine aw_block ?_ | refine aw_seq ?_ | refine aw_reg ?_ | refine aw_true rfl ?_ | refine aw_skip ?_ | refine aw_draws (id := 5) (trO [0, 1, 2, 3, 4, 5, 6, 7, 8, 9, 10, 11, 12, 13, 14, 15, 16, 17, 18, 19] .nil) [17] [] mixed_ok (by kernel_rfl) ?_)
          exact ⟨_, _, rfl, by omega, k + 1, _, rfl, rfl, by omega, rfl⟩
        · by_cases hd : d > 100
          · repeat' (first | refine s_op rfl ?_ | (apply s_move; (iterate 4 (exact rfl))) | (apply s_assign; (iterate 4 (exact rfl))) | (apply s_pick_t; (iterate 5 (exact rfl))) | (apply s_len tab_ok; (iterate 5 (exact rfl))) | (apply s_lss_t; (iterate 5 (exact rfl)); omega) | (apply s_gtr_t; (iterate 5 (exact rfl)); omega) | (apply s_leq_f; (iterate 5 (exact rfl)); omega) | refine al_nil ?_ | refine q_then_n ?_ | refine q_blk_e ?_ | refine q_then_e ?_ | refine aw_exit ?_ | refine q_then_r ?_ | refine aw_seq ?_ | refine aw_reg ?_ | refine aw_true rfl ?_ | refine aw_false rfl ?_ | refine aw_ret ?_)
            exact q_ret rfl ⟨_, rfl, _, rfl, fun _ => rfl⟩
          · repeat' (first | refine s_op rfl ?_ | (apply s_move; (iterate 4 (exact rfl))) | (apply s_assign; (iterate 4 (exact rfl))) | (apply s_pick_t; (iterate 5 (exact rfl))) | (apply s_len tab_ok; (iterate 5 (exact rfl))) | (apply s_lss_t; (iterate 5 (exact rfl)); omega) | (apply s_gtr_f; (iterate 5 (exact rfl)); omega) | (apply s_leq_f; (iterate 5 (exact rfl)); omega) | refine al_nil ?_ | refine q_then_n ?_ | refine q_blk_e ?_ | refine q_then_e ?_ | refine aw_exit ?_ | refine aw_seq ?_ | refine aw_reg ?_ | refine aw_false rfl ?_ | refine aw_skip ?_ | refine aw_ret ?_)
            exact q_ret rfl ⟨_, rfl, _, rfl, fun h => absurd h hd⟩
      · by_cases hd : d > 100
        · repeat' (first | refine s_op rfl ?_ | (apply s_skipV; (iterate 2 (exact rfl))) | (apply s_move; (iterate 4 (exact rfl))) | (apply s_assign; (iterate 4 (exact rfl))) | (apply s_pick_f; (iterate 5 (exact rfl))) | (apply s_len tab_ok; (iterate 5 (exact rfl))) | (apply s_lss_f; (iterate 5 (exact rfl)); omega) | (apply s_gtr_t; (iterate 5 (exact rfl)); omega) | refine al_nil ?_ | refine q_then_n ?_ | refine q_blk_e ?_ | refine q_then_e ?_ | refine aw_exit ?_ | refine q_then_r ?_ | refine aw_seq ?_ | refine aw_reg ?_ | refine aw_true rfl ?_ | refine aw_false rfl ?_ | refine aw_ret ?_)
          exact q_ret rfl ⟨_, rfl, _, rfl, fun _ => rfl⟩
        · repeat' (first | refine s_op rfl ?_ | (apply s_skipV; (iterate 2 (exact rfl))) | (apply s_move; (iterate 4 (exact rfl))) | (apply s_assign; (iterate 4 (exact rfl))) | (apply s_pick_f; (iterate 5 (exact rfl))) | (apply s_len tab_ok; (iterate 5 (exact rfl))) | (apply s_lss_f; (iterate 5 (exact rfl)); omega) | (apply s_gtr_f; (iterate 5 (exact rfl)); omega) | refine al_nil ?_ | refine q_then_n ?_ | refine q_blk_e ?_ | refine q_then_e ?_ | refine aw_exit ?_ | refine aw_seq ?_ | refine aw_reg ?_ | refine aw_false rfl ?_ | refine aw_skip ?_ | refine aw_ret ?_)
          exact q_ret rfl ⟨_, rfl, _, rfl, fun h => absurd h hd⟩
    refine weak.mono ?_
    rintro _ ⟨z, rfl, hz⟩
    exact ⟨z, rfl, fun e => hz (by omega), fun h1 h2 => absurd ⟨h1, h2⟩ hd⟩

end Go.Proofs.Ytjflembhgjcgkaa

/- C47: Great, of the document: what is not great is small. -/
namespace Go.Proofs.Ytjflembhgjcgkaa
open Go.RowKit

/-- A signature that came in. -/
structure Sg.Low (g : Sg) : Prop where
  datas : g.datas.length ≤ 140737488355328
  cons : g.cons.length ≤ 140737488355328
  each : ∀ d ∈ g.datas, d.cons.length ≤ 140737488355328
  fields : ∀ c ∈ g.cons, c.fields.length ≤ 140737488355328
/-- A signature that is not great. -/
structure Sg.Tiny (g : Sg) : Prop where
  datas : g.datas.length ≤ 40
  cons : g.cons.length ≤ 100
  each : ∀ d ∈ g.datas, d.cons.length ≤ 300
  fields : ∀ c ∈ g.cons, c.fields.length ≤ 300
theorem Sg.Tiny.small {g : Sg} (h : g.Tiny) : g.Small := ⟨by have := h.datas; omega, by have := h.cons; omega, fun d hd => by have := h.each d hd; omega, fun c hc => by have := h.fields c hc; omega⟩
def sumD (l : List DataT) : Nat := (l.map fun d => d.cons.length).sum
def sumC (l : List ConT) : Nat := (l.map fun d => d.fields.length).sum
theorem sumD_take {l : List DataT} {k : Nat} {d : DataT} (h : l[k]? = some d) : sumD (l.take (k + 1)) = sumD (l.take k) + d.cons.length := by
  unfold sumD; rw [List.take_add_one, h]; simp
theorem sumC_take {l : List ConT} {k : Nat} {d : ConT} (h : l[k]? = some d) : sumC (l.take (k + 1)) = sumC (l.take k) + d.fields.length := by
  unfold sumC; rw [List.take_add_one, h]; simp
theorem sumD_mem {l : List DataT} {d : DataT} (h : d ∈ l) : d.cons.length ≤ sumD l := by
  induction l with
  | nil => cases h
  | cons a l ih =>
    unfold sumD at *
    rw [List.map_cons, List.sum_cons]
    rcases List.mem_cons.1 h with rfl | h
    · omega
    · have := ih h; omega
theorem sumC_mem {l : List ConT} {d : ConT} (h : d ∈ l) : d.fields.length ≤ sumC l := by
  induction l with
  | nil => cases h
  | cons a l ih =>
    unfold sumC at *
    rw [List.map_cons, List.sum_cons]
    rcases List.mem_cons.1 h with rfl | h
    · omega
    · have := ih h; omega

set_option maxRecDepth 100000 in
set_option maxHeartbeats 4000000 in
theorem great_c {g : Sg} (hg : g.Low) {l : List Pat} (hl : ∀ p ∈ l, p.low) (hll : l.length ≤ 140737488355328) : RunsP Try.prog 13 [.agg (sigD g), patsD l] (fun v => ∃ b : Bool, v = .v (.bool b) ∧ (b = false → g.Tiny ∧ massL l ≤ 50)) := by
  have hd1 : g.datas.length ≤ 140737488355328 := hg.datas
  have hc1 : g.cons.length ≤ 140737488355328 := hg.cons
  have e1 : (g.datas.map dataD).length = g.datas.length := by simp
  have e2 : (g.cons.map conD).length = g.cons.length := by simp
  have hsz := sizeZ_c (.mk 0 0 0 ⟨#[]⟩ 0 0 0 l) ⟨by simp [ByteArray.size], hll, Pat.lowL_of hl⟩ 0
  simp only [Pat.l] at hsz
  refine enterP 59 Try.func13 rfl (by kernel_rfl) rfl rfl rfl ?_
  by_cases hsm : g.datas.length ≤ 40 ∧ g.cons.length ≤ 100
  · obtain ⟨hs1, hs2⟩ := hsm
    repeat' (first | refine s_op rfl ?_ | (apply s_assign; (iterate 4 (exact rfl))) | (apply s_boxZ; (iterate 5 (exact rfl)); first | exact rfl | exact allD_mapd _) | refine al_nil ?_ | refine q_then_n ?_ | refine aw_block ?_ | refine aw_seq ?_ | refine aw_reg ?_)
    refine w_loop [1, 2, 5, 6] (fun n0 vs σ => ∃ k : Nat, vs = [.d (patsD l), .d (.fptr (sigD g)), .d (.v (.int .i64 (sumD (g.datas.take k) : Int))), .d (.v (.int .i64 (k : Int)))] ∧ k ≤ g.datas.length ∧ n0 = g.datas.length - k ∧ sumD (g.datas.take k) ≤ k * 140737488355328) rfl ⟨0, rfl, by omega, rfl, by simp [sumD]⟩ ?_
    rintro n0 vs σ ⟨k, rfl, hk, rfl, hsu⟩ fr hfr
    cases hfr
    by_cases hlt : k < g.datas.length
    · obtain ⟨⟨dn, dp, dc⟩, hd⟩ := getS hlt
      have hdr := row_map (f := dataD) hd
      have hst := sumD_take hd
      have hde : dc.length ≤ 140737488355328 := hg.each _ (List.mem_of_getElem? hd)
      have e3 : (dc.map intRow).length = dc.length := by simp
      simp only at hst
      repeat' (first | refine s_op rfl ?_ | (apply s_move; (iterate 4 (exact rfl))) | (apply s_fa_f tab_ok; (iterate 6 (exact rfl))) | (apply s_ld_f tab_ok; (iterate 6 (exact rfl))) | (apply s_assign; (iterate 4 (exact rfl))) | (apply s_len tab_ok; (iterate 5 (exact rfl))) | (apply s_idx tab_ok; (iterate 7 (exact rfl)); (first | exact patR_get (by assumption) | exact valR_get (by assumption) | exact row_map (by assumption) | assumption)) | (apply s_lss_t; (iterate 5 (exact rfl)); omega) | (apply s_addV (sumD (g.datas.take (k + 1)) : Int); (iterate 5 (exact rfl)); omega) | (apply s_add64; (iterate 5 (exact rfl)); omega) | refine al_nil ?_ | refine q_then_n ?_ | refine q_blk_n ?_ | refine aw_block ?_ | refine aw_seq ?_ | refine aw_reg ?_ | refine aw_true rfl ?_ | refine aw_skip ?_)
      all_goals exact ⟨_, _, rfl, by omega, k + 1, rfl, by omega, rfl, by omega⟩
    · have hkk : k = g.datas.length := by omega
      subst hkk
      rw [List.take_length] at hsu
      rw [List.take_length]
      repeat' (first | refine s_op rfl ?_ | (apply s_move; (iterate 4 (exact rfl))) | (apply s_fa_f tab_ok; (iterate 6 (exact rfl))) | (apply s_ld_f tab_ok; (iterate 6 (exact rfl))) | (apply s_assign; (iterate 4 (exact rfl))) | (apply s_len tab_ok; (iterate 5 (exact rfl))) | (apply s_lss_f; (iterate 5 (exact rfl)); omega) | refine al_nil ?_ | refine q_then_n ?_ | refine q_blk_e ?_ | refine q_then_e ?_ | refine aw_block ?_ | refine aw_exit ?_ | refine aw_seq ?_ | refine aw_reg ?_ | refine aw_false rfl ?_)
      refine w_loop [1, 2, 5, 7] (fun n0 vs σ => ∃ k : Nat, vs = [.d (patsD l), .d (.fptr (sigD g)), .d (.v (.int .i64 ((sumD g.datas + sumC (g.cons.take k) : Nat) : Int))), .d (.v (.int .i64 (k : Int)))] ∧ k ≤ g.cons.length ∧ n0 = g.cons.length - k ∧ sumC (g.cons.take k) ≤ k * 140737488355328) rfl ⟨0, rfl, by omega, rfl, by simp [sumC]⟩ ?_
      rintro n0 vs σ ⟨k, rfl, hk, rfl, hsu2⟩ fr hfr
      cases hfr
      by_cases hlt : k < g.cons.length
      · obtain ⟨⟨cn, cd, cf, cm⟩, hd⟩ := getS hlt
        have hdr := row_map (f := conD) hd
        have hst := sumC_take hd
        have hde : cf.length ≤ 140737488355328 := hg.fields _ (List.mem_of_getElem? hd)
        simp only at hst
        repeat' (first | refine s_op rfl ?_ | (apply s_move; (iterate 4 (exact rfl))) | (apply s_fa_f tab_ok; (iterate 6 (exact rfl))) | (apply s_ld_f tab_ok; (iterate 6 (exact rfl))) | (apply s_assign; (iterate 4 (exact rfl))) | (apply s_len tab_ok; (iterate 5 (exact rfl))) | (apply s_idx tab_ok; (iterate 7 (exact rfl)); (first | exact patR_get (by assumption) | exact valR_get (by assumption) | exact row_map (by assumption) | assumption)) | (apply s_lss_t; (iterate 5 (exact rfl)); omega) | (apply s_addV ((sumD g.datas + sumC (g.cons.take (k + 1)) : Nat) : Int); (iterate 5 (exact rfl)); omega) | (apply s_add64; (iterate 5 (exact rfl)); omega) | refine al_nil ?_ | refine q_then_n ?_ | refine q_blk_n ?_ | refine aw_block ?_ | refine aw_seq ?_ | refine aw_reg ?_ | refine aw_true rfl ?_ | refine aw_skip ?_)
        all_goals exact ⟨_, _, rfl, by omega, k + 1, rfl, by omega, rfl, by omega⟩
      · have hkk : k = g.cons.length := by omega
        subst hkk
        rw [List.take_length] at hsu2
        rw [List.take_length]
        by_cases h3 : sumD g.datas + sumC g.cons > 300
        · repeat' (first | refine s_op rfl ?_ | (apply s_skipV; (iterate 2 (exact rfl))) | (apply s_move; (iterate 4 (exact rfl))) | (apply s_fa_f tab_ok; (iterate 6 (exact rfl))) | (apply s_ld_f tab_ok; (iterate 6 (exact rfl))) | (apply s_assign; (iterate 4 (exact rfl))) | (apply s_pick_t; (iterate 5 (exact rfl))) | (apply s_pick_f; (iterate 5 (exact rfl))) | (apply s_len tab_ok; (iterate 5 (exact rfl))) | (apply s_lss_f; (iterate 5 (exact rfl)); omega) | (apply s_gtr_t; (iterate 5 (exact rfl)); omega) | (apply s_gtr_f; (iterate 5 (exact rfl)); omega) | refine al_nil ?_ | refine q_then_n ?_ | refine q_blk_e ?_ | refine q_then_e ?_ | refine aw_exit ?_ | refine aw_seq ?_ | refine aw_reg ?_ | refine aw_false rfl ?_ | refine aw_ret ?_)
          all_goals exact q_ret rfl ⟨_, rfl, _, rfl, fun e => by cases e⟩
        · have tiny : Sg.Tiny g := ⟨hs1, hs2, fun d hd => by have := sumD_mem hd; omega, fun c hc => by have := sumC_mem hc; omega⟩
          repeat' (first | refine s_op rfl ?_ | (apply s_move; (iterate 4 (exact rfl))) | (apply s_fa_f tab_ok; (iterate 6 (exact rfl))) | (apply s_ld_f tab_ok; (iterate 6 (exact rfl))) | (apply s_assign; (iterate 4 (exact rfl))) | (apply s_pick_f; (iterate 5 (exact rfl))) | (apply s_len tab_ok; (iterate 5 (exact rfl))) | (apply s_lss_f; (iterate 5 (exact rfl)); omega) | (apply s_gtr_f; (iterate 5 (exact rfl)); omega) | (apply s_call; (iterate 6 (exact rfl)); exact hsz; rintro _ ⟨z, rfl, hz⟩; have hz := hz.2 (by omega) (by omega)) | (apply s_gtrS; (iterate 5 (exact rfl)); all_goals intro hz50) | refine al_nil ?_ | refine q_then_n ?_ | refine q_blk_e ?_ | refine q_then_e ?_ | refine aw_exit ?_ | refine aw_seq ?_ | refine aw_reg ?_ | refine aw_false rfl ?_ | refine aw_ret ?_)
          · exact q_ret rfl ⟨_, rfl, _, rfl, fun e => by cases e⟩
          · exact q_ret rfl ⟨_, rfl, _, rfl, fun _ => ⟨tiny, by omega⟩⟩
  · repeat' (first | refine s_op rfl ?_ | (apply s_assign; (iterate 4 (exact rfl))) | (apply s_boxZ; (iterate 5 (exact rfl)); first | exact rfl | exact allD_mapd _) | refine al_nil ?_ | refine q_then_n ?_ | refine aw_block ?_ | refine aw_seq ?_ | refine aw_reg ?_)
    refine w_loop [1, 2, 5, 6] (fun n0 vs σ => ∃ (k : Nat) (z : Int), vs = [.d (patsD l), .d (.fptr (sigD g)), .d (.v (.int .i64 z)), .d (.v (.int .i64 (k : Int)))] ∧ k ≤ g.datas.length ∧ n0 = g.datas.length - k) rfl ⟨0, 0, rfl, by omega, rfl⟩ ?_
    rintro n0 vs σ ⟨k, z, rfl, hk, rfl⟩ fr hfr
    cases hfr
    by_cases hlt : k < g.datas.length
    · obtain ⟨⟨dn, dp, dc⟩, hd⟩ := getS hlt
      have hdr := row_map (f := dataD) hd
      repeat' (first | refine s_op rfl ?_ | (apply s_move; (iterate 4 (exact rfl))) | (apply s_fa_f tab_ok; (iterate 6 (exact rfl))) | (apply s_ld_f tab_ok; (iterate 6 (exact rfl))) | (apply s_assign; (iterate 4 (exact rfl))) | (apply s_len tab_ok; (iterate 5 (exact rfl))) | (apply s_idx tab_ok; (iterate 7 (exact rfl)); (first | exact patR_get (by assumption) | exact valR_get (by assumption) | exact row_map (by assumption) | assumption)) | (apply s_lss_t; (iterate 5 (exact rfl)); omega) | (apply s_addV ((k + 1 : Nat) : Int); (iterate 5 (exact rfl)); omega) | (apply s_add; (iterate 6 (exact rfl))) | refine al_nil ?_ | refine q_then_n ?_ | refine q_blk_n ?_ | refine aw_block ?_ | refine aw_seq ?_ | refine aw_reg ?_ | refine aw_true rfl ?_ | refine aw_skip ?_)
      all_goals exact ⟨_, _, rfl, by omega, k + 1, _, rfl, by omega, rfl⟩
    · repeat' (first | refine s_op rfl ?_ | (apply s_move; (iterate 4 (exact rfl))) | (apply s_fa_f tab_ok; (iterate 6 (exact rfl))) | (apply s_ld_f tab_ok; (iterate 6 (exact rfl))) | (apply s_assign; (iterate 4 (exact rfl))) | (apply s_len tab_ok; (iterate 5 (exact rfl))) | (apply s_lss_f; (iterate 5 (exact rfl)); omega) | refine al_nil ?_ | refine q_then_n ?_ | refine q_blk_e ?_ | refine q_then_e ?_ | refine aw_block ?_ | refine aw_exit ?_ | refine aw_seq ?_ | refine aw_reg ?_ | refine aw_false rfl ?_)
      refine w_loop [1, 2, 5, 7] (fun n0 vs σ => ∃ (k : Nat) (z : Int), vs = [.d (patsD l), .d (.fptr (sigD g)), .d (.v (.int .i64 z)), .d (.v (.int .i64 (k : Int)))] ∧ k ≤ g.cons.length ∧ n0 = g.cons.length - k) rfl ⟨0, z, rfl, by omega, rfl⟩ ?_
      rintro n0 vs σ ⟨k, z, rfl, hk, rfl⟩ fr hfr
      cases hfr
      by_cases hlt : k < g.cons.length
      · obtain ⟨⟨cn, cd, cf, cm⟩, hd⟩ := getS hlt
        have hdr := row_map (f := conD) hd
        repeat' (first | refine s_op rfl ?_ | (apply s_move; (iterate 4 (exact rfl))) | (apply s_fa_f tab_ok; (iterate 6 (exact rfl))) | (apply s_ld_f tab_ok; (iterate 6 (exact rfl))) | (apply s_assign; (iterate 4 (exact rfl))) | (apply s_len tab_ok; (iterate 5 (exact rfl))) | (apply s_idx tab_ok; (iterate 7 (exact rfl)); (first | exact patR_get (by assumption) | exact valR_get (by assumption) | exact row_map (by assumption) | assumption)) | (apply s_lss_t; (iterate 5 (exact rfl)); omega) | (apply s_addV ((k + 1 : Nat) : Int); (iterate 5 (exact rfl)); omega) | (apply s_add; (iterate 6 (exact rfl))) | refine al_nil ?_ | refine q_then_n ?_ | refine q_blk_n ?_ | refine aw_block ?_ | refine aw_seq ?_ | refine aw_reg ?_ | refine aw_true rfl ?_ | refine aw_skip ?_)
        all_goals exact ⟨_, _, rfl, by omega, k + 1, _, rfl, by omega, rfl⟩
      · by_cases h40 : g.datas.length ≤ 40
        · have h100 : ¬ g.cons.length ≤ 100 := fun h => hsm ⟨h40, h⟩
          repeat' (first | refine s_op rfl ?_ | (apply s_skipV; (iterate 2 (exact rfl))) | (apply s_move; (iterate 4 (exact rfl))) | (apply s_fa_f tab_ok; (iterate 6 (exact rfl))) | (apply s_ld_f tab_ok; (iterate 6 (exact rfl))) | (apply s_assign; (iterate 4 (exact rfl))) | (apply s_pick_t; (iterate 5 (exact rfl))) | (apply s_pick_f; (iterate 5 (exact rfl))) | (apply s_len tab_ok; (iterate 5 (exact rfl))) | (apply s_lss_f; (iterate 5 (exact rfl)); omega) | (apply s_gtr_t; (iterate 5 (exact rfl)); omega) | (apply s_gtr_f; (iterate 5 (exact rfl)); omega) | refine al_nil ?_ | refine q_then_n ?_ | refine q_blk_e ?_ | refine q_then_e ?_ | refine aw_exit ?_ | refine aw_seq ?_ | refine aw_reg ?_ | refine aw_false rfl ?_ | refine aw_ret ?_)
          all_goals exact q_ret rfl ⟨_, rfl, _, rfl, fun e => by cases e⟩
        · repeat' (first | refine s_op rfl ?_ | (apply s_skipV; (iterate 2 (exact rfl))) | (apply s_move; (iterate 4 (exact rfl))) | (apply s_fa_f tab_ok; (iterate 6 (exact rfl))) | (apply s_ld_f tab_ok; (iterate 6 (exact rfl))) | (apply s_assign; (iterate 4 (exact rfl))) | (apply s_pick_t; (iterate 5 (exact rfl))) | (apply s_len tab_ok; (iterate 5 (exact rfl))) | (apply s_lss_f; (iterate 5 (exact rfl)); omega) | (apply s_gtr_t; (iterate 5 (exact rfl)); omega) | refine al_nil ?_ | refine q_then_n ?_ | refine q_blk_e ?_ | refine q_then_e ?_ | refine aw_exit ?_ | refine aw_seq ?_ | refine aw_reg ?_ | refine aw_false rfl ?_ | refine aw_ret ?_)
          all_goals exact q_ret rfl ⟨_, rfl, _, rfl, fun e => by cases e⟩
end Go.Proofs.Ytjflembhgjcgkaa
