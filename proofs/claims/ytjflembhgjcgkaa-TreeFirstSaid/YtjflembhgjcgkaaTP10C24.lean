/- C24: the law's small signature and its patterns; sizes (no more is said than that they return). -/
import Derived.Test.YtjflembhgjcgkaaTP10XM1M11C1
import Derived.Test.YtjflembhgjcgkaaTP10XM4M7M5
import Derived.Test.YtjflembhgjcgkaaTP10XAhAiAj
set_option linter.unusedSimpArgs false
set_option linter.unusedVariables false
namespace Go.Proofs.Ytjflembhgjcgkaa
open Go.RowKit

section
variable {P : Program} {T : Tab} {Z : TabZ} {nt : Nat} {Q : Exit → Fr → List AObj → Prop} {fr : Fr} {σ σ' : List AObj} {ops : Array Oper} {dr : Bool} {dos ends : List Nat} {l : Trr} {i d : Nat} {o : Oper}
variable {dst : Option Tmp} {op : Op} {ty : TypeId} {pos : String} {aft : Array Edge} {gd : Option (Nat × Bool)}
theorem rd_quo {t t' : TypeId} {a b : Operand} {k : IntKind} {m n : Int} (ho : o.op = .binOp .quo t a b t') (ha : aget fr a = .d (.v (.int k m))) (hb : aget fr b = .d (.v (.int k n))) (hn : n ≠ 0) : RdOp P o fr σ (.d (.v (.int k (k.wrap (m.tdiv n))))) := by
  intro x c nt A w s
  have h1 := s.arg a
  have h2 := s.arg b
  rw [ha] at h1
  rw [hb] at h2
  obtain ⟨e1, _⟩ := h1
  obtain ⟨e2, _⟩ := h2
  refine ⟨_, ⟨rfl, rfl⟩, fun w' _ => ?_⟩
  unfold execOp
  simp [ho, e1, e2, eqGuard, binOp, Op.intDiv, hn]
theorem s_quo {t t' : TypeId} {a b : Operand} {k : IntKind} {m n : Int} (hp : dr = dr) (hg : guardB ops fr gd = some true) (ht : Nat.blt d nt = true) (ha : aget fr a = .d (.v (.int k m))) (hb : aget fr b = .d (.v (.int k n))) (hv : n ≠ 0) (h : AL P nt ops dr dos ends l Q ((d, .d (.v (.int k (k.wrap (m.tdiv n))))) :: fr) σ) : ALo P nt ops dr dos ends i ⟨some d, .binOp .quo t a b t', ty, pos, aft, gd⟩ l Q fr σ :=
  ⟨fun ho => s_read ho hp hg ht (rd_quo rfl ha hb hv) h⟩
end

def tyRow (k n : Int) : List DV := [.v (.int .u8 k), .v (.int .i64 n), .v (.int .i64 0), .v (.int .u8 0), .nil]
def u8Row (k : Int) : List DV := [.v (.int .u8 k)]
def smallG : Sg := ⟨[⟨⟨#[66, 111, 111, 108]⟩, 0, [0, 1]⟩, ⟨⟨#[76, 105, 115, 116]⟩, 0, [2, 3]⟩], [⟨⟨#[70, 97, 108, 115, 101]⟩, 0, [], []⟩, ⟨⟨#[84, 114, 117, 101]⟩, 0, [], []⟩, ⟨⟨#[78, 105, 108]⟩, 1, [], []⟩, ⟨⟨#[67, 111, 110, 115]⟩, 1, [tyRow 2 0, tyRow 8 1], [u8Row 1, u8Row 1]⟩]⟩

/-! Sizes: they return a number. -/
set_option maxRecDepth 100000 in
theorem size_c : ∀ p : Pat, p.small 9223372036854775807 → ∀ d : Int, RunsP Try.prog 17 [patsD p.l, .v (.int .i64 d)] (fun v => ∃ z : Int, v = .v (.int .i64 z)) := by
  refine rec_pat fun k0 n0 i0 s0 a0 b0 c0 l ih hp d => ?_
  have hl : l.length ≤ 9223372036854775807 := hp.1
  have e1 := patR_len l
  simp only [Pat.l]
  refine enterP 39 Try.func17 rfl (by kernel_rfl) rfl rfl rfl ?_
  repeat' (first | refine s_op rfl ?_ | (apply s_assign; (iterate 4 (exact rfl))) | refine al_nil ?_ | refine q_then_n ?_ | refine aw_block ?_ | refine aw_seq ?_ | refine aw_reg ?_)
  refine w_loop [0, 1, 5, 6] (fun n' vs σ => ∃ (k : Nat) (n : Int), vs = [.d (patsD l), .d (.v (.int .i64 d)), .d (.v (.int .i64 n)), .d (.v (.int .i64 (k : Int)))] ∧ σ = [] ∧ k ≤ l.length ∧ n' = l.length - k) rfl ⟨0, 0, rfl, rfl, by omega, rfl⟩ ?_
  rintro n' vs σ ⟨k, n, rfl, rfl, hk, rfl⟩ fr hfr
  cases hfr
  by_cases hlt : k < l.length
  · by_cases hn : n ≤ 9000
    · obtain ⟨q, hq⟩ := getS hlt
      have hi := ih q (List.mem_of_getElem? hq) (Pat.small_get hp hq) (IntKind.wrap .i64 (d + 1))
      obtain ⟨qk, qn, qi, qs, qa, qb, qc, ql⟩ := q
      simp only [Pat.l] at hi
      repeat' (first | refine s_op rfl ?_ | (apply s_move; (iterate 4 (exact rfl))) | (apply s_fa_f tab_ok; (iterate 6 (exact rfl))) | (apply s_ld_f tab_ok; (iterate 6 (exact rfl))) | (apply s_assign; (iterate 4 (exact rfl))) | (apply s_pick_t; (iterate 5 (exact rfl))) | (apply s_len tab_ok; (iterate 5 (exact rfl))) | (apply s_lens str_ok; (iterate 4 (exact rfl))) | (apply s_idx tab_ok; (iterate 7 (exact rfl)); (first | exact patR_get (by assumption) | exact valR_get (by assumption) | exact row_map (by assumption) | assumption)) | (apply s_lss_t; (iterate 5 (exact rfl)); omega) | (apply s_leq_t; (iterate 5 (exact rfl)); omega) | (apply s_call; (iterate 6 (exact rfl)); exact hi; rintro _ ⟨z, rfl⟩) | (apply s_addV ((k + 1 : Nat) : Int); (iterate 5 (exact rfl)); omega) | (apply s_add; (iterate 6 (exact rfl))) | (apply s_quo; (iterate 5 (exact rfl)); decide) | refine al_nil ?_ | refine q_then_n ?_ | refine q_blk_n ?_ | refine aw_block ?_ | refine aw_seq ?_ | refine aw_reg ?_ | refine aw_true rfl ?_ | refine aw_skip ?_ | refine aw_draws (id := 5) (trO [0, 1, 2, 3, 4, 5, 6, 7, 8, 9, 10, 11, 12, 13, 14, 15, 16, 17, 18, 19] .nil) [17] [] mixed_ok (by kernel_rfl) ?_)
      exact ⟨_, _, rfl, by omega, k + 1, _, rfl, rfl, by omega, rfl⟩
    · by_cases hd : d > 100
      · repeat' (first | refine s_op rfl ?_ | (apply s_move; (iterate 4 (exact rfl))) | (apply s_assign; (iterate 4 (exact rfl))) | (apply s_pick_t; (iterate 5 (exact rfl))) | (apply s_len tab_ok; (iterate 5 (exact rfl))) | (apply s_lss_t; (iterate 5 (exact rfl)); omega) | (apply s_gtr_t; (iterate 5 (exact rfl)); omega) | (apply s_leq_f; (iterate 5 (exact rfl)); omega) | refine al_nil ?_ | refine q_then_n ?_ | refine q_blk_e ?_ | refine q_then_e ?_ | refine aw_exit ?_ | refine q_then_r ?_ | refine aw_seq ?_ | refine aw_reg ?_ | refine aw_true rfl ?_ | refine aw_false rfl ?_ | refine aw_ret ?_)
        exact q_ret rfl ⟨_, rfl, _, rfl⟩
      · repeat' (first | refine s_op rfl ?_ | (apply s_move; (iterate 4 (exact rfl))) | (apply s_assign; (iterate 4 (exact rfl))) | (apply s_pick_t; (iterate 5 (exact rfl))) | (apply s_len tab_ok; (iterate 5 (exact rfl))) | (apply s_lss_t; (iterate 5 (exact rfl)); omega) | (apply s_gtr_f; (iterate 5 (exact rfl)); omega) | (apply s_leq_f; (iterate 5 (exact rfl)); omega) | refine al_nil ?_ | refine q_then_n ?_ | refine q_blk_e ?_ | refine q_then_e ?_ | refine aw_exit ?_ | refine aw_seq ?_ | refine aw_reg ?_ | refine aw_false rfl ?_ | refine aw_skip ?_ | refine aw_ret ?_)
        exact q_ret rfl ⟨_, rfl, _, rfl⟩
  · by_cases hd : d > 100
    · repeat' (first | refine s_op rfl ?_ | (apply s_skipV; (iterate 2 (exact rfl))) | (apply s_move; (iterate 4 (exact rfl))) | (apply s_assign; (iterate 4 (exact rfl))) | (apply s_pick_f; (iterate 5 (exact rfl))) | (apply s_len tab_ok; (iterate 5 (exact rfl))) | (apply s_lss_f; (iterate 5 (exact rfl)); omega) | (apply s_gtr_t; (iterate 5 (exact rfl)); omega) | refine al_nil ?_ | refine q_then_n ?_ | refine q_blk_e ?_ | refine q_then_e ?_ | refine aw_exit ?_ | refine q_then_r ?_ | refine aw_seq ?_ | refine aw_reg ?_ | refine aw_true rfl ?_ | refine aw_false rfl ?_ | refine aw_ret ?_)
      exact q_ret rfl ⟨_, rfl, _, rfl⟩
    · repeat' (first | refine s_op rfl ?_ | (apply s_skipV; (iterate 2 (exact rfl))) | (apply s_move; (iterate 4 (exact rfl))) | (apply s_assign; (iterate 4 (exact rfl))) | (apply s_pick_f; (iterate 5 (exact rfl))) | (apply s_len tab_ok; (iterate 5 (exact rfl))) | (apply s_lss_f; (iterate 5 (exact rfl)); omega) | (apply s_gtr_f; (iterate 5 (exact rfl)); omega) | refine al_nil ?_ | refine q_then_n ?_ | refine q_blk_e ?_ | refine q_then_e ?_ | refine aw_exit ?_ | refine aw_seq ?_ | refine aw_reg ?_ | refine aw_false rfl ?_ | refine aw_skip ?_ | refine aw_ret ?_)
      exact q_ret rfl ⟨_, rfl, _, rfl⟩

theorem rec_val {motive : Val → Prop} (step : ∀ k n s l, (∀ p ∈ l, motive p) → motive (.mk k n s l)) : ∀ p, motive p := by
  intro p
  refine Val.rec (motive_1 := motive) (motive_2 := fun l => ∀ p ∈ l, motive p) ?_ ?_ ?_ p
  · exact fun k n s l ih => step k n s l ih
  · intro p hp; cases hp
  · intro a l ha hl p hp
    rcases List.mem_cons.1 hp with rfl | h
    · exact ha
    · exact hl p h
set_option maxRecDepth 100000 in
theorem sizeVal_c : ∀ p : Val, p.small 9223372036854775807 → ∀ d : Int, RunsP Try.prog 31 [.agg (valD p), .v (.int .i64 d)] (fun v => ∃ z : Int, v = .v (.int .i64 z)) := by
  refine rec_val fun vk vn vs l ih hp d => ?_
  have hl : l.length ≤ 9223372036854775807 := hp.1
  have e1 := valR_len l
  refine enterP 31 Try.func31 rfl (by kernel_rfl) rfl rfl rfl ?_
  by_cases hd : d > 200
  · repeat' (first | refine s_op rfl ?_ | (apply s_move; (iterate 4 (exact rfl))) | (apply s_assign; (iterate 4 (exact rfl))) | (apply s_boxZ; (iterate 5 (exact rfl)); first | exact rfl | exact allD_mapd _) | (apply s_gtr_t; (iterate 5 (exact rfl)); omega) | refine al_nil ?_ | refine q_then_n ?_ | refine q_then_r ?_ | refine aw_seq ?_ | refine aw_reg ?_ | refine aw_true rfl ?_ | refine aw_ret ?_)
    exact q_ret rfl ⟨_, rfl, _, rfl⟩
  repeat' (first | refine s_op rfl ?_ | (apply s_move; (iterate 4 (exact rfl))) | (apply s_assign; (iterate 4 (exact rfl))) | (apply s_boxZ; (iterate 5 (exact rfl)); first | exact rfl | exact allD_mapd _) | (apply s_gtr_f; (iterate 5 (exact rfl)); omega) | refine al_nil ?_ | refine q_then_n ?_ | refine aw_block ?_ | refine aw_seq ?_ | refine aw_reg ?_ | refine aw_false rfl ?_ | refine aw_skip ?_)
  refine w_loop [1, 2, 5, 6] (fun n' vs' σ => ∃ (k : Nat) (n : Int), vs' = [.d (.v (.int .i64 d)), .d (.fptr (valD (.mk vk vn vs l))), .d (.v (.int .i64 n)), .d (.v (.int .i64 (k : Int)))] ∧ σ = [] ∧ k ≤ l.length ∧ n' = l.length - k) rfl ⟨0, 1, rfl, rfl, by omega, rfl⟩ ?_
  rintro n' vs' σ ⟨k, n, rfl, rfl, hk, rfl⟩ fr hfr
  cases hfr
  by_cases hlt : k < l.length
  · by_cases hn : n ≤ 9000
    · obtain ⟨q, hq⟩ := getS hlt
      have hi := ih q (List.mem_of_getElem? hq) (Val.small_get hp hq) (IntKind.wrap .i64 (d + 1))
      repeat' (first | refine s_op rfl ?_ | (apply s_move; (iterate 4 (exact rfl))) | (apply s_fa_f tab_ok; (iterate 6 (exact rfl))) | (apply s_ld_f tab_ok; (iterate 6 (exact rfl))) | (apply s_ld_w tab_ok; (iterate 5 (exact rfl)); (first | exact patD_len _ | exact valD_len _)) | (apply s_assign; (iterate 4 (exact rfl))) | (apply s_pick_t; (iterate 5 (exact rfl))) | (apply s_len tab_ok; (iterate 5 (exact rfl))) | (apply s_idx tab_ok; (iterate 7 (exact rfl)); (first | exact patR_get (by assumption) | exact valR_get (by assumption) | exact row_map (by assumption) | assumption)) | (apply s_lss_t; (iterate 5 (exact rfl)); omega) | (apply s_leq_t; (iterate 5 (exact rfl)); omega) | (apply s_call; (iterate 6 (exact rfl)); exact hi; rintro _ ⟨z, rfl⟩) | (apply s_addV ((k + 1 : Nat) : Int); (iterate 5 (exact rfl)); omega) | (apply s_add; (iterate 6 (exact rfl))) | refine al_nil ?_ | refine q_then_n ?_ | refine q_blk_n ?_ | refine aw_block ?_ | refine aw_seq ?_ | refine aw_reg ?_ | refine aw_true rfl ?_ | refine aw_skip ?_)
      exact ⟨_, _, rfl, by omega, k + 1, _, rfl, rfl, by omega, rfl⟩
    · repeat' (first | refine s_op rfl ?_ | (apply s_move; (iterate 4 (exact rfl))) | (apply s_fa_f tab_ok; (iterate 6 (exact rfl))) | (apply s_ld_f tab_ok; (iterate 6 (exact rfl))) | (apply s_assign; (iterate 4 (exact rfl))) | (apply s_pick_t; (iterate 5 (exact rfl))) | (apply s_len tab_ok; (iterate 5 (exact rfl))) | (apply s_lss_t; (iterate 5 (exact rfl)); omega) | (apply s_leq_f; (iterate 5 (exact rfl)); omega) | refine al_nil ?_ | refine q_then_n ?_ | refine q_blk_e ?_ | refine q_then_e ?_ | refine aw_exit ?_ | refine aw_seq ?_ | refine aw_reg ?_ | refine aw_false rfl ?_ | refine aw_ret ?_)
      exact q_ret rfl ⟨_, rfl, _, rfl⟩
  · repeat' (first | refine s_op rfl ?_ | (apply s_skipV; (iterate 2 (exact rfl))) | (apply s_move; (iterate 4 (exact rfl))) | (apply s_fa_f tab_ok; (iterate 6 (exact rfl))) | (apply s_ld_f tab_ok; (iterate 6 (exact rfl))) | (apply s_assign; (iterate 4 (exact rfl))) | (apply s_pick_f; (iterate 5 (exact rfl))) | (apply s_len tab_ok; (iterate 5 (exact rfl))) | (apply s_lss_f; (iterate 5 (exact rfl)); omega) | refine al_nil ?_ | refine q_then_n ?_ | refine q_blk_e ?_ | refine q_then_e ?_ | refine aw_exit ?_ | refine aw_seq ?_ | refine aw_reg ?_ | refine aw_false rfl ?_ | refine aw_ret ?_)
    exact q_ret rfl ⟨_, rfl, _, rfl⟩
end Go.Proofs.Ytjflembhgjcgkaa
