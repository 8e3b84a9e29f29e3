/- C26: CoverFits' walk. -/
import Derived.Test.YtjflembhgjcgkaaC5
import Derived.Test.YtjflembhgjcgkaaC6
import Derived.Test.YtjflembhgjcgkaaC8
import Derived.Test.YtjflembhgjcgkaaC9
import Derived.Test.YtjflembhgjcgkaaC24
set_option linter.unusedSimpArgs false
set_option linter.unusedVariables false
-- ALLUNDEF -- BOXZ
namespace Go.Proofs.Ytjflembhgjcgkaa
open Go.RowKit

set_option maxRecDepth 100000 in
set_option maxHeartbeats 4000000 in
theorem coverFits_c (hkn : RunsP Try.prog 21 [] (fun v => v = .v (.bool true))) (p q : Pat) (v : Val) (hp : p.small 9223372036854775807) (hq : q.small 9223372036854775807) (hv : v.small 9223372036854775807) : RunsP Try.prog 8 [.agg (patD p), .agg (patD q), .agg (valD v)] (fun r => r = .v (.bool true)) := by
  have h1 := fits_c _ (Nat.le_refl _) p hp v hv
  have h2 := rfits_c _ (Nat.le_refl _) p hp v hv
  have h3 := apart_c _ (Nat.le_refl _) p hp q hq
  have h4 := rapart_c _ (Nat.le_refl _) p hp q hq
  have s1 := size_c (.mk 0 0 0 ⟨#[]⟩ 0 0 0 [p, q]) ⟨by simp, by simp [maxLen, ByteArray.size], hp, hq, trivial⟩ 0
  have s2 := sizeVal_c v hv 0
  clear hp hq hv
  generalize fitsB p v = b1 at h1 h2
  generalize apartB p q = b2 at h3 h4
  obtain ⟨pk, pn, pi, ps, pa, pb, pc, pl⟩ := p
  obtain ⟨qk, qn, qi, qs, qa, qb, qc, ql⟩ := q
  obtain ⟨vk, vn, vs, vl⟩ := v
  simp only [Pat.l] at s1
  refine enterPB 35 tab_ok Try.func8 rfl (by kernel_rfl) rfl rfl rfl ?_
  cases b1 <;> cases b2
  · repeat' (first
      | refine s_op rfl ?_ | (apply s_skipV; (iterate 2 (exact rfl))) | (apply s_skipU; (iterate 3 (exact rfl))) | (apply s_move; (iterate 4 (exact rfl))) | (apply s_ld_p tab_ok; (iterate 7 (exact rfl)))
      | (apply s_ld_f tab_ok; (iterate 6 (exact rfl))) | (apply s_ld_w tab_ok; (iterate 5 (exact rfl)); (first | exact patD_len _ | exact valD_len _)) | (apply s_assign; (iterate 4 (exact rfl))) | (apply s_pick_t; (iterate 5 (exact rfl))) | (apply s_pick_f; (iterate 5 (exact rfl)))
      | (apply s_boxZ; (iterate 5 (exact rfl)); first | exact rfl | exact allD_mapd _) | (apply s_lit tab_ok tabZ_ok; (iterate 10 (exact rfl))) | (apply s_lit1 tab_ok tabZ_ok; (iterate 9 (exact rfl)); (first | exact patD_len _ | exact valD_len _)) | (apply s_not_t; (iterate 4 (exact rfl))) | (apply s_not_f; (iterate 4 (exact rfl)))
      | (apply s_not; (iterate 4 (exact rfl))) | (apply s_eql_t; (iterate 5 (exact rfl)); omega) | (apply s_eql_f; (iterate 5 (exact rfl)); omega) | (apply s_gtr_t; (iterate 5 (exact rfl)); omega) | (apply s_gtr_f; (iterate 5 (exact rfl)); omega)
      | (apply s_booleq bool_ok; (iterate 5 (exact rfl)))
      | (apply s_call; (iterate 6 (exact rfl)); exact s1; rintro _ ⟨z, rfl⟩)
      | (apply s_call; (iterate 6 (exact rfl)); exact s2; rintro _ ⟨z2, rfl⟩)
      | (apply s_eqlS; (iterate 5 (exact rfl)); all_goals intro _)
      | (apply s_gtrS; (iterate 5 (exact rfl)); all_goals intro _)
      | (apply s_call; (iterate 6 (exact rfl)); first | (exact hkn; rintro _ rfl) | (exact h1; rintro _ rfl) | (exact h2; rintro _ rfl) | (exact h3; rintro _ rfl) | (exact h4; rintro _ rfl))
      | refine al_nil ?_ | refine q_then_n ?_ | refine q_then_r ?_ | refine aw_seq ?_ | refine aw_reg ?_
      | refine aw_true rfl ?_ | refine aw_false rfl ?_ | refine aw_skip ?_ | refine aw_ret ?_ | refine al_fork ?_ ?_
      | refine al_fork3 ?_ ?_ ?_
      | refine aw_draws (id := 5) (trO [0, 1, 3, 4, 2, 5, 6, 7, 8, 9, 11, 12, 10, 13, 14, 15, 16] .nil) [2, 5, 10, 13] [] mixed_ok (by kernel_rfl) ?_)
    all_goals exact q_retB (resB_1 rfl (resV_t rfl)) ⟨_, rfl, rfl⟩
  · repeat' (first
      | refine s_op rfl ?_ | (apply s_skipV; (iterate 2 (exact rfl))) | (apply s_skipU; (iterate 3 (exact rfl))) | (apply s_move; (iterate 4 (exact rfl))) | (apply s_ld_p tab_ok; (iterate 7 (exact rfl)))
      | (apply s_ld_f tab_ok; (iterate 6 (exact rfl))) | (apply s_ld_w tab_ok; (iterate 5 (exact rfl)); (first | exact patD_len _ | exact valD_len _)) | (apply s_assign; (iterate 4 (exact rfl))) | (apply s_pick_t; (iterate 5 (exact rfl))) | (apply s_pick_f; (iterate 5 (exact rfl)))
      | (apply s_boxZ; (iterate 5 (exact rfl)); first | exact rfl | exact allD_mapd _) | (apply s_lit tab_ok tabZ_ok; (iterate 10 (exact rfl))) | (apply s_lit1 tab_ok tabZ_ok; (iterate 9 (exact rfl)); (first | exact patD_len _ | exact valD_len _)) | (apply s_not_t; (iterate 4 (exact rfl))) | (apply s_not_f; (iterate 4 (exact rfl)))
      | (apply s_not; (iterate 4 (exact rfl))) | (apply s_eql_t; (iterate 5 (exact rfl)); omega) | (apply s_eql_f; (iterate 5 (exact rfl)); omega) | (apply s_gtr_t; (iterate 5 (exact rfl)); omega) | (apply s_gtr_f; (iterate 5 (exact rfl)); omega)
      | (apply s_booleq bool_ok; (iterate 5 (exact rfl)))
      | (apply s_call; (iterate 6 (exact rfl)); exact s1; rintro _ ⟨z, rfl⟩)
      | (apply s_call; (iterate 6 (exact rfl)); exact s2; rintro _ ⟨z2, rfl⟩)
      | (apply s_eqlS; (iterate 5 (exact rfl)); all_goals intro _)
      | (apply s_gtrS; (iterate 5 (exact rfl)); all_goals intro _)
      | (apply s_call; (iterate 6 (exact rfl)); first | (exact hkn; rintro _ rfl) | (exact h1; rintro _ rfl) | (exact h2; rintro _ rfl) | (exact h3; rintro _ rfl) | (exact h4; rintro _ rfl))
      | refine al_nil ?_ | refine q_then_n ?_ | refine q_then_r ?_ | refine aw_seq ?_ | refine aw_reg ?_
      | refine aw_true rfl ?_ | refine aw_false rfl ?_ | refine aw_skip ?_ | refine aw_ret ?_ | refine al_fork ?_ ?_
      | refine al_fork3 ?_ ?_ ?_
      | refine aw_draws (id := 5) (trO [0, 1, 3, 4, 2, 5, 6, 7, 8, 9, 11, 12, 10, 13, 14, 15, 16] .nil) [2, 5, 10, 13] [] mixed_ok (by kernel_rfl) ?_)
    all_goals exact q_retB (resB_1 rfl (resV_t rfl)) ⟨_, rfl, rfl⟩
  · repeat' (first
      | refine s_op rfl ?_ | (apply s_skipV; (iterate 2 (exact rfl))) | (apply s_skipU; (iterate 3 (exact rfl))) | (apply s_move; (iterate 4 (exact rfl))) | (apply s_ld_p tab_ok; (iterate 7 (exact rfl)))
      | (apply s_ld_f tab_ok; (iterate 6 (exact rfl))) | (apply s_ld_w tab_ok; (iterate 5 (exact rfl)); (first | exact patD_len _ | exact valD_len _)) | (apply s_assign; (iterate 4 (exact rfl))) | (apply s_pick_t; (iterate 5 (exact rfl))) | (apply s_pick_f; (iterate 5 (exact rfl)))
      | (apply s_boxZ; (iterate 5 (exact rfl)); first | exact rfl | exact allD_mapd _) | (apply s_lit tab_ok tabZ_ok; (iterate 10 (exact rfl))) | (apply s_lit1 tab_ok tabZ_ok; (iterate 9 (exact rfl)); (first | exact patD_len _ | exact valD_len _)) | (apply s_not_t; (iterate 4 (exact rfl))) | (apply s_not_f; (iterate 4 (exact rfl)))
      | (apply s_not; (iterate 4 (exact rfl))) | (apply s_eql_t; (iterate 5 (exact rfl)); omega) | (apply s_eql_f; (iterate 5 (exact rfl)); omega) | (apply s_gtr_t; (iterate 5 (exact rfl)); omega) | (apply s_gtr_f; (iterate 5 (exact rfl)); omega)
      | (apply s_booleq bool_ok; (iterate 5 (exact rfl)))
      | (apply s_call; (iterate 6 (exact rfl)); exact s1; rintro _ ⟨z, rfl⟩)
      | (apply s_call; (iterate 6 (exact rfl)); exact s2; rintro _ ⟨z2, rfl⟩)
      | (apply s_eqlS; (iterate 5 (exact rfl)); all_goals intro _)
      | (apply s_gtrS; (iterate 5 (exact rfl)); all_goals intro _)
      | (apply s_call; (iterate 6 (exact rfl)); first | (exact hkn; rintro _ rfl) | (exact h1; rintro _ rfl) | (exact h2; rintro _ rfl) | (exact h3; rintro _ rfl) | (exact h4; rintro _ rfl))
      | refine al_nil ?_ | refine q_then_n ?_ | refine q_then_r ?_ | refine aw_seq ?_ | refine aw_reg ?_
      | refine aw_true rfl ?_ | refine aw_false rfl ?_ | refine aw_skip ?_ | refine aw_ret ?_ | refine al_fork ?_ ?_
      | refine al_fork3 ?_ ?_ ?_
      | refine aw_draws (id := 5) (trO [0, 1, 3, 4, 2, 5, 6, 7, 8, 9, 11, 12, 10, 13, 14, 15, 16] .nil) [2, 5, 10, 13] [] mixed_ok (by kernel_rfl) ?_)
    all_goals exact q_retB (resB_1 rfl (resV_t rfl)) ⟨_, rfl, rfl⟩
  · repeat' (first
      | refine s_op rfl ?_ | (apply s_skipV; (iterate 2 (exact rfl))) | (apply s_skipU; (iterate 3 (exact rfl))) | (apply s_move; (iterate 4 (exact rfl))) | (apply s_ld_p tab_ok; (iterate 7 (exact rfl)))
      | (apply s_ld_f tab_ok; (iterate 6 (exact rfl))) | (apply s_ld_w tab_ok; (iterate 5 (exact rfl)); (first | exact patD_len _ | exact valD_len _)) | (apply s_assign; (iterate 4 (exact rfl))) | (apply s_pick_t; (iterate 5 (exact rfl))) | (apply s_pick_f; (iterate 5 (exact rfl)))
      | (apply s_boxZ; (iterate 5 (exact rfl)); first | exact rfl | exact allD_mapd _) | (apply s_lit tab_ok tabZ_ok; (iterate 10 (exact rfl))) | (apply s_lit1 tab_ok tabZ_ok; (iterate 9 (exact rfl)); (first | exact patD_len _ | exact valD_len _)) | (apply s_not_t; (iterate 4 (exact rfl))) | (apply s_not_f; (iterate 4 (exact rfl)))
      | (apply s_not; (iterate 4 (exact rfl))) | (apply s_eql_t; (iterate 5 (exact rfl)); omega) | (apply s_eql_f; (iterate 5 (exact rfl)); omega) | (apply s_gtr_t; (iterate 5 (exact rfl)); omega) | (apply s_gtr_f; (iterate 5 (exact rfl)); omega)
      | (apply s_booleq bool_ok; (iterate 5 (exact rfl)))
      | (apply s_call; (iterate 6 (exact rfl)); exact s1; rintro _ ⟨z, rfl⟩)
      | (apply s_call; (iterate 6 (exact rfl)); exact s2; rintro _ ⟨z2, rfl⟩)
      | (apply s_eqlS; (iterate 5 (exact rfl)); all_goals intro _)
      | (apply s_gtrS; (iterate 5 (exact rfl)); all_goals intro _)
      | (apply s_call; (iterate 6 (exact rfl)); first | (exact hkn; rintro _ rfl) | (exact h1; rintro _ rfl) | (exact h2; rintro _ rfl) | (exact h3; rintro _ rfl) | (exact h4; rintro _ rfl))
      | refine al_nil ?_ | refine q_then_n ?_ | refine q_then_r ?_ | refine aw_seq ?_ | refine aw_reg ?_
      | refine aw_true rfl ?_ | refine aw_false rfl ?_ | refine aw_skip ?_ | refine aw_ret ?_ | refine al_fork ?_ ?_
      | refine al_fork3 ?_ ?_ ?_
      | refine aw_draws (id := 5) (trO [0, 1, 3, 4, 2, 5, 6, 7, 8, 9, 11, 12, 10, 13, 14, 15, 16] .nil) [2, 5, 10, 13] [] mixed_ok (by kernel_rfl) ?_)
    all_goals exact q_retB (resB_1 rfl (resV_t rfl)) ⟨_, rfl, rfl⟩
end Go.Proofs.Ytjflembhgjcgkaa
