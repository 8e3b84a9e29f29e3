/- N55: CellTrees: the heads. -/
import Derived.Test.YtciciaikajdenaaQN27
import Derived.Test.YtciciaikajdenaaQNZ
import Derived.Test.YtciciaikajdenaaQN54
import Derived.Test.YtciciaikajdenaaQNVx2
set_option linter.unusedSimpArgs false
set_option linter.unusedVariables false
namespace Go.Proofs.Ytciciaikajdenaa
open Go.RowKit

section
set_option maxRecDepth 100000 in
set_option maxHeartbeats 16000000 in
theorem cellTrees_w (kn : Known) (l : List ADo) (r : Int) (hl : l.length ≤ 140737488355328) (hlow : ∀ x ∈ l, x.low) :
    RunsP Try.prog 8 [.v (.int .i64 r), .lst 14 (dosR l)] (fun v => v = .v (.bool true)) := by
  have hh := heavy_c52 l hl hlow
  by_cases hr : 0 ≤ r ∧ r ≤ 100000
  · obtain ⟨hr0, hr1⟩ := hr
    have b0 : NewH r (.new r) := new_m hr0 hr1
    unfold Known NewH at *
    refine enterPB 246 tab_ok Try.func8 rfl (by kernel_rfl) rfl rfl rfl ?_
    repeat' (first
      | refine s_op rfl ?_ | (apply s_skipV; (iterate 2 (exact rfl))) | (apply s_skipU; (iterate 3 (exact rfl))) | (apply s_move; (iterate 4 (exact rfl))) | (apply s_fa_p tab_ok; (iterate 5 (exact rfl)))
      | (apply s_fa_f tab_ok; (iterate 6 (exact rfl))) | (apply s_ld_p tab_ok; (iterate 7 (exact rfl))) | (apply s_ld_f tab_ok; (iterate 6 (exact rfl))) | (apply s_ld_w tab_ok; (iterate 5 (exact rfl)); (first | exact valD_len _ | exact wordD_len _)) | (apply s_assign; (iterate 4 (exact rfl)))
      | (apply s_pick_t; (iterate 5 (exact rfl))) | (apply s_pick_f; (iterate 5 (exact rfl))) | (apply s_len tab_ok; (iterate 5 (exact rfl))) | (apply s_lens str_ok; (iterate 4 (exact rfl))) | (apply s_idx tab_ok; (iterate 7 (exact rfl)); (first | exact valR_get (by assumption) | exact wordsR_get (by assumption) | assumption))
      | (apply s_slice tab_ok; (iterate 8 (exact rfl)); (simp; omega)) | (apply s_ext; (iterate 5 (exact rfl))) | (apply s_build tabZ_ok; (iterate 5 (exact rfl))) | (apply s_alloc tabZ_ok; (iterate 7 (exact rfl))) | (apply s_store tab_ok; (iterate 10 (exact rfl)))
      | (apply s_lit tab_ok tabZ_ok; (iterate 10 (exact rfl))) | (apply s_lit1 tab_ok tabZ_ok; (iterate 9 (exact rfl)); (first | exact valD_len _ | exact wordD_len _)) | (apply s_app tab_ok tabZ_ok; (iterate 13 (exact rfl)); (first | (simp; done) | (simp; omega))) | (apply s_not_t; (iterate 4 (exact rfl))) | (apply s_not_f; (iterate 4 (exact rfl)))
      | (apply s_not; (iterate 4 (exact rfl))) | (apply s_eql_t; (iterate 5 (exact rfl)); omega) | (apply s_eql_f; (iterate 5 (exact rfl)); omega) | (apply s_neq_t; (iterate 5 (exact rfl)); omega) | (apply s_neq_f; (iterate 5 (exact rfl)); omega)
      | (apply s_lss_t; (iterate 5 (exact rfl)); omega) | (apply s_lss_f; (iterate 5 (exact rfl)); omega) | (apply s_gtr_t; (iterate 5 (exact rfl)); omega) | (apply s_gtr_f; (iterate 5 (exact rfl)); omega) | (apply s_add64; (iterate 5 (exact rfl)); omega)
      | (apply s_sub64; (iterate 5 (exact rfl)); omega)
      | (refine w_keep [1, 5, 7, 8, 9, 10] rfl rfl ?_; exact trees_loop hr0 hr1 hlow (hb rfl) hH rfl)
      | (apply s_callS; (iterate 6 (exact rfl)); exact kn _; rintro _ σ1 ⟨rfl, hk2⟩; clear hk2)
      | (apply s_call; (iterate 6 (exact rfl)); exact hh; rintro _ ⟨b, rfl, hb⟩; cases b)
      | (apply s_callS; (iterate 6 (exact rfl)); exact b0 _; rintro _ σ1 ⟨locH, rfl, hc⟩; (try (have nOH := hc.ne hO)); (try (replace hO := hc.keep hO)); (try (have nAH := hc.ne hA)); (try (replace hA := hc.keep hA)); (try (have nWH := hc.ne hW)); (try (replace hW := hc.keep hW)); (try (have nUH := hc.ne hU)); (try (replace hU := hc.keep hU)); have hH := hc.at'; clear hc)
      | (apply s_call; (iterate 6 (exact rfl)); first | (exact world_new; rintro _ rfl))
      | refine al_nil ?_ | refine q_then_n ?_ | refine q_blk_n ?_ | refine q_blk_r ?_ | refine q_blk_e ?_
      | refine q_blk_o rfl ?_ | refine q_then_e ?_ | refine aw_block ?_ | refine aw_exit ?_ | refine q_then_r ?_
      | refine aw_seq ?_ | refine aw_reg ?_ | refine aw_true rfl ?_ | refine aw_false rfl ?_ | refine aw_skip ?_
      | refine aw_ret ?_ | refine al_fork ?_ ?_ | refine al_fork3 ?_ ?_ ?_
      | refine aw_draws (id := 23) (trO [0, 1, 4, 5] (.fork 2 (.fork 3 (trO [6, 7, 8, 9, 10] .nil) 6 (.fork 3 (trO [7, 8, 9, 10] .nil) 7 (trO [3, 8, 9, 10] .nil))) 6 (.fork 2 (.fork 3 (trO [7, 8, 9, 10] .nil) 7 (trO [3, 8, 9, 10] .nil)) 7 (trO [2, 3, 8, 9, 10] .nil)))) [2, 3, 6, 7, 8] [3, 8] mixed_ok (by kernel_rfl) ?_
      | refine aw_draws (id := 29) (trO [0, 1, 4, 5, 6, 7] (.fork 2 (.fork 3 (trO [8, 9, 10, 11, 12] .nil) 8 (.fork 3 (trO [9, 10, 11, 12] .nil) 9 (trO [3, 10, 11, 12] .nil))) 8 (.fork 2 (.fork 3 (trO [9, 10, 11, 12] .nil) 9 (trO [3, 10, 11, 12] .nil)) 9 (trO [2, 3, 10, 11, 12] .nil)))) [2, 3, 8, 9, 10] [3, 10] mixed_ok (by kernel_rfl) ?_
      | refine aw_draws (id := 36) (trO [0, 1, 2, 3, 4, 5, 6, 7, 9, 10, 11, 12, 13, 14, 15, 16, 8, 17, 18, 19] .nil) [8, 17] [8, 17] mixed_ok (by kernel_rfl) ?_
      | refine aw_draws (id := 42) (trO [0, 1, 2, 3, 4, 5, 6, 7, 8, 9, 10] .nil) [8] [] mixed_ok (by kernel_rfl) ?_)
    all_goals exact q_retB (resB_1 rfl (resV_t rfl)) ⟨_, rfl, rfl⟩
  · have b0 := fun σ => new_n (σ := σ) (room := r) (by omega)
    unfold Known at kn
    refine enterPB 246 tab_ok Try.func8 rfl (by kernel_rfl) rfl rfl rfl ?_
    repeat' (first
      | refine s_op rfl ?_ | (apply s_skipV; (iterate 2 (exact rfl))) | (apply s_skipU; (iterate 3 (exact rfl))) | (apply s_move; (iterate 4 (exact rfl))) | (apply s_fa_p tab_ok; (iterate 5 (exact rfl)))
      | (apply s_fa_f tab_ok; (iterate 6 (exact rfl))) | (apply s_ld_p tab_ok; (iterate 7 (exact rfl))) | (apply s_ld_f tab_ok; (iterate 6 (exact rfl))) | (apply s_ld_w tab_ok; (iterate 5 (exact rfl)); (first | exact valD_len _ | exact wordD_len _)) | (apply s_assign; (iterate 4 (exact rfl)))
      | (apply s_pick_t; (iterate 5 (exact rfl))) | (apply s_pick_f; (iterate 5 (exact rfl))) | (apply s_len tab_ok; (iterate 5 (exact rfl))) | (apply s_lens str_ok; (iterate 4 (exact rfl))) | (apply s_idx tab_ok; (iterate 7 (exact rfl)); (first | exact valR_get (by assumption) | exact wordsR_get (by assumption) | assumption))
      | (apply s_slice tab_ok; (iterate 8 (exact rfl)); (simp; omega)) | (apply s_ext; (iterate 5 (exact rfl))) | (apply s_build tabZ_ok; (iterate 5 (exact rfl))) | (apply s_alloc tabZ_ok; (iterate 7 (exact rfl))) | (apply s_store tab_ok; (iterate 10 (exact rfl)))
      | (apply s_lit tab_ok tabZ_ok; (iterate 10 (exact rfl))) | (apply s_lit1 tab_ok tabZ_ok; (iterate 9 (exact rfl)); (first | exact valD_len _ | exact wordD_len _)) | (apply s_app tab_ok tabZ_ok; (iterate 13 (exact rfl)); (first | (simp; done) | (simp; omega))) | (apply s_not_t; (iterate 4 (exact rfl))) | (apply s_not_f; (iterate 4 (exact rfl)))
      | (apply s_not; (iterate 4 (exact rfl))) | (apply s_eql_t; (iterate 5 (exact rfl)); omega) | (apply s_eql_f; (iterate 5 (exact rfl)); omega) | (apply s_neq_t; (iterate 5 (exact rfl)); omega) | (apply s_neq_f; (iterate 5 (exact rfl)); omega)
      | (apply s_lss_t; (iterate 5 (exact rfl)); omega) | (apply s_lss_f; (iterate 5 (exact rfl)); omega) | (apply s_gtr_t; (iterate 5 (exact rfl)); omega) | (apply s_gtr_f; (iterate 5 (exact rfl)); omega) | (apply s_add64; (iterate 5 (exact rfl)); omega)
      | (apply s_sub64; (iterate 5 (exact rfl)); omega)
      | (apply s_callS; (iterate 6 (exact rfl)); exact kn _; rintro _ σ1 ⟨rfl, hk2⟩; clear hk2)
      | (apply s_call; (iterate 6 (exact rfl)); exact hh; rintro _ ⟨b, rfl, hb⟩; cases b)
      | (apply s_call; (iterate 6 (exact rfl)); first | (exact world_new; rintro _ rfl))
      | (apply s_callS; (iterate 6 (exact rfl)); first | (exact b0 _; rintro _ σ ⟨rfl, rfl⟩))
      | refine al_nil ?_ | refine q_then_n ?_ | refine q_blk_n ?_ | refine q_blk_r ?_ | refine q_blk_e ?_
      | refine q_blk_o rfl ?_ | refine q_then_e ?_ | refine aw_block ?_ | refine aw_exit ?_ | refine q_then_r ?_
      | refine aw_seq ?_ | refine aw_reg ?_ | refine aw_true rfl ?_ | refine aw_false rfl ?_ | refine aw_skip ?_
      | refine aw_ret ?_ | refine al_fork ?_ ?_ | refine al_fork3 ?_ ?_ ?_
      | refine aw_draws (id := 23) (trO [0, 1, 4, 5] (.fork 2 (.fork 3 (trO [6, 7, 8, 9, 10] .nil) 6 (.fork 3 (trO [7, 8, 9, 10] .nil) 7 (trO [3, 8, 9, 10] .nil))) 6 (.fork 2 (.fork 3 (trO [7, 8, 9, 10] .nil) 7 (trO [3, 8, 9, 10] .nil)) 7 (trO [2, 3, 8, 9, 10] .nil)))) [2, 3, 6, 7, 8] [3, 8] mixed_ok (by kernel_rfl) ?_
      | refine aw_draws (id := 29) (trO [0, 1, 4, 5, 6, 7] (.fork 2 (.fork 3 (trO [8, 9, 10, 11, 12] .nil) 8 (.fork 3 (trO [9, 10, 11, 12] .nil) 9 (trO [3, 10, 11, 12] .nil))) 8 (.fork 2 (.fork 3 (trO [9, 10, 11, 12] .nil) 9 (trO [3, 10, 11, 12] .nil)) 9 (trO [2, 3, 10, 11, 12] .nil)))) [2, 3, 8, 9, 10] [3, 10] mixed_ok (by kernel_rfl) ?_
      | refine aw_draws (id := 36) (trO [0, 1, 2, 3, 4, 5, 6, 7, 9, 10, 11, 12, 13, 14, 15, 16, 8, 17, 18, 19] .nil) [8, 17] [8, 17] mixed_ok (by kernel_rfl) ?_
      | refine aw_draws (id := 42) (trO [0, 1, 2, 3, 4, 5, 6, 7, 8, 9, 10] .nil) [8] [] mixed_ok (by kernel_rfl) ?_)
    all_goals exact q_retB (resB_1 rfl (resV_t rfl)) ⟨_, rfl, rfl⟩
end
end Go.Proofs.Ytciciaikajdenaa
/- N56: CellTrees. -/
set_option linter.unusedVariables false
namespace Go.Proofs.Ytciciaikajdenaa
open Go.RowKit

theorem cellTrees_c (l : List ADo) (r : Int) (hl : l.length ≤ 140737488355328) (hlow : ∀ x ∈ l, x.low) : RunsP Try.prog 8 [.v (.int .i64 r), .lst 14 (dosR l)] (fun v => v = .v (.bool true)) := cellTrees_w (fun σ => known_c) l r hl hlow
end Go.Proofs.Ytciciaikajdenaa
/- NZ2: a script of layer 24 that comes in, opened, with its sizes. -/
set_option linter.unusedSimpArgs false
set_option linter.unusedVariables false
set_option maxRecDepth 100000
namespace Go.Proofs.Ytciciaikajdenaa
open Go.RowKit

section
variable {w : World}
theorem cz3 : Try.prog.cellsOf 3 = 1 := by kernel_rfl
theorem cz4 : Try.prog.cellsOf 4 = 1 := by kernel_rfl
theorem cz32 : Try.prog.cellsOf 32 = 1 := by kernel_rfl
theorem cz34 : Try.prog.cellsOf 34 = 3 := by kernel_rfl
theorem cz36 : Try.prog.cellsOf 36 = 4 := by kernel_rfl
theorem cz84 : Try.prog.cellsOf 84 = 14 := by kernel_rfl
theorem bz36 : Try.prog.bytesOf 36 = 40 := by kernel_rfl
theorem bz84 : Try.prog.bytesOf 84 = 160 := by kernel_rfl
theorem reads_wordZ {n : Nat} {cs : List Value} (h : ReadsZ Try.prog w n 36 cs) : ∃ x : AWord, LRep (FH w) (wordD x) cs ∧ One cs := by
  obtain ⟨m, hn, hl, hf⟩ := h.struct Try.underlying36
  rw [cz36] at hl
  match cs, hl with
  | [c0, c1, c2, c3], _ =>
    have h0 := hf 0 _ rfl
    have h1 := hf 1 _ rfl
    have h2 := hf 2 _ rfl
    have h3 := hf 3 _ rfl
    simp only [cz2, cz3, cz5, cz9, List.getElem_toArray, List.getElem_cons_zero, List.getElem_cons_succ, List.drop_succ_cons, List.drop_zero, List.take_succ_cons, List.take_zero] at h0 h1 h2 h3
    obtain ⟨s0, e0, _⟩ := h0.int Try.underlying5
    obtain ⟨s1, e1, _⟩ := h1.int Try.underlying2
    obtain ⟨s2, e2, _⟩ := h2.string Try.underlying9
    obtain ⟨s3, e3, _⟩ := h3.int Try.underlying3
    simp only [List.cons.injEq, and_true] at e0 e1 e2 e3
    subst e0 e1 e2 e3
    refine ⟨⟨s0, s1, s2, s3⟩, ⟨_, _, rfl, ⟨rfl, rfl⟩, _, _, rfl, ⟨rfl, rfl⟩, _, _, rfl, ⟨rfl, rfl⟩, _, _, rfl, ⟨rfl, rfl⟩, rfl⟩, ?_⟩
    intro u hu
    simp at hu
    rcases hu with rfl | rfl | rfl | rfl <;> rfl
theorem reads_cellZ {n : Nat} {cs : List Value} (h : ReadsZ Try.prog w n 34 cs) : ∃ c : ACell, LRep (FH w) (cellD c) cs ∧ One cs ∧ c.ws.length ≤ 140737488355328 := by
  obtain ⟨m, hn, hl, hf⟩ := h.struct Try.underlying34
  rw [cz34] at hl
  match cs, hl with
  | [c0, c1, c2], _ =>
    have h0 := hf 0 _ rfl
    have h1 := hf 1 _ rfl
    have h2 := hf 2 _ rfl
    simp only [cz2, cz3, cz5, cz32, List.getElem_toArray, List.getElem_cons_zero, List.getElem_cons_succ, List.drop_succ_cons, List.drop_zero, List.take_succ_cons, List.take_zero] at h0 h1 h2
    obtain ⟨s0, e0, _⟩ := h0.int Try.underlying5
    obtain ⟨s1, e1, _⟩ := h1.int Try.underlying3
    obtain ⟨v, l, e5, r5, _, z5, q5⟩ := h2.lstD (f := wordD) (Q := fun _ => True) Try.underlying32 cz36 bz36 (by decide) fun m' r hm' hr hrd => by
      obtain ⟨x, k1, k2⟩ := reads_wordZ hrd
      exact ⟨x, k1, k2, trivial⟩
    simp only [List.cons.injEq, and_true] at e0 e1 e5
    subst e0 e1 e5
    have hre := reach_le
    have ho := drep_one r5
    refine ⟨⟨s0, s1, l⟩, ⟨_, _, rfl, ⟨rfl, rfl⟩, _, _, rfl, ⟨rfl, rfl⟩, _, _, rfl, r5, rfl⟩, ?_, by show l.length ≤ _; omega⟩
    intro u hu
    simp at hu
    rcases hu with rfl | rfl | rfl <;> first | rfl | exact ho
theorem lrep_append {F : Frag} : ∀ {a b : List DV} {us vs : List Value}, LRep F a us → LRep F b vs → LRep F (a ++ b) (us ++ vs)
  | [], b, us, vs, h, k => by rw [show us = [] from h]; exact k
  | d :: a, b, us, vs, ⟨u, us', e, r, q⟩, k => by subst e; exact ⟨u, us' ++ vs, rfl, r, lrep_append q k⟩
theorem one_append {us vs : List Value} (h : One us) (k : One vs) : One (us ++ vs) := fun u hu => (List.mem_append.1 hu).elim (h u) (k u)
theorem doD_is (x : ADo) : doD x = ([.v (.int .i64 x.kind), .v (.int .i64 x.n)] ++ cellD x.c) ++ (valD x.v ++ (wordD x.w ++ [.v (.bool x.raw)])) := by
  obtain ⟨k, n, ⟨ck, cn, cw⟩, ⟨vk, vn, vs, vl⟩, ⟨wk, wn, ws, wg⟩, raw⟩ := x
  rfl
theorem reads_doZ {n : Nat} {cs : List Value} (h : ReadsZ Try.prog w n 84 cs) : ∃ x : ADo, LRep (FH w) (doD x) cs ∧ One cs ∧ x.low := by
  obtain ⟨m, hn, hl, hf⟩ := h.struct Try.underlying84
  rw [cz84] at hl
  match cs, hl with
  | [c0, c1, c2, c3, c4, c5, c6, c7, c8, c9, c10, c11, c12, c13], _ =>
    have h0 := hf 0 _ rfl
    have h1 := hf 1 _ rfl
    have h2 := hf 2 _ rfl
    have h3 := hf 3 _ rfl
    have h4 := hf 4 _ rfl
    have h5 := hf 5 _ rfl
    simp only [cz3, cz4, cz34, cz36, cz66, List.getElem_toArray, List.getElem_cons_zero, List.getElem_cons_succ, List.drop_succ_cons, List.drop_zero, List.take_succ_cons, List.take_zero] at h0 h1 h2 h3 h4 h5
    obtain ⟨s0, e0, _⟩ := h0.int Try.underlying3
    obtain ⟨s1, e1, _⟩ := h1.int Try.underlying3
    obtain ⟨c, k2, o2, z2⟩ := reads_cellZ h2
    obtain ⟨p, k3, o3, z3⟩ := reads_valZ _ h3
    obtain ⟨x, k4, o4⟩ := reads_wordZ h4
    obtain ⟨b, e5⟩ := h5.reads.bool Try.underlying4
    simp only [List.cons.injEq, and_true] at e0 e1 e5
    subst e0 e1 e5
    refine ⟨⟨s0, s1, c, p, x, b⟩, ?_, ?_, ⟨z3, z2⟩⟩
    · rw [doD_is]
      have ha : LRep (FH w) [.v (.int .i64 s0), .v (.int .i64 s1)] [.int .i64 s0, .int .i64 s1] := ⟨_, _, rfl, ⟨rfl, rfl⟩, _, _, rfl, ⟨rfl, rfl⟩, rfl⟩
      have hb : LRep (FH w) [.v (.bool b)] [.bool b] := ⟨_, _, rfl, ⟨rfl, rfl⟩, rfl⟩
      exact lrep_append (lrep_append ha k2) (lrep_append k3 (lrep_append k4 hb))
    · exact one_append (us := [.int .i64 s0, .int .i64 s1, c2, c3, c4]) (one_append (us := [.int .i64 s0, .int .i64 s1]) (by intro u hu; simp at hu; rcases hu with rfl | rfl <;> rfl) o2) (one_append o3 (one_append o4 (by intro u hu; simp at hu; subst hu; rfl)))
theorem reads_dosZ {n : Nat} {cs : List Value} (h : ReadsZ Try.prog w n 81 cs) : ∃ (v : Value) (l : List ADo), cs = [v] ∧ DRep (FH w) (.lst 14 (dosR l)) v ∧ l.length ≤ 140737488355328 ∧ ∀ x ∈ l, x.low := by
  obtain ⟨v, l, e, r, _, z, q⟩ := h.lstD (f := doD) (Q := fun p => p.low) Try.underlying81 cz84 bz84 (by decide) fun m' r hm' hr hrd => reads_doZ hrd
  have hre := reach_le
  exact ⟨v, l, e, r, by omega, q⟩
end
end Go.Proofs.Ytciciaikajdenaa
