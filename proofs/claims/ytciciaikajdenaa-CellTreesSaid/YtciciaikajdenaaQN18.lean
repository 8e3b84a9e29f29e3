/- N18: a world without files; package cell's drop, Drop. -/
import Derived.Test.YtciciaikajdenaaQN17
set_option linter.unusedSimpArgs false
set_option linter.unusedVariables false
-- ALLUNDEF -- BOXZ
-- LEN: valD_len wordD_len
-- ROW: valR_get wordsR_get
namespace Go.Proofs.Ytciciaikajdenaa
open Go.RowKit

section
variable {P : Program} {T : Tab} {nt : Nat} {Q : Exit → Fr → List AObj → Prop} {fr : Fr} {σ : List AObj} {ops : Array Oper} {dr : Bool} {dos ends : List Nat} {l : Trr} {o : Oper} {i d : Nat}
variable {ty : TypeId} {pos : String} {aft : Array Edge} {gd : Option (Nat × Bool)}
theorem rd_fptrNil {t t' : TypeId} {a : Operand} {cells : List DV} (ho : o.op = .binOp .eql t a (.const (.pointer none)) t') (hu : ∃ e, P.underlying t = some (.pointer e)) (ha : aget fr a = .d (.fptr cells)) : RdOp P o fr σ (.d (.v (.bool false))) := by
  intro k c nt A w s
  have h1 := s.arg a
  rw [ha] at h1
  obtain ⟨b, off, e1, _⟩ := h1
  obtain ⟨e, hu⟩ := hu
  refine ⟨_, ⟨rfl, rfl⟩, fun w' _ => ?_⟩
  unfold execOp
  have e2 : A.eval (.const (.pointer none)) = .pointer none := rfl
  simp [ho, e1, e2, eqGuard, run_ptr_nil (P := P) w' ⟨b, off, none⟩ hu]
theorem s_fptrNil {t t' : TypeId} {a : Operand} {cells : List DV} (hu : ∃ e, P.underlying t = some (.pointer e)) (hp : dr = dr) (hg : guardB ops fr gd = some true) (ht : Nat.blt d nt = true) (ha : aget fr a = .d (.fptr cells)) (h : AL P nt ops dr dos ends l Q ((d, .d (.v (.bool false))) :: fr) σ) : ALo P nt ops dr dos ends i ⟨some d, .binOp .eql t a (.const (.pointer none)) t', ty, pos, aft, gd⟩ l Q fr σ :=
  ⟨fun ho => s_read ho hp hg ht (rd_fptrNil rfl hu ha) h⟩
end
/-- A world without files, handles and trace. -/
def worldC : List DV := [.lst 2 [], .lst 1 [], .nil, .nil]
theorem ptr68 : ∃ e, Try.prog.underlying 68 = some (.pointer e) := ⟨137, by kernel_rfl⟩
theorem sl91 : Try.prog.underlying 91 = some (.slice 130) := by kernel_rfl
theorem sl128 : Try.prog.underlying 128 = some (.slice 4) := by kernel_rfl
theorem sl86 : Try.prog.underlying 86 = some (.slice 154) := by kernel_rfl
/-- A result that says less. -/
theorem RunsP.less {P : Program} {f : FuncId} {args : List DV} {y : DV} (h : RunsP P f args (fun v => Wk v y)) : RunsP P f args (fun v => v = y) :=
  ⟨h.1, fun B F w vs a b c => Calls.mono (h.2 B F w vs a b c) fun e w' ⟨u, v, F', h1, h2, h3, h4, h5, h6, h7, h8⟩ => ⟨u, y, F', h1, h2, h8 _ _ h3, h4, h5, h6, h7, rfl⟩⟩
set_option maxRecDepth 100000 in
theorem clone88 : RunsP Try.prog 88 [.nil] (fun v => v = .lst 2 []) := by
  refine RunsP.less ?_
  refine enterP 8 Try.func88 rfl (by kernel_rfl) rfl rfl rfl ?_
  repeat' (first
      | refine s_op rfl ?_ | (apply s_move; (iterate 4 (exact rfl))) | (apply s_assign; (iterate 4 (exact rfl))) | (apply s_lit1 tab_ok tabZ_ok; (iterate 9 (exact rfl)); (first | exact valD_len _ | exact wordD_len _)) | (apply s_eql_t; (iterate 5 (exact rfl)); omega)
      | (apply s_eql_f; (iterate 5 (exact rfl)); omega) | (apply s_streq_t; (iterate 5 (exact rfl)); assumption) | (apply s_streq_f; (iterate 5 (exact rfl)); assumption)
      | (apply s_nilSl sl91; (iterate 5 (exact rfl)); intro b; cases b)
      | (apply s_litO tab_ok tabZ_ok (d := 5) (m := 0); (iterate 12 (exact rfl)); intro locA σ hc; have hA := hc.at'; clear hc)
      | (apply s_appF tab_ok tabZ_ok (d := 7) (rows2 := []) (rows3 := []) (m := 0); (iterate 10 (exact rfl)); exact hA; exact src_of sl91 (rows_d rfl); exact rfl; (refine ⟨rfl, ?_, rfl⟩; decide); intro σ hc; replace hA := hc.at'; clear hc)
      | (refine w_freezeF 2 rfl hA rfl ?_; intro σ hc; clear hc hA)
      | refine al_nil ?_ | refine q_then_n ?_ | refine q_then_r ?_ | refine aw_seq ?_ | refine aw_reg ?_
      | refine aw_true rfl ?_ | refine aw_false rfl ?_ | refine aw_skip ?_ | refine aw_ret ?_)
  all_goals exact q_ret rfl ⟨_, rfl, by first | exact Wk.nil 2 | exact Wk.refl _⟩
set_option maxRecDepth 100000 in
theorem clone89 : RunsP Try.prog 89 [.nil] (fun v => v = .lst 1 []) := by
  refine RunsP.less ?_
  refine enterP 8 Try.func89 rfl (by kernel_rfl) rfl rfl rfl ?_
  repeat' (first
      | refine s_op rfl ?_ | (apply s_move; (iterate 4 (exact rfl))) | (apply s_assign; (iterate 4 (exact rfl))) | (apply s_lit1 tab_ok tabZ_ok; (iterate 9 (exact rfl)); (first | exact valD_len _ | exact wordD_len _)) | (apply s_eql_t; (iterate 5 (exact rfl)); omega)
      | (apply s_eql_f; (iterate 5 (exact rfl)); omega)
      | (apply s_nilSl sl128; (iterate 5 (exact rfl)); intro b; cases b)
      | (apply s_litO tab_ok tabZ_ok (d := 5) (m := 0); (iterate 12 (exact rfl)); intro locA σ hc; have hA := hc.at'; clear hc)
      | (apply s_appF tab_ok tabZ_ok (d := 7) (rows2 := []) (rows3 := []) (m := 0); (iterate 10 (exact rfl)); exact hA; exact src_of sl128 (rows_d rfl); exact rfl; (refine ⟨rfl, ?_, rfl⟩; decide); intro σ hc; replace hA := hc.at'; clear hc)
      | (refine w_freezeF 2 rfl hA rfl ?_; intro σ hc; clear hc hA)
      | refine al_nil ?_ | refine q_then_n ?_ | refine q_then_r ?_ | refine aw_seq ?_ | refine aw_reg ?_
      | refine aw_true rfl ?_ | refine aw_false rfl ?_ | refine aw_skip ?_ | refine aw_ret ?_)
  all_goals exact q_ret rfl ⟨_, rfl, by first | exact Wk.nil 1 | exact Wk.refl _⟩
set_option maxRecDepth 100000 in
theorem clone101 : RunsP Try.prog 101 [.nil] (fun v => v = .lst 5 []) := by
  refine RunsP.less ?_
  refine enterP 8 Try.func101 rfl (by kernel_rfl) rfl rfl rfl ?_
  repeat' (first
      | refine s_op rfl ?_ | (apply s_move; (iterate 4 (exact rfl))) | (apply s_assign; (iterate 4 (exact rfl))) | (apply s_lit1 tab_ok tabZ_ok; (iterate 9 (exact rfl)); (first | exact valD_len _ | exact wordD_len _)) | (apply s_eql_t; (iterate 5 (exact rfl)); omega)
      | (apply s_eql_f; (iterate 5 (exact rfl)); omega)
      | (apply s_nilSl sl86; (iterate 5 (exact rfl)); intro b; cases b)
      | (apply s_litO tab_ok tabZ_ok (d := 5) (m := 0); (iterate 12 (exact rfl)); intro locA σ hc; have hA := hc.at'; clear hc)
      | (apply s_appF tab_ok tabZ_ok (d := 7) (rows2 := []) (rows3 := []) (m := 0); (iterate 10 (exact rfl)); exact hA; exact src_of sl86 (rows_d rfl); exact rfl; (refine ⟨rfl, ?_, rfl⟩; decide); intro σ hc; replace hA := hc.at'; clear hc)
      | (refine w_freezeF 2 rfl hA rfl ?_; intro σ hc; clear hc hA)
      | refine al_nil ?_ | refine q_then_n ?_ | refine q_then_r ?_ | refine aw_seq ?_ | refine aw_reg ?_
      | refine aw_true rfl ?_ | refine aw_false rfl ?_ | refine aw_skip ?_ | refine aw_ret ?_)
  all_goals exact q_ret rfl ⟨_, rfl, by first | exact Wk.nil 5 | exact Wk.refl _⟩
set_option maxRecDepth 100000 in
set_option maxHeartbeats 8000000 in
theorem world_new : RunsP Try.prog 44 [.nil, .nil] (fun v => v = .tup [.fptr worldC, .v (.int .i64 0)]) := by
  refine enterPB 36 tab_ok Try.func44 rfl (by kernel_rfl) rfl rfl rfl ?_
  repeat' (first
      | refine s_op rfl ?_ | (apply s_skipV; (iterate 2 (exact rfl))) | (apply s_skipU; (iterate 3 (exact rfl))) | (apply s_move; (iterate 4 (exact rfl))) | (apply s_fa_p tab_ok; (iterate 5 (exact rfl)))
      | (apply s_fa_f tab_ok; (iterate 6 (exact rfl))) | (apply s_ld_p tab_ok; (iterate 7 (exact rfl))) | (apply s_ld_f tab_ok; (iterate 6 (exact rfl))) | (apply s_ld_w tab_ok; (iterate 5 (exact rfl)); (first | exact valD_len _ | exact wordD_len _)) | (apply s_assign; (iterate 4 (exact rfl)))
      | (apply s_pick_t; (iterate 5 (exact rfl))) | (apply s_pick_f; (iterate 5 (exact rfl))) | (apply s_len tab_ok; (iterate 5 (exact rfl))) | (apply s_lens str_ok; (iterate 4 (exact rfl))) | (apply s_idx tab_ok; (iterate 7 (exact rfl)); (first | exact valR_get (by assumption) | exact wordsR_get (by assumption) | assumption))
      | (apply s_slice tab_ok; (iterate 8 (exact rfl)); (simp; omega)) | (apply s_mkf; (iterate 4 (exact rfl))) | (apply s_build tabZ_ok; (iterate 5 (exact rfl))) | (apply s_alloc tabZ_ok; (iterate 7 (exact rfl))) | (apply s_boxZ; (iterate 5 (exact rfl)); first | exact rfl | exact allD_mapd _)
      | (apply s_store tab_ok; (iterate 10 (exact rfl))) | (apply s_lss_t; (iterate 5 (exact rfl)); omega) | (apply s_lss_f; (iterate 5 (exact rfl)); omega) | (apply s_gtr_t; (iterate 5 (exact rfl)); omega) | (apply s_gtr_f; (iterate 5 (exact rfl)); omega)
      | (apply s_add64; (iterate 5 (exact rfl)); omega)
      | refine al_nil ?_ | refine q_then_n ?_ | refine q_blk_n ?_ | refine q_blk_r ?_ | refine q_blk_e ?_
      | refine q_blk_o rfl ?_ | refine q_then_e ?_ | refine aw_block ?_ | refine aw_exit ?_ | refine q_then_r ?_
      | refine aw_seq ?_ | refine aw_reg ?_ | refine aw_true rfl ?_ | refine aw_false rfl ?_ | refine aw_skip ?_
      | refine aw_ret ?_)
  refine w_loop [0, 1, 12, 13] (fun n' vs' σ => vs' = [.d .nil, .d .nil, .d (.v (.int .i64 0)), .d (.v (.int .i64 0))] ∧ n' = 0) rfl ⟨rfl, rfl⟩ ?_
  rintro n' vs' σ ⟨rfl, rfl⟩ fr hfr
  cases hfr
  repeat' (first
      | refine s_op rfl ?_ | (apply s_skipV; (iterate 2 (exact rfl))) | (apply s_skipU; (iterate 3 (exact rfl))) | (apply s_move; (iterate 4 (exact rfl))) | (apply s_fa_p tab_ok; (iterate 5 (exact rfl)))
      | (apply s_fa_f tab_ok; (iterate 6 (exact rfl))) | (apply s_ld_p tab_ok; (iterate 7 (exact rfl))) | (apply s_ld_f tab_ok; (iterate 6 (exact rfl))) | (apply s_ld_w tab_ok; (iterate 5 (exact rfl)); (first | exact valD_len _ | exact wordD_len _)) | (apply s_assign; (iterate 4 (exact rfl)))
      | (apply s_pick_t; (iterate 5 (exact rfl))) | (apply s_pick_f; (iterate 5 (exact rfl))) | (apply s_len tab_ok; (iterate 5 (exact rfl))) | (apply s_lens str_ok; (iterate 4 (exact rfl))) | (apply s_idx tab_ok; (iterate 7 (exact rfl)); (first | exact valR_get (by assumption) | exact wordsR_get (by assumption) | assumption))
      | (apply s_slice tab_ok; (iterate 8 (exact rfl)); (simp; omega)) | (apply s_mkf; (iterate 4 (exact rfl))) | (apply s_build tabZ_ok; (iterate 5 (exact rfl))) | (apply s_alloc tabZ_ok; (iterate 7 (exact rfl))) | (apply s_boxZ; (iterate 5 (exact rfl)); first | exact rfl | exact allD_mapd _)
      | (apply s_store tab_ok; (iterate 10 (exact rfl))) | (apply s_lss_t; (iterate 5 (exact rfl)); omega) | (apply s_lss_f; (iterate 5 (exact rfl)); omega) | (apply s_gtr_t; (iterate 5 (exact rfl)); omega) | (apply s_gtr_f; (iterate 5 (exact rfl)); omega)
      | (apply s_add64; (iterate 5 (exact rfl)); omega)
      | (apply s_call; (iterate 6 (exact rfl)); first | (exact clone88; rintro _ rfl) | (exact clone89; rintro _ rfl))
      | refine al_nil ?_ | refine q_then_n ?_ | refine q_blk_n ?_ | refine q_blk_r ?_ | refine q_blk_e ?_
      | refine q_blk_o rfl ?_ | refine q_then_e ?_ | refine aw_block ?_ | refine aw_exit ?_ | refine q_then_r ?_
      | refine aw_seq ?_ | refine aw_reg ?_ | refine aw_true rfl ?_ | refine aw_false rfl ?_ | refine aw_skip ?_
      | refine aw_ret ?_)
  all_goals exact q_retB (resB_2 rfl (resV_t rfl) (resV_t rfl) rfl) ⟨_, rfl, rfl⟩
set_option maxRecDepth 100000 in
theorem world_find (n : Int) : RunsP Try.prog 125 [.fptr worldC, .v (.int .i64 n)] (fun v => v = .tup [.v (.pointer none), .v (.int .i64 4)]) := by
  unfold worldC
  refine enterPB 36 tab_ok Try.func125 rfl (by kernel_rfl) rfl rfl rfl ?_
  by_cases hn : n < 0
  · repeat' (first
      | refine s_op rfl ?_ | (apply s_skipV; (iterate 2 (exact rfl))) | (apply s_skipU; (iterate 3 (exact rfl))) | (apply s_move; (iterate 4 (exact rfl))) | (apply s_fa_p tab_ok; (iterate 5 (exact rfl)))
      | (apply s_fa_f tab_ok; (iterate 6 (exact rfl))) | (apply s_ld_p tab_ok; (iterate 7 (exact rfl))) | (apply s_ld_f tab_ok; (iterate 6 (exact rfl))) | (apply s_ld_w tab_ok; (iterate 5 (exact rfl)); (first | exact valD_len _ | exact wordD_len _)) | (apply s_assign; (iterate 4 (exact rfl)))
      | (apply s_pick_t; (iterate 5 (exact rfl))) | (apply s_pick_f; (iterate 5 (exact rfl))) | (apply s_len tab_ok; (iterate 5 (exact rfl))) | (apply s_lens str_ok; (iterate 4 (exact rfl))) | (apply s_idx tab_ok; (iterate 7 (exact rfl)); (first | exact valR_get (by assumption) | exact wordsR_get (by assumption) | assumption))
      | (apply s_nilc; (iterate 5 (exact rfl))) | (apply s_eql_t; (iterate 5 (exact rfl)); omega) | (apply s_eql_f; (iterate 5 (exact rfl)); omega) | (apply s_lss_t; (iterate 5 (exact rfl)); omega) | (apply s_lss_f; (iterate 5 (exact rfl)); omega)
      | (apply s_geq_t; (iterate 5 (exact rfl)); omega) | (apply s_geq_f; (iterate 5 (exact rfl)); omega)
      | (apply s_fptrNil ptr68; (iterate 4 (exact rfl)))
      | refine al_nil ?_ | refine q_then_n ?_ | refine q_blk_n ?_ | refine q_blk_r ?_ | refine q_blk_e ?_
      | refine q_blk_o rfl ?_ | refine q_then_e ?_ | refine aw_block ?_ | refine aw_exit ?_ | refine q_then_r ?_
      | refine aw_seq ?_ | refine aw_reg ?_ | refine aw_true rfl ?_ | refine aw_false rfl ?_ | refine aw_skip ?_
      | refine aw_ret ?_)
    all_goals exact q_retB (resB_2 rfl (resV_t rfl) (resV_t rfl) rfl) ⟨_, rfl, rfl⟩
  · repeat' (first
      | refine s_op rfl ?_ | (apply s_skipV; (iterate 2 (exact rfl))) | (apply s_skipU; (iterate 3 (exact rfl))) | (apply s_move; (iterate 4 (exact rfl))) | (apply s_fa_p tab_ok; (iterate 5 (exact rfl)))
      | (apply s_fa_f tab_ok; (iterate 6 (exact rfl))) | (apply s_ld_p tab_ok; (iterate 7 (exact rfl))) | (apply s_ld_f tab_ok; (iterate 6 (exact rfl))) | (apply s_ld_w tab_ok; (iterate 5 (exact rfl)); (first | exact valD_len _ | exact wordD_len _)) | (apply s_assign; (iterate 4 (exact rfl)))
      | (apply s_pick_t; (iterate 5 (exact rfl))) | (apply s_pick_f; (iterate 5 (exact rfl))) | (apply s_len tab_ok; (iterate 5 (exact rfl))) | (apply s_lens str_ok; (iterate 4 (exact rfl))) | (apply s_idx tab_ok; (iterate 7 (exact rfl)); (first | exact valR_get (by assumption) | exact wordsR_get (by assumption) | assumption))
      | (apply s_nilc; (iterate 5 (exact rfl))) | (apply s_eql_t; (iterate 5 (exact rfl)); omega) | (apply s_eql_f; (iterate 5 (exact rfl)); omega) | (apply s_lss_t; (iterate 5 (exact rfl)); omega) | (apply s_lss_f; (iterate 5 (exact rfl)); omega)
      | (apply s_geq_t; (iterate 5 (exact rfl)); omega) | (apply s_geq_f; (iterate 5 (exact rfl)); omega)
      | (apply s_fptrNil ptr68; (iterate 4 (exact rfl)))
      | refine al_nil ?_ | refine q_then_n ?_ | refine q_blk_n ?_ | refine q_blk_r ?_ | refine q_blk_e ?_
      | refine q_blk_o rfl ?_ | refine q_then_e ?_ | refine aw_block ?_ | refine aw_exit ?_ | refine q_then_r ?_
      | refine aw_seq ?_ | refine aw_reg ?_ | refine aw_true rfl ?_ | refine aw_false rfl ?_ | refine aw_skip ?_
      | refine aw_ret ?_)
    all_goals exact q_retB (resB_2 rfl (resV_t rfl) (resV_t rfl) rfl) ⟨_, rfl, rfl⟩
set_option maxRecDepth 100000 in
theorem world_drop (n : Int) : RunsP Try.prog 123 [.fptr worldC, .v (.int .i64 n)] (fun v => v = .v (.int .i64 4)) := by
  have h := world_find n
  refine enterP 19 Try.func123 rfl (by kernel_rfl) rfl rfl rfl ?_
  repeat' (first
      | refine s_op rfl ?_ | (apply s_move; (iterate 4 (exact rfl))) | (apply s_fa_p tab_ok; (iterate 5 (exact rfl))) | (apply s_fa_f tab_ok; (iterate 6 (exact rfl))) | (apply s_assign; (iterate 4 (exact rfl)))
      | (apply s_ext; (iterate 5 (exact rfl))) | (apply s_nilc; (iterate 5 (exact rfl))) | (apply s_store tab_ok; (iterate 10 (exact rfl))) | (apply s_eql_t; (iterate 5 (exact rfl)); omega) | (apply s_eql_f; (iterate 5 (exact rfl)); omega)
      | (apply s_call; (iterate 6 (exact rfl)); first | (exact h; rintro _ rfl))
      | refine al_nil ?_ | refine q_then_n ?_ | refine q_then_r ?_ | refine aw_seq ?_ | refine aw_reg ?_
      | refine aw_true rfl ?_ | refine aw_false rfl ?_ | refine aw_skip ?_ | refine aw_ret ?_)
  all_goals exact q_ret rfl ⟨_, rfl, rfl⟩
set_option maxRecDepth 100000 in
theorem world_trace : RunsP Try.prog 54 [.fptr worldC] (fun v => v = .lst 5 []) := by
  unfold worldC
  refine enterP 10 Try.func54 rfl (by kernel_rfl) rfl rfl rfl ?_
  repeat' (first
      | refine s_op rfl ?_ | (apply s_move; (iterate 4 (exact rfl))) | (apply s_fa_p tab_ok; (iterate 5 (exact rfl))) | (apply s_fa_f tab_ok; (iterate 6 (exact rfl))) | (apply s_ld_p tab_ok; (iterate 7 (exact rfl)))
      | (apply s_ld_f tab_ok; (iterate 6 (exact rfl))) | (apply s_ld_w tab_ok; (iterate 5 (exact rfl)); (first | exact valD_len _ | exact wordD_len _)) | (apply s_assign; (iterate 4 (exact rfl))) | (apply s_nilc; (iterate 5 (exact rfl))) | (apply s_eql_t; (iterate 5 (exact rfl)); omega)
      | (apply s_eql_f; (iterate 5 (exact rfl)); omega)
      | (apply s_fptrNil ptr68; (iterate 4 (exact rfl)))
      | (apply s_call; (iterate 6 (exact rfl)); first | (exact clone101; rintro _ rfl))
      | refine al_nil ?_ | refine q_then_n ?_ | refine q_then_r ?_ | refine aw_seq ?_ | refine aw_reg ?_
      | refine aw_true rfl ?_ | refine aw_false rfl ?_ | refine aw_skip ?_ | refine aw_ret ?_)
  all_goals exact q_ret rfl ⟨_, rfl, rfl⟩
end Go.Proofs.Ytciciaikajdenaa
