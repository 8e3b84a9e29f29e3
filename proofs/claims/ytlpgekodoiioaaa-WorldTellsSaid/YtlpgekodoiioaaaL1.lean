/- SameFiles, SameTrace, Great, heavy: for the abstract walk. -/
import Derived.Test.YtlpgekodoiioaaaX1
set_option linter.unusedSimpArgs false
set_option linter.unusedVariables false
namespace Go.Proofs.Ytlpgekodoiioaaa
open Go.RowKit

theorem take_ext {α : Type} {a b : List α} {k : Nat} (h : a.take k = b.take k) {x y : α} (hx : a[k]? = some x) (hy : b[k]? = some y) (e : x = y) : a.take (k + 1) = b.take (k + 1) := by
  rw [List.take_add_one, List.take_add_one, h, hx, hy, e]

section
variable {T : Tab} {Z : TabZ} {nt : Nat} {Q : Exit → Fr → List AObj → Prop} {next : Fr → List AObj → Prop} {fr : Fr} {σ σ' : List AObj} {ops : Array Oper} {dr : Bool} {dos ends : List Nat} {l : Trr} {i d : Nat} {o : Oper} {v : AV}
variable {dst : Option Tmp} {op : Op} {ty : TypeId} {pos : String} {aft : Array Edge} {gd : Option (Nat × Bool)}
set_option maxRecDepth 100000 in
theorem s_allocT (hZ : okTabZ Try.prog Z = true) {t : Nat} {z : List Value} {c : List AV} (hp : (dr && !dos.contains i) = false) (hg : guardB ops fr gd = some true) (hk : (dr && !ends.contains i && !true) = false) (ht : Nat.blt d nt = true) (hz : find1 Z.zs t = some z) (hs : seqL (z.map constAV) some = some c) (h : AL Try.prog nt ops dr dos ends l Q ((d, .ptr σ.length 0 0) :: fr) (σ ++ [.row t c])) : ALo Try.prog nt ops dr dos ends i ⟨some d, .alloc t, ty, pos, aft, gd⟩ l Q fr σ := by
  refine ⟨fun ho => s_do (keep := true) ho hp hg hk ?_⟩
  rw [seqL_eq] at hs
  injection hs with hs
  subst hs
  exact do_alloc (TabZ.z hZ hz) rfl ht h
theorem last_row (σ : List AObj) (o : AObj) : (σ ++ [o])[σ.length]? = some o := by simp
theorem last_set (σ : List AObj) (o o' : AObj) : (σ ++ [o]).set σ.length o' = σ ++ [o'] := by
  rw [List.set_append_right _ _ (Nat.le_refl _), Nat.sub_self]; rfl
set_option maxRecDepth 100000 in
theorem s_storeT (hT : okTab Try.prog T = true) {t sz bytes off : Nat} {agg : Bool} {a b : Operand} {U : TypeId} {cells c : List AV} (hp : (dr && !dos.contains i) = false) (hg : guardB ops fr gd = some true) (hk : (dr && !ends.contains i && !false) = false) (ha : aget fr a = .ptr σ.length 0 off) (hy : find1 T.ty t = some (sz, bytes, agg)) (h1 : oneA (aget fr b) = true) (h2 : Nat.beq (cellsA (aget fr b)).length sz = true) (h3 : Nat.ble (off + sz) cells.length = true) (hσ : seqL (spliceL cells off (cellsA (aget fr b))) some = some c) (h : AL Try.prog nt ops dr dos ends l Q fr (σ ++ [.row U c])) : ALo Try.prog nt ops dr dos ends i ⟨none, .store t a b, ty, pos, aft, gd⟩ l Q fr (σ ++ [.row U cells]) := by
  refine ⟨fun ho => s_do (keep := false) ho hp hg hk ?_⟩
  rw [seqL_eq] at hσ
  injection hσ with hσ
  subst hσ
  refine do_store hT rfl rfl hy ha (last_row σ _) h1 (Nat.eq_of_beq_eq_true h2) h3 ?_
  rw [last_set]
  exact h
set_option maxRecDepth 100000 in
theorem s_ldT (hT : okTab Try.prog T = true) {t sz bytes U off : Nat} {agg : Bool} {a : Operand} {cells : List AV} (hp : dr = dr) (hg : guardB ops fr gd = some true) (ht : Nat.blt d nt = true) (ha : aget fr a = .ptr σ.length 0 off) (hy : find1 T.ty t = some (sz, bytes, agg)) (hv : ldAO agg sz off cells = some v) (h : AL Try.prog nt ops dr dos ends l Q ((d, v) :: fr) (σ ++ [.row U cells])) : ALo Try.prog nt ops dr dos ends i ⟨some d, .load t a, ty, pos, aft, gd⟩ l Q fr (σ ++ [.row U cells]) :=
  ⟨fun ho => s_read ho hp hg ht (rd_load_p hT rfl hy ha (last_row σ _) (ldAO_eq hv)) h⟩
theorem s_ne62_t {t' : TypeId} {a b : Operand} {f g : AFile} (hp : dr = dr) (hg : guardB ops fr gd = some true) (ht : Nat.blt d nt = true) (ha : aget fr a = .d (.agg (fileD f))) (hb : aget fr b = .d (.agg (fileD g))) (hc : f ≠ g) (h : AL Try.prog nt ops dr dos ends l Q ((d, .d (.v (.bool true))) :: fr) σ) : ALo Try.prog nt ops dr dos ends i ⟨some d, .binOp .neq 62 a b t', ty, pos, aft, gd⟩ l Q fr σ := by
  refine s_ne62 hp hg ht ha hb ?_; simpa [hc] using h
theorem s_ne62_f {t' : TypeId} {a b : Operand} {f g : AFile} (hp : dr = dr) (hg : guardB ops fr gd = some true) (ht : Nat.blt d nt = true) (ha : aget fr a = .d (.agg (fileD f))) (hb : aget fr b = .d (.agg (fileD g))) (hc : f = g) (h : AL Try.prog nt ops dr dos ends l Q ((d, .d (.v (.bool false))) :: fr) σ) : ALo Try.prog nt ops dr dos ends i ⟨some d, .binOp .neq 62 a b t', ty, pos, aft, gd⟩ l Q fr σ := by
  refine s_ne62 hp hg ht ha hb ?_; simpa [hc] using h
theorem s_ne68_t {t' : TypeId} {a b : Operand} {f g : AOp} (hp : dr = dr) (hg : guardB ops fr gd = some true) (ht : Nat.blt d nt = true) (ha : aget fr a = .d (.agg (opD f))) (hb : aget fr b = .d (.agg (opD g))) (hc : f ≠ g) (h : AL Try.prog nt ops dr dos ends l Q ((d, .d (.v (.bool true))) :: fr) σ) : ALo Try.prog nt ops dr dos ends i ⟨some d, .binOp .neq 68 a b t', ty, pos, aft, gd⟩ l Q fr σ := by
  refine s_ne68 hp hg ht ha hb ?_; simpa [hc] using h
theorem s_ne68_f {t' : TypeId} {a b : Operand} {f g : AOp} (hp : dr = dr) (hg : guardB ops fr gd = some true) (ht : Nat.blt d nt = true) (ha : aget fr a = .d (.agg (opD f))) (hb : aget fr b = .d (.agg (opD g))) (hc : f = g) (h : AL Try.prog nt ops dr dos ends l Q ((d, .d (.v (.bool false))) :: fr) σ) : ALo Try.prog nt ops dr dos ends i ⟨some d, .binOp .neq 68 a b t', ty, pos, aft, gd⟩ l Q fr σ := by
  refine s_ne68 hp hg ht ha hb ?_; simpa [hc] using h
end

section
open Classical
set_option maxRecDepth 100000 in
theorem sameFiles_c (a b : List AFile) (ha : a.length ≤ 1000000) : RunsP Try.prog 25 [filesD a, filesD b] (fun v => v = .v (.bool (decide (a = b)))) := by
  refine enterP 26 Try.func25 rfl (by kernel_rfl) rfl rfl rfl ?_
  have e1 : (a.map fileD).length = a.length := by simp
  have e2 : (b.map fileD).length = b.length := by simp
  by_cases hl : a.length = b.length
  · repeat' (first
      | refine s_op rfl ?_ | (apply s_move; (iterate 4 (exact rfl))) | (apply s_ld_p tab_ok; (iterate 7 (exact rfl))) | (apply s_ld_f tab_ok; (iterate 6 (exact rfl))) | (apply s_ld_w tab_ok; (iterate 5 (exact rfl)); (first | exact patD_len _ | exact valD_len _))
      | (apply s_assign; (iterate 4 (exact rfl))) | (apply s_len tab_ok; (iterate 5 (exact rfl))) | (apply s_lens str_ok; (iterate 4 (exact rfl))) | (apply s_idx tab_ok; (iterate 7 (exact rfl)); (first | exact patR_get (by assumption) | exact valR_get (by assumption) | exact row_map (by assumption) | assumption)) | (apply s_neq_t; (iterate 5 (exact rfl)); omega)
      | (apply s_neq_f; (iterate 5 (exact rfl)); omega) | (apply s_lss_t; (iterate 5 (exact rfl)); omega) | (apply s_lss_f; (iterate 5 (exact rfl)); omega) | (apply s_add64; (iterate 5 (exact rfl)); omega)
      | refine al_nil ?_ | refine q_then_n ?_ | refine q_blk_n ?_ | refine q_blk_r ?_ | refine q_blk_e ?_
      | refine q_blk_o rfl ?_ | refine q_then_e ?_ | refine aw_block ?_ | refine aw_exit ?_ | refine q_then_r ?_
      | refine aw_seq ?_ | refine aw_reg ?_ | refine aw_true rfl ?_ | refine aw_false rfl ?_ | refine aw_skip ?_
      | refine aw_ret ?_ | refine al_fork ?_ ?_ | refine al_fork3 ?_ ?_ ?_
      | refine aw_draws (id := 6) (trO [0, 1, 2, 3, 4, 5, 6, 7, 8] .nil) [] [] mixed_ok (by kernel_rfl) ?_)
    refine w_loop [0, 1, 5] (fun n vs σ => ∃ k : Nat, vs = [.d (filesD a), .d (filesD b), .d (.v (.int .i64 (k : Int)))] ∧ σ = [] ∧ k ≤ a.length ∧ n = a.length - k ∧ a.take k = b.take k) rfl ⟨0, rfl, rfl, by omega, rfl, rfl⟩ ?_
    rintro n vs σ ⟨k, rfl, rfl, hk, rfl, hp⟩ fr hfr
    cases hfr
    by_cases hlt : k < a.length
    · obtain ⟨x, hx⟩ : ∃ x, a[k]? = some x := ⟨_, List.getElem?_eq_getElem hlt⟩
      obtain ⟨y, hy⟩ : ∃ y, b[k]? = some y := ⟨_, List.getElem?_eq_getElem (by omega)⟩
      by_cases hxy : x = y
      · repeat' (first
      | refine s_op rfl ?_ | (apply s_move; (iterate 4 (exact rfl))) | (apply s_ld_p tab_ok; (iterate 7 (exact rfl))) | (apply s_ld_f tab_ok; (iterate 6 (exact rfl))) | (apply s_ld_w tab_ok; (iterate 5 (exact rfl)); (first | exact patD_len _ | exact valD_len _))
      | (apply s_assign; (iterate 4 (exact rfl))) | (apply s_len tab_ok; (iterate 5 (exact rfl))) | (apply s_lens str_ok; (iterate 4 (exact rfl))) | (apply s_idx tab_ok; (iterate 7 (exact rfl)); (first | exact patR_get (by assumption) | exact valR_get (by assumption) | exact row_map (by assumption) | assumption)) | (apply s_neq_t; (iterate 5 (exact rfl)); omega)
      | (apply s_neq_f; (iterate 5 (exact rfl)); omega) | (apply s_lss_t; (iterate 5 (exact rfl)); omega) | (apply s_lss_f; (iterate 5 (exact rfl)); omega) | (apply s_add64; (iterate 5 (exact rfl)); omega)
      | (apply s_ne62_f; (iterate 5 (exact rfl)); assumption)
      | refine al_nil ?_ | refine q_then_n ?_ | refine q_blk_n ?_ | refine q_blk_r ?_ | refine q_blk_e ?_
      | refine q_blk_o rfl ?_ | refine q_then_e ?_ | refine aw_block ?_ | refine aw_exit ?_ | refine q_then_r ?_
      | refine aw_seq ?_ | refine aw_reg ?_ | refine aw_true rfl ?_ | refine aw_false rfl ?_ | refine aw_skip ?_
      | refine aw_ret ?_ | refine al_fork ?_ ?_ | refine al_fork3 ?_ ?_ ?_
      | refine aw_draws (id := 6) (trO [0, 1, 2, 3, 4, 5, 6, 7, 8] .nil) [] [] mixed_ok (by kernel_rfl) ?_)
        exact ⟨_, _, rfl, by omega, k + 1, rfl, rfl, by omega, rfl, take_ext hp hx hy hxy⟩
      · repeat' (first
      | refine s_op rfl ?_ | (apply s_move; (iterate 4 (exact rfl))) | (apply s_ld_p tab_ok; (iterate 7 (exact rfl))) | (apply s_ld_f tab_ok; (iterate 6 (exact rfl))) | (apply s_ld_w tab_ok; (iterate 5 (exact rfl)); (first | exact patD_len _ | exact valD_len _))
      | (apply s_assign; (iterate 4 (exact rfl))) | (apply s_len tab_ok; (iterate 5 (exact rfl))) | (apply s_lens str_ok; (iterate 4 (exact rfl))) | (apply s_idx tab_ok; (iterate 7 (exact rfl)); (first | exact patR_get (by assumption) | exact valR_get (by assumption) | exact row_map (by assumption) | assumption)) | (apply s_neq_t; (iterate 5 (exact rfl)); omega)
      | (apply s_neq_f; (iterate 5 (exact rfl)); omega) | (apply s_lss_t; (iterate 5 (exact rfl)); omega) | (apply s_lss_f; (iterate 5 (exact rfl)); omega) | (apply s_add64; (iterate 5 (exact rfl)); omega)
      | (apply s_ne62_t; (iterate 5 (exact rfl)); assumption)
      | refine al_nil ?_ | refine q_then_n ?_ | refine q_blk_n ?_ | refine q_blk_r ?_ | refine q_blk_e ?_
      | refine q_blk_o rfl ?_ | refine q_then_e ?_ | refine aw_block ?_ | refine aw_exit ?_ | refine q_then_r ?_
      | refine aw_seq ?_ | refine aw_reg ?_ | refine aw_true rfl ?_ | refine aw_false rfl ?_ | refine aw_skip ?_
      | refine aw_ret ?_ | refine al_fork ?_ ?_ | refine al_fork3 ?_ ?_ ?_
      | refine aw_draws (id := 6) (trO [0, 1, 2, 3, 4, 5, 6, 7, 8] .nil) [] [] mixed_ok (by kernel_rfl) ?_)
        exact q_ret rfl ⟨_, rfl, by rw [decide_eq_false]; rintro rfl; rw [hx] at hy; cases hy; exact hxy rfl⟩
    · repeat' (first
      | refine s_op rfl ?_ | (apply s_move; (iterate 4 (exact rfl))) | (apply s_ld_p tab_ok; (iterate 7 (exact rfl))) | (apply s_ld_f tab_ok; (iterate 6 (exact rfl))) | (apply s_ld_w tab_ok; (iterate 5 (exact rfl)); (first | exact patD_len _ | exact valD_len _))
      | (apply s_assign; (iterate 4 (exact rfl))) | (apply s_len tab_ok; (iterate 5 (exact rfl))) | (apply s_lens str_ok; (iterate 4 (exact rfl))) | (apply s_idx tab_ok; (iterate 7 (exact rfl)); (first | exact patR_get (by assumption) | exact valR_get (by assumption) | exact row_map (by assumption) | assumption)) | (apply s_neq_t; (iterate 5 (exact rfl)); omega)
      | (apply s_neq_f; (iterate 5 (exact rfl)); omega) | (apply s_lss_t; (iterate 5 (exact rfl)); omega) | (apply s_lss_f; (iterate 5 (exact rfl)); omega) | (apply s_add64; (iterate 5 (exact rfl)); omega)
      | refine al_nil ?_ | refine q_then_n ?_ | refine q_blk_n ?_ | refine q_blk_r ?_ | refine q_blk_e ?_
      | refine q_blk_o rfl ?_ | refine q_then_e ?_ | refine aw_block ?_ | refine aw_exit ?_ | refine q_then_r ?_
      | refine aw_seq ?_ | refine aw_reg ?_ | refine aw_true rfl ?_ | refine aw_false rfl ?_ | refine aw_skip ?_
      | refine aw_ret ?_ | refine al_fork ?_ ?_ | refine al_fork3 ?_ ?_ ?_
      | refine aw_draws (id := 6) (trO [0, 1, 2, 3, 4, 5, 6, 7, 8] .nil) [] [] mixed_ok (by kernel_rfl) ?_)
      refine q_ret rfl ⟨_, rfl, ?_⟩
      rw [decide_eq_true]
      have h1 := List.take_of_length_le (l := a) (i := k) (by omega)
      have h2 := List.take_of_length_le (l := b) (i := k) (by omega)
      rw [← h1, ← h2, hp]
  · repeat' (first
      | refine s_op rfl ?_ | (apply s_move; (iterate 4 (exact rfl))) | (apply s_ld_p tab_ok; (iterate 7 (exact rfl))) | (apply s_ld_f tab_ok; (iterate 6 (exact rfl))) | (apply s_ld_w tab_ok; (iterate 5 (exact rfl)); (first | exact patD_len _ | exact valD_len _))
      | (apply s_assign; (iterate 4 (exact rfl))) | (apply s_len tab_ok; (iterate 5 (exact rfl))) | (apply s_lens str_ok; (iterate 4 (exact rfl))) | (apply s_idx tab_ok; (iterate 7 (exact rfl)); (first | exact patR_get (by assumption) | exact valR_get (by assumption) | exact row_map (by assumption) | assumption)) | (apply s_neq_t; (iterate 5 (exact rfl)); omega)
      | (apply s_neq_f; (iterate 5 (exact rfl)); omega) | (apply s_lss_t; (iterate 5 (exact rfl)); omega) | (apply s_lss_f; (iterate 5 (exact rfl)); omega) | (apply s_add64; (iterate 5 (exact rfl)); omega)
      | refine al_nil ?_ | refine q_then_n ?_ | refine q_blk_n ?_ | refine q_blk_r ?_ | refine q_blk_e ?_
      | refine q_blk_o rfl ?_ | refine q_then_e ?_ | refine aw_block ?_ | refine aw_exit ?_ | refine q_then_r ?_
      | refine aw_seq ?_ | refine aw_reg ?_ | refine aw_true rfl ?_ | refine aw_false rfl ?_ | refine aw_skip ?_
      | refine aw_ret ?_ | refine al_fork ?_ ?_ | refine al_fork3 ?_ ?_ ?_
      | refine aw_draws (id := 6) (trO [0, 1, 2, 3, 4, 5, 6, 7, 8] .nil) [] [] mixed_ok (by kernel_rfl) ?_)
    exact q_ret rfl ⟨_, rfl, by rw [decide_eq_false]; rintro rfl; exact hl rfl⟩

set_option maxRecDepth 100000 in
theorem sameTrace_c (a b : List AOp) (ha : a.length ≤ 1000000) : RunsP Try.prog 27 [traceD a, traceD b] (fun v => v = .v (.bool (decide (a = b)))) := by
  refine enterP 26 Try.func27 rfl (by kernel_rfl) rfl rfl rfl ?_
  have e1 : (a.map opD).length = a.length := by simp
  have e2 : (b.map opD).length = b.length := by simp
  by_cases hl : a.length = b.length
  · repeat' (first
      | refine s_op rfl ?_ | (apply s_move; (iterate 4 (exact rfl))) | (apply s_ld_p tab_ok; (iterate 7 (exact rfl))) | (apply s_ld_f tab_ok; (iterate 6 (exact rfl))) | (apply s_ld_w tab_ok; (iterate 5 (exact rfl)); (first | exact patD_len _ | exact valD_len _))
      | (apply s_assign; (iterate 4 (exact rfl))) | (apply s_len tab_ok; (iterate 5 (exact rfl))) | (apply s_lens str_ok; (iterate 4 (exact rfl))) | (apply s_idx tab_ok; (iterate 7 (exact rfl)); (first | exact patR_get (by assumption) | exact valR_get (by assumption) | exact row_map (by assumption) | assumption)) | (apply s_neq_t; (iterate 5 (exact rfl)); omega)
      | (apply s_neq_f; (iterate 5 (exact rfl)); omega) | (apply s_lss_t; (iterate 5 (exact rfl)); omega) | (apply s_lss_f; (iterate 5 (exact rfl)); omega) | (apply s_add64; (iterate 5 (exact rfl)); omega)
      | refine al_nil ?_ | refine q_then_n ?_ | refine q_blk_n ?_ | refine q_blk_r ?_ | refine q_blk_e ?_
      | refine q_blk_o rfl ?_ | refine q_then_e ?_ | refine aw_block ?_ | refine aw_exit ?_ | refine q_then_r ?_
      | refine aw_seq ?_ | refine aw_reg ?_ | refine aw_true rfl ?_ | refine aw_false rfl ?_ | refine aw_skip ?_
      | refine aw_ret ?_ | refine al_fork ?_ ?_ | refine al_fork3 ?_ ?_ ?_
      | refine aw_draws (id := 6) (trO [0, 1, 2, 3, 4, 5, 6, 7, 8] .nil) [] [] mixed_ok (by kernel_rfl) ?_)
    refine w_loop [0, 1, 5] (fun n vs σ => ∃ k : Nat, vs = [.d (traceD a), .d (traceD b), .d (.v (.int .i64 (k : Int)))] ∧ σ = [] ∧ k ≤ a.length ∧ n = a.length - k ∧ a.take k = b.take k) rfl ⟨0, rfl, rfl, by omega, rfl, rfl⟩ ?_
    rintro n vs σ ⟨k, rfl, rfl, hk, rfl, hp⟩ fr hfr
    cases hfr
    by_cases hlt : k < a.length
    · obtain ⟨x, hx⟩ : ∃ x, a[k]? = some x := ⟨_, List.getElem?_eq_getElem hlt⟩
      obtain ⟨y, hy⟩ : ∃ y, b[k]? = some y := ⟨_, List.getElem?_eq_getElem (by omega)⟩
      by_cases hxy : x = y
      · repeat' (first
      | refine s_op rfl ?_ | (apply s_move; (iterate 4 (exact rfl))) | (apply s_ld_p tab_ok; (iterate 7 (exact rfl))) | (apply s_ld_f tab_ok; (iterate 6 (exact rfl))) | (apply s_ld_w tab_ok; (iterate 5 (exact rfl)); (first | exact patD_len _ | exact valD_len _))
      | (apply s_assign; (iterate 4 (exact rfl))) | (apply s_len tab_ok; (iterate 5 (exact rfl))) | (apply s_lens str_ok; (iterate 4 (exact rfl))) | (apply s_idx tab_ok; (iterate 7 (exact rfl)); (first | exact patR_get (by assumption) | exact valR_get (by assumption) | exact row_map (by assumption) | assumption)) | (apply s_neq_t; (iterate 5 (exact rfl)); omega)
      | (apply s_neq_f; (iterate 5 (exact rfl)); omega) | (apply s_lss_t; (iterate 5 (exact rfl)); omega) | (apply s_lss_f; (iterate 5 (exact rfl)); omega) | (apply s_add64; (iterate 5 (exact rfl)); omega)
      | (apply s_ne68_f; (iterate 5 (exact rfl)); assumption)
      | refine al_nil ?_ | refine q_then_n ?_ | refine q_blk_n ?_ | refine q_blk_r ?_ | refine q_blk_e ?_
      | refine q_blk_o rfl ?_ | refine q_then_e ?_ | refine aw_block ?_ | refine aw_exit ?_ | refine q_then_r ?_
      | refine aw_seq ?_ | refine aw_reg ?_ | refine aw_true rfl ?_ | refine aw_false rfl ?_ | refine aw_skip ?_
      | refine aw_ret ?_ | refine al_fork ?_ ?_ | refine al_fork3 ?_ ?_ ?_
      | refine aw_draws (id := 6) (trO [0, 1, 2, 3, 4, 5, 6, 7, 8] .nil) [] [] mixed_ok (by kernel_rfl) ?_)
        exact ⟨_, _, rfl, by omega, k + 1, rfl, rfl, by omega, rfl, take_ext hp hx hy hxy⟩
      · repeat' (first
      | refine s_op rfl ?_ | (apply s_move; (iterate 4 (exact rfl))) | (apply s_ld_p tab_ok; (iterate 7 (exact rfl))) | (apply s_ld_f tab_ok; (iterate 6 (exact rfl))) | (apply s_ld_w tab_ok; (iterate 5 (exact rfl)); (first | exact patD_len _ | exact valD_len _))
      | (apply s_assign; (iterate 4 (exact rfl))) | (apply s_len tab_ok; (iterate 5 (exact rfl))) | (apply s_lens str_ok; (iterate 4 (exact rfl))) | (apply s_idx tab_ok; (iterate 7 (exact rfl)); (first | exact patR_get (by assumption) | exact valR_get (by assumption) | exact row_map (by assumption) | assumption)) | (apply s_neq_t; (iterate 5 (exact rfl)); omega)
      | (apply s_neq_f; (iterate 5 (exact rfl)); omega) | (apply s_lss_t; (iterate 5 (exact rfl)); omega) | (apply s_lss_f; (iterate 5 (exact rfl)); omega) | (apply s_add64; (iterate 5 (exact rfl)); omega)
      | (apply s_ne68_t; (iterate 5 (exact rfl)); assumption)
      | refine al_nil ?_ | refine q_then_n ?_ | refine q_blk_n ?_ | refine q_blk_r ?_ | refine q_blk_e ?_
      | refine q_blk_o rfl ?_ | refine q_then_e ?_ | refine aw_block ?_ | refine aw_exit ?_ | refine q_then_r ?_
      | refine aw_seq ?_ | refine aw_reg ?_ | refine aw_true rfl ?_ | refine aw_false rfl ?_ | refine aw_skip ?_
      | refine aw_ret ?_ | refine al_fork ?_ ?_ | refine al_fork3 ?_ ?_ ?_
      | refine aw_draws (id := 6) (trO [0, 1, 2, 3, 4, 5, 6, 7, 8] .nil) [] [] mixed_ok (by kernel_rfl) ?_)
        exact q_ret rfl ⟨_, rfl, by rw [decide_eq_false]; rintro rfl; rw [hx] at hy; cases hy; exact hxy rfl⟩
    · repeat' (first
      | refine s_op rfl ?_ | (apply s_move; (iterate 4 (exact rfl))) | (apply s_ld_p tab_ok; (iterate 7 (exact rfl))) | (apply s_ld_f tab_ok; (iterate 6 (exact rfl))) | (apply s_ld_w tab_ok; (iterate 5 (exact rfl)); (first | exact patD_len _ | exact valD_len _))
      | (apply s_assign; (iterate 4 (exact rfl))) | (apply s_len tab_ok; (iterate 5 (exact rfl))) | (apply s_lens str_ok; (iterate 4 (exact rfl))) | (apply s_idx tab_ok; (iterate 7 (exact rfl)); (first | exact patR_get (by assumption) | exact valR_get (by assumption) | exact row_map (by assumption) | assumption)) | (apply s_neq_t; (iterate 5 (exact rfl)); omega)
      | (apply s_neq_f; (iterate 5 (exact rfl)); omega) | (apply s_lss_t; (iterate 5 (exact rfl)); omega) | (apply s_lss_f; (iterate 5 (exact rfl)); omega) | (apply s_add64; (iterate 5 (exact rfl)); omega)
      | refine al_nil ?_ | refine q_then_n ?_ | refine q_blk_n ?_ | refine q_blk_r ?_ | refine q_blk_e ?_
      | refine q_blk_o rfl ?_ | refine q_then_e ?_ | refine aw_block ?_ | refine aw_exit ?_ | refine q_then_r ?_
      | refine aw_seq ?_ | refine aw_reg ?_ | refine aw_true rfl ?_ | refine aw_false rfl ?_ | refine aw_skip ?_
      | refine aw_ret ?_ | refine al_fork ?_ ?_ | refine al_fork3 ?_ ?_ ?_
      | refine aw_draws (id := 6) (trO [0, 1, 2, 3, 4, 5, 6, 7, 8] .nil) [] [] mixed_ok (by kernel_rfl) ?_)
      refine q_ret rfl ⟨_, rfl, ?_⟩
      rw [decide_eq_true]
      have h1 := List.take_of_length_le (l := a) (i := k) (by omega)
      have h2 := List.take_of_length_le (l := b) (i := k) (by omega)
      rw [← h1, ← h2, hp]
  · repeat' (first
      | refine s_op rfl ?_ | (apply s_move; (iterate 4 (exact rfl))) | (apply s_ld_p tab_ok; (iterate 7 (exact rfl))) | (apply s_ld_f tab_ok; (iterate 6 (exact rfl))) | (apply s_ld_w tab_ok; (iterate 5 (exact rfl)); (first | exact patD_len _ | exact valD_len _))
      | (apply s_assign; (iterate 4 (exact rfl))) | (apply s_len tab_ok; (iterate 5 (exact rfl))) | (apply s_lens str_ok; (iterate 4 (exact rfl))) | (apply s_idx tab_ok; (iterate 7 (exact rfl)); (first | exact patR_get (by assumption) | exact valR_get (by assumption) | exact row_map (by assumption) | assumption)) | (apply s_neq_t; (iterate 5 (exact rfl)); omega)
      | (apply s_neq_f; (iterate 5 (exact rfl)); omega) | (apply s_lss_t; (iterate 5 (exact rfl)); omega) | (apply s_lss_f; (iterate 5 (exact rfl)); omega) | (apply s_add64; (iterate 5 (exact rfl)); omega)
      | refine al_nil ?_ | refine q_then_n ?_ | refine q_blk_n ?_ | refine q_blk_r ?_ | refine q_blk_e ?_
      | refine q_blk_o rfl ?_ | refine q_then_e ?_ | refine aw_block ?_ | refine aw_exit ?_ | refine q_then_r ?_
      | refine aw_seq ?_ | refine aw_reg ?_ | refine aw_true rfl ?_ | refine aw_false rfl ?_ | refine aw_skip ?_
      | refine aw_ret ?_ | refine al_fork ?_ ?_ | refine al_fork3 ?_ ?_ ?_
      | refine aw_draws (id := 6) (trO [0, 1, 2, 3, 4, 5, 6, 7, 8] .nil) [] [] mixed_ok (by kernel_rfl) ?_)
    exact q_ret rfl ⟨_, rfl, by rw [decide_eq_false]; rintro rfl; exact hl rfl⟩
end
end Go.Proofs.Ytlpgekodoiioaaa
