/- WorldTells: a round: write. -/
import Derived.Test.YtlpgekodoiioaaaS8D
set_option linter.unusedSimpArgs false
set_option linter.unusedVariables false
namespace Go.Proofs.Ytlpgekodoiioaaa
open Go.RowKit
-- DEF LDX: (apply s_ldF tab_ok; (iterate 5 (exact rfl)); exact hX; exact rfl)

set_option maxRecDepth 100000 in
set_option maxHeartbeats 8000000 in
theorem round_write {files : List AFile} {W : AW} {locA locM locN locP k vN vP lp : Nat} {M : List (ByteArray × ByteArray)} {N : List ByteArray} {P : List Nat} {σ : List AObj} (nAM : locA ≠ locM) (nAN : locA ≠ locN) (nMN : locM ≠ locN) (nAP : locA ≠ locP) (nMP : locM ≠ locP) (nNP : locN ≠ locP)
    (hct : W.trace.length ≤ 300) (hlt : k < W.trace.length) (hA : σ[locA]? = some (wo W)) (hM : σ[locM]? = some (mo M)) (hN : σ[locN]? = some (.arr 9 1 vN (N.map strR))) (hP : σ[locP]? = some (.arr 3 1 vP (P.map natD))) (hlp : lp = P.length) (hl : N.length = P.length) (hlk : N.length ≤ k)
    (i : Nat) (name nm x t : ByteArray) (h1 : N[i]? = some name) (h : getA name M = some t) (h4 : (t ++ x).size ≤ 4000) (hr : (W.trace.map opD)[k]? = some (opD ⟨3, i, nm, x, true⟩)) (ht : Told ⟨putA name (t ++ x) M, N, P⟩ (W.trace.drop (k + 1)) W.rs) {X : Code} (hX : body2 = some X) :
    AWk Try.prog 240 X (TQ files W locA locM locN locP (k + 1)) ([0, 6, 7, 9, 12, 13, 58, 59, 60].zip [.d (filesD files), .d (.v (.bool false)), .ptr locA 0 0, .mp locM, .own locN vN 1 0 N.length, .own locP vP 1 0 lp, .d (traceD W.trace), .d (.v (.int .i64 ((W.trace.map opD).length : Int))), .d (.v (.int .i64 (k : Int)))]) σ := by
  cases hX
  have e2 : (W.trace.map opD).length = W.trace.length := by simp
  have hee : emptyB = ⟨#[]⟩ := rfl
  dsimp only [opD] at hr
  have hNi := row_of (f := strR) h1
  have hil := (List.getElem?_eq_some_iff.1 h1).1
  have hg1 := (av_getD h).1
  have hput := av_put name (t ++ x) M
  have h5 : t.size + x.size ≤ 4000 := by simpa using h4
  repeat' (first
      | refine s_op rfl ?_ | (apply s_skipV; (iterate 2 (exact rfl))) | (apply s_skipU; (iterate 3 (exact rfl))) | (apply s_move; (iterate 4 (exact rfl))) | (apply s_fa_p tab_ok; (iterate 5 (exact rfl)))
      | (apply s_fa_f tab_ok; (iterate 6 (exact rfl))) | (apply s_ld_p tab_ok; (iterate 7 (exact rfl))) | (apply s_ld_f tab_ok; (iterate 6 (exact rfl))) | (apply s_ld_w tab_ok; (iterate 5 (exact rfl)); (first | exact patD_len _ | exact valD_len _)) | (apply s_assign; (iterate 4 (exact rfl)))
      | (apply s_pick_t; (iterate 5 (exact rfl))) | (apply s_pick_f; (iterate 5 (exact rfl))) | (apply s_len tab_ok; (iterate 5 (exact rfl))) | (apply s_lens str_ok; (iterate 4 (exact rfl))) | (apply s_idx tab_ok; (iterate 7 (exact rfl)); (first | exact patR_get (by assumption) | exact valR_get (by assumption) | exact row_map (by assumption) | assumption))
      | (apply s_slice tab_ok; (iterate 8 (exact rfl)); (simp; omega)) | (apply s_ext; (iterate 5 (exact rfl))) | (apply s_lit tab_ok tabZ_ok; (iterate 10 (exact rfl))) | (apply s_lit1 tab_ok tabZ_ok; (iterate 9 (exact rfl)); (first | exact patD_len _ | exact valD_len _)) | (apply s_not_t; (iterate 4 (exact rfl)))
      | (apply s_not_f; (iterate 4 (exact rfl))) | (apply s_not; (iterate 4 (exact rfl))) | (apply s_eql_t; (iterate 5 (exact rfl)); omega) | (apply s_eql_f; (iterate 5 (exact rfl)); omega) | (apply s_neq_t; (iterate 5 (exact rfl)); omega)
      | (apply s_neq_f; (iterate 5 (exact rfl)); omega) | (apply s_lss_t; (iterate 5 (exact rfl)); omega) | (apply s_lss_f; (iterate 5 (exact rfl)); omega) | (apply s_gtr_t; (iterate 5 (exact rfl)); omega) | (apply s_gtr_f; (iterate 5 (exact rfl)); omega)
      | (apply s_geq_t; (iterate 5 (exact rfl)); omega) | (apply s_geq_f; (iterate 5 (exact rfl)); omega) | (apply s_add64; (iterate 5 (exact rfl)); omega) | (apply s_strne_t; (iterate 5 (exact rfl)); assumption) | (apply s_strne_f; (iterate 5 (exact rfl)); assumption)
      | (apply s_stradd; (iterate 5 (exact rfl)); omega)
      | (apply s_allocF tabZ_ok; (iterate 6 (exact rfl)); intro locX σ hc; have hX := hc.at'; have nAX := hc.ne hA; replace hA := hc.keep hA; have nMX := hc.ne hM; replace hM := hc.keep hM; have nNX := hc.ne hN; replace hN := hc.keep hN; have nPX := hc.ne hP; replace hP := hc.keep hP; clear hc)
      | (apply s_storeF tab_ok; (iterate 7 (exact rfl)); exact hX; (iterate 2 (exact rfl)); intro σ hc; replace hX := hc.at'; replace hA := hc.keep (by first | assumption | (apply Ne.symm; assumption) | omega) hA; replace hM := hc.keep (by first | assumption | (apply Ne.symm; assumption) | omega) hM; replace hN := hc.keep (by first | assumption | (apply Ne.symm; assumption) | omega) hN; replace hP := hc.keep (by first | assumption | (apply Ne.symm; assumption) | omega) hP; clear hc)
      | (apply s_ldF tab_ok; (iterate 5 (exact rfl)); exact hX; exact rfl)
      | (apply s_idxO i tab_ok; (iterate 7 (exact rfl)); exact hN; exact ⟨hil, by omega⟩)
      | (apply s_ldA i 0 tab_ok; (iterate 5 (exact rfl)); exact hN; exact hNi; omega; exact rfl)
      | (apply s_lookup1 (str_law str_ok) map_ok z9 name (avM M) (.d (.v (.string t))); (iterate 4 (exact rfl)); exact hM; exact rfl; exact hg1)
      | (apply s_mapUpdateF (str_law str_ok) map_ok name (avM M) (avM (putA name (t ++ x) M)); (iterate 4 (exact rfl)); exact hM; exact rfl; exact hput; intro σ hc; replace hM := hc.at'; replace hA := hc.keep (by first | assumption | (apply Ne.symm; assumption) | omega) hA; replace hN := hc.keep (by first | assumption | (apply Ne.symm; assumption) | omega) hN; replace hP := hc.keep (by first | assumption | (apply Ne.symm; assumption) | omega) hP; replace hX := hc.keep (by first | assumption | (apply Ne.symm; assumption) | omega) hX; clear hc)
      | refine al_nil ?_ | refine q_then_n ?_ | refine q_blk_n ?_ | refine q_blk_r ?_ | refine q_blk_e ?_
      | refine q_blk_o rfl ?_ | refine q_then_e ?_ | refine aw_block ?_ | refine aw_exit ?_ | refine q_then_r ?_
      | refine aw_seq ?_ | refine aw_reg ?_ | refine aw_true rfl ?_ | refine aw_false rfl ?_ | refine aw_skip ?_
      | refine aw_ret ?_ | refine al_fork ?_ ?_ | refine al_fork3 ?_ ?_ ?_
      | refine aw_draws (id := 32) (trO [0, 1, 2, 3, 4, 5, 6, 7, 8, 9] .nil) [] [] mixed_ok (by kernel_rfl) ?_
      | refine aw_draws (id := 35) (trO [0, 1, 2, 3, 4, 5, 6, 7, 8, 9, 10] .nil) [10] [10] mixed_ok (by kernel_rfl) ?_
      | refine aw_draws (id := 46) (trO [0, 1, 2, 3, 4, 5, 6, 7, 8, 9, 10, 11, 12, 13, 14, 15, 16, 17, 18, 19, 20, 21, 22] .nil) [] [] mixed_ok (by kernel_rfl) ?_)
  all_goals exact ⟨rfl, _, rfl, _, _, _, _, _, _, rfl, hA, hM, hN, hP, ht, by (first | omega | (simp; omega)), by (first | omega | (simp; omega)), by (first | omega | (simp; omega)), by omega⟩
end Go.Proofs.Ytlpgekodoiioaaa
