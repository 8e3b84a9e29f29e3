/- C61: cases, of the document: the shapes that a place has. -/
import Derived.Test.YtjflembhgjcgkaaXC59C60
set_option linter.unusedSimpArgs false
set_option linter.unusedVariables false
-- ALLUNDEF -- BOXZ
-- LEN: patD_len
-- ROW: patR_get row_map
-- DEF CC: (refine ⟨?_, ?_, ?_⟩ <;> first | omega | (simp only [ht, List.length_append, List.length_map, List.length_cons, List.length_nil] <;> omega))
namespace Go.Proofs.Ytjflembhgjcgkaa
open Go.RowKit

def bareD : Pat → List DV
  | .mk k n i s a b c _ => [.v (.int .u8 k), .v (.int .i64 n), .v (.int .i64 i), .v (.string s), .v (.int .i64 a), .v (.int .i64 b), .v (.int .i64 c), .nil]
theorem wkR_bare : ∀ {l : List Pat}, (∀ p ∈ l, p.l = []) → WkR (l.map bareD) (patR l)
  | [], _ => trivial
  | .mk k n i s a b c m :: l, h => by
    have hm : m = [] := h _ (List.mem_cons_self ..)
    subst hm
    exact ⟨⟨Wk.refl _, Wk.refl _, Wk.refl _, Wk.refl _, Wk.refl _, Wk.refl _, Wk.refl _, Wk.nil 8, trivial⟩, wkR_bare fun p hp => h p (List.mem_cons_of_mem _ hp)⟩
theorem wk_bare {l : List Pat} (h : ∀ p ∈ l, p.l = []) : Wk (.lst 8 (l.map bareD)) (patsD l) := Wk.lst (wkR_bare h)
def litI (i : Int) : Pat := .mk 3 0 i ⟨#[]⟩ 0 0 0 []
def litS (s : ByteArray) : Pat := .mk 4 0 0 s 0 0 0 []
theorem take_next {α : Type} {l : List α} {k : Nat} {x : α} (h : l[k]? = some x) : l.take (k + 1) = l.take k ++ [x] := by rw [List.take_add_one, h]; rfl

section
variable {g : Sg} {L : List Pat} {N : List Int} {S : List ByteArray} {n i : Int} {s : ByteArray} {a b c : Int} {l : List Pat}
set_option maxRecDepth 100000 in
set_option maxHeartbeats 8000000 in
theorem cases_int (hN : N.length ≤ 1000000) : RunsP Try.prog 121 [.agg (roomL g L N S), .agg (patD (.mk 3 n i s a b c l))] (fun v => v = patsD (N.map litI)) := by
  have e1 : (N.map intRow).length = N.length := by simp
  refine enterPB 91 tab_ok Try.func121 rfl (by kernel_rfl) rfl rfl rfl ?_
  repeat' (first
      | refine s_op rfl ?_ | (apply s_move; (iterate 4 (exact rfl))) | (apply s_fa_p tab_ok; (iterate 5 (exact rfl))) | (apply s_fa_f tab_ok; (iterate 6 (exact rfl))) | (apply s_ld_p tab_ok; (iterate 7 (exact rfl)))
      | (apply s_ld_f tab_ok; (iterate 6 (exact rfl))) | (apply s_ld_w tab_ok; (iterate 5 (exact rfl)); (first | exact patD_len _)) | (apply s_assign; (iterate 4 (exact rfl))) | (apply s_len tab_ok; (iterate 5 (exact rfl))) | (apply s_lens str_ok; (iterate 4 (exact rfl)))
      | (apply s_idx tab_ok; (iterate 7 (exact rfl)); (first | exact patR_get (by assumption) | exact row_map (by assumption) | assumption)) | (apply s_build tabZ_ok; (iterate 5 (exact rfl))) | (apply s_boxZ; (iterate 5 (exact rfl)); first | exact rfl | exact allD_mapd _) | (apply s_lit tab_ok tabZ_ok; (iterate 10 (exact rfl))) | (apply s_lit1 tab_ok tabZ_ok; (iterate 9 (exact rfl)); (first | exact patD_len _))
      | (apply s_app tab_ok tabZ_ok; (iterate 13 (exact rfl)); (first | (simp; done) | (simp; omega))) | (apply s_eql_t; (iterate 5 (exact rfl)); omega) | (apply s_eql_f; (iterate 5 (exact rfl)); omega) | (apply s_lss_t; (iterate 5 (exact rfl)); omega) | (apply s_lss_f; (iterate 5 (exact rfl)); omega)
      | (apply s_add64; (iterate 5 (exact rfl)); omega)
      | refine al_nil ?_ | refine q_then_n ?_ | refine q_blk_n ?_ | refine q_blk_r ?_ | refine q_blk_e ?_
      | refine q_blk_o rfl ?_ | refine q_then_e ?_ | refine aw_block ?_ | refine aw_exit ?_ | refine q_then_r ?_
      | refine aw_seq ?_ | refine aw_reg ?_ | refine aw_true rfl ?_ | refine aw_false rfl ?_ | refine aw_skip ?_
      | refine aw_ret ?_ | refine al_fork ?_ ?_ | refine al_fork3 ?_ ?_ ?_
      | refine aw_draws (id := 14) (trO [0, 1, 2, 3, 4, 5, 6, 7, 8, 9, 10, 11, 12, 13, 14] .nil) [] [] mixed_ok (by kernel_rfl) ?_
      | refine aw_draws (id := 18) (trO [0, 1, 2, 3, 4, 5, 6, 7, 8, 9, 10, 11, 12, 13, 14, 15, 16, 17, 18, 19, 20] .nil) [16, 18, 19] [19] mixed_ok (by kernel_rfl) ?_)
  refine w_adoptF 5 41 8 rfl ?_
  intro locA σ hc; have hA := hc.at'; clear hc
  refine w_loop [2, 5, 6] (fun n vs σ => ∃ k ver m : Nat, vs = [.d (.fptr (roomL g L N S)), .own locA ver 8 0 m, .d (.v (.int .i64 (k : Int)))] ∧ σ[locA]? = some (.arr 41 8 ver (((N.take k).map litI).map bareD)) ∧ m = k ∧ k ≤ N.length ∧ n = N.length - k) rfl ⟨0, 0, 0, rfl, hA, rfl, by omega, rfl⟩ ?_
  clear hA
  rintro n vs σ ⟨k, ver, m, rfl, hA, hm, hk, rfl⟩ fr hfr
  cases hfr
  have htl : (N.take k).length = k := by rw [List.length_take]; omega
  by_cases hlt : k < N.length
  · obtain ⟨x, hx⟩ := getS hlt
    have ht := take_next hx
    repeat' (first
      | refine s_op rfl ?_ | (apply s_move; (iterate 4 (exact rfl))) | (apply s_fa_p tab_ok; (iterate 5 (exact rfl))) | (apply s_fa_f tab_ok; (iterate 6 (exact rfl))) | (apply s_ld_p tab_ok; (iterate 7 (exact rfl)))
      | (apply s_ld_f tab_ok; (iterate 6 (exact rfl))) | (apply s_ld_w tab_ok; (iterate 5 (exact rfl)); (first | exact patD_len _)) | (apply s_assign; (iterate 4 (exact rfl))) | (apply s_len tab_ok; (iterate 5 (exact rfl))) | (apply s_lens str_ok; (iterate 4 (exact rfl)))
      | (apply s_idx tab_ok; (iterate 7 (exact rfl)); (first | exact patR_get (by assumption) | exact row_map (by assumption) | assumption)) | (apply s_build tabZ_ok; (iterate 5 (exact rfl))) | (apply s_boxZ; (iterate 5 (exact rfl)); first | exact rfl | exact allD_mapd _) | (apply s_lit tab_ok tabZ_ok; (iterate 10 (exact rfl))) | (apply s_lit1 tab_ok tabZ_ok; (iterate 9 (exact rfl)); (first | exact patD_len _))
      | (apply s_eql_t; (iterate 5 (exact rfl)); omega) | (apply s_eql_f; (iterate 5 (exact rfl)); omega) | (apply s_lss_t; (iterate 5 (exact rfl)); omega) | (apply s_lss_f; (iterate 5 (exact rfl)); omega) | (apply s_add64; (iterate 5 (exact rfl)); omega)
      | (apply s_appF tab_ok tabZ_ok (rows2 := [bareD (litI x)]) (rows3 := ((N.take (k + 1)).map litI).map bareD) (m := k + 1); (iterate 10 (exact rfl)); exact hA; exact src_of (Tab.slIs tab_ok (t := 26) rfl) (rows_d rfl); (simp only [ht, List.map_append, List.map_cons, List.map_nil]); (refine ⟨?_, ?_, ?_⟩ <;> first | omega | (simp only [ht, List.length_append, List.length_map, List.length_cons, List.length_nil] <;> omega)); intro σ hc; replace hA := hc.at'; clear hc)
      | refine al_nil ?_ | refine q_then_n ?_ | refine q_blk_n ?_ | refine q_blk_r ?_ | refine q_blk_e ?_
      | refine q_blk_o rfl ?_ | refine q_then_e ?_ | refine aw_block ?_ | refine aw_exit ?_ | refine q_then_r ?_
      | refine aw_seq ?_ | refine aw_reg ?_ | refine aw_true rfl ?_ | refine aw_false rfl ?_ | refine aw_skip ?_
      | refine aw_ret ?_ | refine al_fork ?_ ?_ | refine al_fork3 ?_ ?_ ?_
      | refine aw_draws (id := 14) (trO [0, 1, 2, 3, 4, 5, 6, 7, 8, 9, 10, 11, 12, 13, 14] .nil) [] [] mixed_ok (by kernel_rfl) ?_
      | refine aw_draws (id := 18) (trO [0, 1, 2, 3, 4, 5, 6, 7, 8, 9, 10, 11, 12, 13, 14, 15, 16, 17, 18, 19, 20] .nil) [16, 18, 19] [19] mixed_ok (by kernel_rfl) ?_)
    exact ⟨_, _, rfl, by omega, k + 1, _, _, rfl, hA, rfl, by omega, rfl⟩
  · rw [List.take_of_length_le (by omega)] at hA
    repeat' (first
      | refine s_op rfl ?_ | (apply s_move; (iterate 4 (exact rfl))) | (apply s_fa_p tab_ok; (iterate 5 (exact rfl))) | (apply s_fa_f tab_ok; (iterate 6 (exact rfl))) | (apply s_ld_p tab_ok; (iterate 7 (exact rfl)))
      | (apply s_ld_f tab_ok; (iterate 6 (exact rfl))) | (apply s_ld_w tab_ok; (iterate 5 (exact rfl)); (first | exact patD_len _)) | (apply s_assign; (iterate 4 (exact rfl))) | (apply s_len tab_ok; (iterate 5 (exact rfl))) | (apply s_lens str_ok; (iterate 4 (exact rfl)))
      | (apply s_idx tab_ok; (iterate 7 (exact rfl)); (first | exact patR_get (by assumption) | exact row_map (by assumption) | assumption)) | (apply s_build tabZ_ok; (iterate 5 (exact rfl))) | (apply s_boxZ; (iterate 5 (exact rfl)); first | exact rfl | exact allD_mapd _) | (apply s_lit tab_ok tabZ_ok; (iterate 10 (exact rfl))) | (apply s_lit1 tab_ok tabZ_ok; (iterate 9 (exact rfl)); (first | exact patD_len _))
      | (apply s_app tab_ok tabZ_ok; (iterate 13 (exact rfl)); (first | (simp; done) | (simp; omega))) | (apply s_eql_t; (iterate 5 (exact rfl)); omega) | (apply s_eql_f; (iterate 5 (exact rfl)); omega) | (apply s_lss_t; (iterate 5 (exact rfl)); omega) | (apply s_lss_f; (iterate 5 (exact rfl)); omega)
      | (apply s_add64; (iterate 5 (exact rfl)); omega)
      | (refine w_freezeF 5 rfl hA (by simp; omega) ?_; intro σ hc; clear hA hc; refine w_wk 5 (patsD (N.map litI)) rfl (wk_bare fun p hp => by obtain ⟨x, _, rfl⟩ := List.mem_map.1 hp; rfl) ?_)
      | refine al_nil ?_ | refine q_then_n ?_ | refine q_blk_n ?_ | refine q_blk_r ?_ | refine q_blk_e ?_
      | refine q_blk_o rfl ?_ | refine q_then_e ?_ | refine aw_block ?_ | refine aw_exit ?_ | refine q_then_r ?_
      | refine aw_seq ?_ | refine aw_reg ?_ | refine aw_true rfl ?_ | refine aw_false rfl ?_ | refine aw_skip ?_
      | refine aw_ret ?_ | refine al_fork ?_ ?_ | refine al_fork3 ?_ ?_ ?_
      | refine aw_draws (id := 14) (trO [0, 1, 2, 3, 4, 5, 6, 7, 8, 9, 10, 11, 12, 13, 14] .nil) [] [] mixed_ok (by kernel_rfl) ?_
      | refine aw_draws (id := 18) (trO [0, 1, 2, 3, 4, 5, 6, 7, 8, 9, 10, 11, 12, 13, 14, 15, 16, 17, 18, 19, 20] .nil) [16, 18, 19] [19] mixed_ok (by kernel_rfl) ?_)
    all_goals exact q_retB (resB_1 rfl (resV_t rfl)) ⟨_, rfl, rfl⟩
set_option maxRecDepth 100000 in
set_option maxHeartbeats 8000000 in
theorem cases_str (hN : S.length ≤ 1000000) : RunsP Try.prog 121 [.agg (roomL g L N S), .agg (patD (.mk 4 n i s a b c l))] (fun v => v = patsD (S.map litS)) := by
  have e1 : (S.map txtRow).length = S.length := by simp
  refine enterPB 91 tab_ok Try.func121 rfl (by kernel_rfl) rfl rfl rfl ?_
  repeat' (first
      | refine s_op rfl ?_ | (apply s_move; (iterate 4 (exact rfl))) | (apply s_fa_p tab_ok; (iterate 5 (exact rfl))) | (apply s_fa_f tab_ok; (iterate 6 (exact rfl))) | (apply s_ld_p tab_ok; (iterate 7 (exact rfl)))
      | (apply s_ld_f tab_ok; (iterate 6 (exact rfl))) | (apply s_ld_w tab_ok; (iterate 5 (exact rfl)); (first | exact patD_len _)) | (apply s_assign; (iterate 4 (exact rfl))) | (apply s_len tab_ok; (iterate 5 (exact rfl))) | (apply s_lens str_ok; (iterate 4 (exact rfl)))
      | (apply s_idx tab_ok; (iterate 7 (exact rfl)); (first | exact patR_get (by assumption) | exact row_map (by assumption) | assumption)) | (apply s_build tabZ_ok; (iterate 5 (exact rfl))) | (apply s_boxZ; (iterate 5 (exact rfl)); first | exact rfl | exact allD_mapd _) | (apply s_lit tab_ok tabZ_ok; (iterate 10 (exact rfl))) | (apply s_lit1 tab_ok tabZ_ok; (iterate 9 (exact rfl)); (first | exact patD_len _))
      | (apply s_app tab_ok tabZ_ok; (iterate 13 (exact rfl)); (first | (simp; done) | (simp; omega))) | (apply s_eql_t; (iterate 5 (exact rfl)); omega) | (apply s_eql_f; (iterate 5 (exact rfl)); omega) | (apply s_lss_t; (iterate 5 (exact rfl)); omega) | (apply s_lss_f; (iterate 5 (exact rfl)); omega)
      | (apply s_add64; (iterate 5 (exact rfl)); omega)
      | refine al_nil ?_ | refine q_then_n ?_ | refine q_blk_n ?_ | refine q_blk_r ?_ | refine q_blk_e ?_
      | refine q_blk_o rfl ?_ | refine q_then_e ?_ | refine aw_block ?_ | refine aw_exit ?_ | refine q_then_r ?_
      | refine aw_seq ?_ | refine aw_reg ?_ | refine aw_true rfl ?_ | refine aw_false rfl ?_ | refine aw_skip ?_
      | refine aw_ret ?_ | refine al_fork ?_ ?_ | refine al_fork3 ?_ ?_ ?_
      | refine aw_draws (id := 14) (trO [0, 1, 2, 3, 4, 5, 6, 7, 8, 9, 10, 11, 12, 13, 14] .nil) [] [] mixed_ok (by kernel_rfl) ?_
      | refine aw_draws (id := 18) (trO [0, 1, 2, 3, 4, 5, 6, 7, 8, 9, 10, 11, 12, 13, 14, 15, 16, 17, 18, 19, 20] .nil) [16, 18, 19] [19] mixed_ok (by kernel_rfl) ?_)
  refine w_adoptF 5 41 8 rfl ?_
  intro locA σ hc; have hA := hc.at'; clear hc
  refine w_loop [2, 5, 7] (fun n vs σ => ∃ k ver m : Nat, vs = [.d (.fptr (roomL g L N S)), .own locA ver 8 0 m, .d (.v (.int .i64 (k : Int)))] ∧ σ[locA]? = some (.arr 41 8 ver (((S.take k).map litS).map bareD)) ∧ m = k ∧ k ≤ S.length ∧ n = S.length - k) rfl ⟨0, 0, 0, rfl, hA, rfl, by omega, rfl⟩ ?_
  clear hA
  rintro n vs σ ⟨k, ver, m, rfl, hA, hm, hk, rfl⟩ fr hfr
  cases hfr
  have htl : (S.take k).length = k := by rw [List.length_take]; omega
  by_cases hlt : k < S.length
  · obtain ⟨x, hx⟩ := getS hlt
    have ht := take_next hx
    repeat' (first
      | refine s_op rfl ?_ | (apply s_move; (iterate 4 (exact rfl))) | (apply s_fa_p tab_ok; (iterate 5 (exact rfl))) | (apply s_fa_f tab_ok; (iterate 6 (exact rfl))) | (apply s_ld_p tab_ok; (iterate 7 (exact rfl)))
      | (apply s_ld_f tab_ok; (iterate 6 (exact rfl))) | (apply s_ld_w tab_ok; (iterate 5 (exact rfl)); (first | exact patD_len _)) | (apply s_assign; (iterate 4 (exact rfl))) | (apply s_len tab_ok; (iterate 5 (exact rfl))) | (apply s_lens str_ok; (iterate 4 (exact rfl)))
      | (apply s_idx tab_ok; (iterate 7 (exact rfl)); (first | exact patR_get (by assumption) | exact row_map (by assumption) | assumption)) | (apply s_build tabZ_ok; (iterate 5 (exact rfl))) | (apply s_boxZ; (iterate 5 (exact rfl)); first | exact rfl | exact allD_mapd _) | (apply s_lit tab_ok tabZ_ok; (iterate 10 (exact rfl))) | (apply s_lit1 tab_ok tabZ_ok; (iterate 9 (exact rfl)); (first | exact patD_len _))
      | (apply s_eql_t; (iterate 5 (exact rfl)); omega) | (apply s_eql_f; (iterate 5 (exact rfl)); omega) | (apply s_lss_t; (iterate 5 (exact rfl)); omega) | (apply s_lss_f; (iterate 5 (exact rfl)); omega) | (apply s_add64; (iterate 5 (exact rfl)); omega)
      | (apply s_appF tab_ok tabZ_ok (rows2 := [bareD (litS x)]) (rows3 := ((S.take (k + 1)).map litS).map bareD) (m := k + 1); (iterate 10 (exact rfl)); exact hA; exact src_of (Tab.slIs tab_ok (t := 26) rfl) (rows_d rfl); (simp only [ht, List.map_append, List.map_cons, List.map_nil]); (refine ⟨?_, ?_, ?_⟩ <;> first | omega | (simp only [ht, List.length_append, List.length_map, List.length_cons, List.length_nil] <;> omega)); intro σ hc; replace hA := hc.at'; clear hc)
      | refine al_nil ?_ | refine q_then_n ?_ | refine q_blk_n ?_ | refine q_blk_r ?_ | refine q_blk_e ?_
      | refine q_blk_o rfl ?_ | refine q_then_e ?_ | refine aw_block ?_ | refine aw_exit ?_ | refine q_then_r ?_
      | refine aw_seq ?_ | refine aw_reg ?_ | refine aw_true rfl ?_ | refine aw_false rfl ?_ | refine aw_skip ?_
      | refine aw_ret ?_ | refine al_fork ?_ ?_ | refine al_fork3 ?_ ?_ ?_
      | refine aw_draws (id := 14) (trO [0, 1, 2, 3, 4, 5, 6, 7, 8, 9, 10, 11, 12, 13, 14] .nil) [] [] mixed_ok (by kernel_rfl) ?_
      | refine aw_draws (id := 18) (trO [0, 1, 2, 3, 4, 5, 6, 7, 8, 9, 10, 11, 12, 13, 14, 15, 16, 17, 18, 19, 20] .nil) [16, 18, 19] [19] mixed_ok (by kernel_rfl) ?_)
    exact ⟨_, _, rfl, by omega, k + 1, _, _, rfl, hA, rfl, by omega, rfl⟩
  · rw [List.take_of_length_le (by omega)] at hA
    repeat' (first
      | refine s_op rfl ?_ | (apply s_move; (iterate 4 (exact rfl))) | (apply s_fa_p tab_ok; (iterate 5 (exact rfl))) | (apply s_fa_f tab_ok; (iterate 6 (exact rfl))) | (apply s_ld_p tab_ok; (iterate 7 (exact rfl)))
      | (apply s_ld_f tab_ok; (iterate 6 (exact rfl))) | (apply s_ld_w tab_ok; (iterate 5 (exact rfl)); (first | exact patD_len _)) | (apply s_assign; (iterate 4 (exact rfl))) | (apply s_len tab_ok; (iterate 5 (exact rfl))) | (apply s_lens str_ok; (iterate 4 (exact rfl)))
      | (apply s_idx tab_ok; (iterate 7 (exact rfl)); (first | exact patR_get (by assumption) | exact row_map (by assumption) | assumption)) | (apply s_build tabZ_ok; (iterate 5 (exact rfl))) | (apply s_boxZ; (iterate 5 (exact rfl)); first | exact rfl | exact allD_mapd _) | (apply s_lit tab_ok tabZ_ok; (iterate 10 (exact rfl))) | (apply s_lit1 tab_ok tabZ_ok; (iterate 9 (exact rfl)); (first | exact patD_len _))
      | (apply s_app tab_ok tabZ_ok; (iterate 13 (exact rfl)); (first | (simp; done) | (simp; omega))) | (apply s_eql_t; (iterate 5 (exact rfl)); omega) | (apply s_eql_f; (iterate 5 (exact rfl)); omega) | (apply s_lss_t; (iterate 5 (exact rfl)); omega) | (apply s_lss_f; (iterate 5 (exact rfl)); omega)
      | (apply s_add64; (iterate 5 (exact rfl)); omega)
      | (refine w_freezeF 5 rfl hA (by simp; omega) ?_; intro σ hc; clear hA hc; refine w_wk 5 (patsD (S.map litS)) rfl (wk_bare fun p hp => by obtain ⟨x, _, rfl⟩ := List.mem_map.1 hp; rfl) ?_)
      | refine al_nil ?_ | refine q_then_n ?_ | refine q_blk_n ?_ | refine q_blk_r ?_ | refine q_blk_e ?_
      | refine q_blk_o rfl ?_ | refine q_then_e ?_ | refine aw_block ?_ | refine aw_exit ?_ | refine q_then_r ?_
      | refine aw_seq ?_ | refine aw_reg ?_ | refine aw_true rfl ?_ | refine aw_false rfl ?_ | refine aw_skip ?_
      | refine aw_ret ?_ | refine al_fork ?_ ?_ | refine al_fork3 ?_ ?_ ?_
      | refine aw_draws (id := 14) (trO [0, 1, 2, 3, 4, 5, 6, 7, 8, 9, 10, 11, 12, 13, 14] .nil) [] [] mixed_ok (by kernel_rfl) ?_
      | refine aw_draws (id := 18) (trO [0, 1, 2, 3, 4, 5, 6, 7, 8, 9, 10, 11, 12, 13, 14, 15, 16, 17, 18, 19, 20] .nil) [16, 18, 19] [19] mixed_ok (by kernel_rfl) ?_)
    all_goals exact q_retB (resB_1 rfl (resV_t rfl)) ⟨_, rfl, rfl⟩
def anyC (g : Sg) (c : Int) : Pat := .mk 5 c 0 ⟨#[]⟩ 0 0 0 (anysL (g.arity c))
set_option maxRecDepth 100000 in
set_option maxHeartbeats 8000000 in
theorem cases_con0 {g : Sg} (hg : g.Small) {m m' : Nat} {nm : ByteArray} {fs ms : List (List DV)} {dn : ByteArray} {dp : Int} {dc : List Int} (hq : g.cons[m]? = some ⟨nm, m', fs, ms⟩) (hd : g.datas[m']? = some ⟨dn, dp, dc⟩) (hdc : ∀ x ∈ dc, ∃ c, g.con x = some c) : RunsP Try.prog 121 [.agg (roomL g L N S), .agg (patD (.mk 5 m i s a b c l))] (fun v => v = patsD (dc.map (anyC g))) := by
  refine RunsP.ofOwn (rows := patR (dc.map (anyC g))) ?_
  have e1 : (dc.map intRow).length = dc.length := by simp
  have hml := (List.getElem?_eq_some_iff.1 hq).1
  have hml' := (List.getElem?_eq_some_iff.1 hd).1
  have hqr := row_map (f := conD) hq
  have hdr := row_map (f := dataD) hd
  have e2 : (g.cons.map conD).length = g.cons.length := by simp
  have e3 : (g.datas.map dataD).length = g.datas.length := by simp
  have hdl : dc.length ≤ 1000000000 := hg.each _ (List.mem_of_getElem? hd)
  have hgc := hg.cons
  refine enter 91 Try.func121 rfl (by kernel_rfl) rfl rfl rfl ?_
  repeat' (first
      | refine s_op rfl ?_ | (apply s_move; (iterate 4 (exact rfl))) | (apply s_fa_p tab_ok; (iterate 5 (exact rfl))) | (apply s_fa_f tab_ok; (iterate 6 (exact rfl))) | (apply s_ld_p tab_ok; (iterate 7 (exact rfl)))
      | (apply s_ld_f tab_ok; (iterate 6 (exact rfl))) | (apply s_ld_w tab_ok; (iterate 5 (exact rfl)); (first | exact patD_len _)) | (apply s_assign; (iterate 4 (exact rfl))) | (apply s_len tab_ok; (iterate 5 (exact rfl))) | (apply s_lens str_ok; (iterate 4 (exact rfl)))
      | (apply s_idx tab_ok; (iterate 7 (exact rfl)); (first | exact patR_get (by assumption) | exact row_map (by assumption) | assumption)) | (apply s_build tabZ_ok; (iterate 5 (exact rfl))) | (apply s_boxZ; (iterate 5 (exact rfl)); first | exact rfl | exact allD_mapd _) | (apply s_lit tab_ok tabZ_ok; (iterate 10 (exact rfl))) | (apply s_lit1 tab_ok tabZ_ok; (iterate 9 (exact rfl)); (first | exact patD_len _))
      | (apply s_app tab_ok tabZ_ok; (iterate 13 (exact rfl)); (first | (simp; done) | (simp; omega))) | (apply s_eql_t; (iterate 5 (exact rfl)); omega) | (apply s_eql_f; (iterate 5 (exact rfl)); omega) | (apply s_lss_t; (iterate 5 (exact rfl)); omega) | (apply s_lss_f; (iterate 5 (exact rfl)); omega)
      | (apply s_add64; (iterate 5 (exact rfl)); omega)
      | refine al_nil ?_ | refine q_then_n ?_ | refine q_blk_n ?_ | refine q_blk_r ?_ | refine q_blk_e ?_
      | refine q_blk_o rfl ?_ | refine q_then_e ?_ | refine aw_block ?_ | refine aw_exit ?_ | refine q_then_r ?_
      | refine aw_seq ?_ | refine aw_reg ?_ | refine aw_true rfl ?_ | refine aw_false rfl ?_ | refine aw_skip ?_
      | refine aw_ret ?_ | refine al_fork ?_ ?_ | refine al_fork3 ?_ ?_ ?_
      | refine aw_draws (id := 14) (trO [0, 1, 2, 3, 4, 5, 6, 7, 8, 9, 10, 11, 12, 13, 14] .nil) [] [] mixed_ok (by kernel_rfl) ?_
      | refine aw_draws (id := 18) (trO [0, 1, 2, 3, 4, 5, 6, 7, 8, 9, 10, 11, 12, 13, 14, 15, 16, 17, 18, 19, 20] .nil) [16, 18, 19] [19] mixed_ok (by kernel_rfl) ?_)
  refine w_adoptF 5 41 8 rfl ?_
  intro locA σ hc; have hA := hc.at'; clear hc
  refine w_loop [2, 5, 8, 9] (fun n vs σ => ∃ k ver q : Nat, vs = [.d (.fptr (roomL g L N S)), .own locA ver 8 0 q, .d (intsD dc), .d (.v (.int .i64 (k : Int)))] ∧ σ[locA]? = some (.arr 41 8 ver (patR ((dc.take k).map (anyC g)))) ∧ q = k ∧ k ≤ dc.length ∧ n = dc.length - k) rfl ⟨0, 0, 0, rfl, hA, rfl, by omega, rfl⟩ ?_
  clear hA
  rintro n vs σ ⟨k, ver, q, rfl, hA, hq1, hk, rfl⟩ fr hfr
  cases hfr
  have htl : (dc.take k).length = k := by rw [List.length_take]; omega
  have hpl := patR_len ((dc.take k).map (anyC g))
  rw [List.length_map, htl] at hpl
  by_cases hlt : k < dc.length
  · obtain ⟨x, hx⟩ := getS hlt
    have ht := take_next hx
    obtain ⟨⟨cn, cd, cf, cm⟩, hc⟩ := hdc x (List.mem_of_getElem? hx)
    have har : g.arity x = cf.length := by unfold Sg.arity; rw [hc]
    unfold Sg.con at hc
    split at hc
    · obtain ⟨y, rfl⟩ : ∃ y : Nat, x = y := ⟨x.toNat, by omega⟩
      simp only [Int.toNat_natCast] at hc
      have hcl := (List.getElem?_eq_some_iff.1 hc).1
      have hcr := row_map (f := conD) hc
      have hcf : cf.length ≤ 1000000000 := hg.fields _ (List.mem_of_getElem? hc)
      have han := ranys_c cf.length hcf
      have hac : anyC g y = .mk 5 y 0 ⟨#[]⟩ 0 0 0 (anysL cf.length) := by unfold anyC; rw [har]
      repeat' (first
      | refine s_op rfl ?_ | (apply s_move; (iterate 4 (exact rfl))) | (apply s_fa_p tab_ok; (iterate 5 (exact rfl))) | (apply s_fa_f tab_ok; (iterate 6 (exact rfl))) | (apply s_ld_p tab_ok; (iterate 7 (exact rfl)))
      | (apply s_ld_f tab_ok; (iterate 6 (exact rfl))) | (apply s_ld_w tab_ok; (iterate 5 (exact rfl)); (first | exact patD_len _)) | (apply s_assign; (iterate 4 (exact rfl))) | (apply s_len tab_ok; (iterate 5 (exact rfl))) | (apply s_lens str_ok; (iterate 4 (exact rfl)))
      | (apply s_idx tab_ok; (iterate 7 (exact rfl)); (first | exact patR_get (by assumption) | exact row_map (by assumption) | assumption)) | (apply s_build tabZ_ok; (iterate 5 (exact rfl))) | (apply s_boxZ; (iterate 5 (exact rfl)); first | exact rfl | exact allD_mapd _) | (apply s_lit tab_ok tabZ_ok; (iterate 10 (exact rfl))) | (apply s_lit1 tab_ok tabZ_ok; (iterate 9 (exact rfl)); (first | exact patD_len _))
      | (apply s_eql_t; (iterate 5 (exact rfl)); omega) | (apply s_eql_f; (iterate 5 (exact rfl)); omega) | (apply s_lss_t; (iterate 5 (exact rfl)); omega) | (apply s_lss_f; (iterate 5 (exact rfl)); omega) | (apply s_add64; (iterate 5 (exact rfl)); omega)
      | (apply s_appF tab_ok tabZ_ok (rows2 := [patD (.mk 5 y 0 ⟨#[]⟩ 0 0 0 (anysL cf.length))]) (rows3 := patR ((dc.take (k + 1)).map (anyC g))) (m := k + 1); (iterate 10 (exact rfl)); exact hA; exact src_of (Tab.slIs tab_ok (t := 26) rfl) (rows_d rfl); (simp only [ht, List.map_append, List.map_cons, List.map_nil, patR_append, hac]; rfl); (refine ⟨?_, ?_, ?_⟩ <;> first | omega | (simp only [List.length_cons, List.length_nil] <;> omega)); intro σ hc; replace hA := hc.at'; clear hc)
      | (apply s_call; (iterate 6 (exact rfl)); first | (exact han; rintro _ rfl))
      | refine al_nil ?_ | refine q_then_n ?_ | refine q_blk_n ?_ | refine q_blk_r ?_ | refine q_blk_e ?_
      | refine q_blk_o rfl ?_ | refine q_then_e ?_ | refine aw_block ?_ | refine aw_exit ?_ | refine q_then_r ?_
      | refine aw_seq ?_ | refine aw_reg ?_ | refine aw_true rfl ?_ | refine aw_false rfl ?_ | refine aw_skip ?_
      | refine aw_ret ?_ | refine al_fork ?_ ?_ | refine al_fork3 ?_ ?_ ?_
      | refine aw_draws (id := 14) (trO [0, 1, 2, 3, 4, 5, 6, 7, 8, 9, 10, 11, 12, 13, 14] .nil) [] [] mixed_ok (by kernel_rfl) ?_
      | refine aw_draws (id := 18) (trO [0, 1, 2, 3, 4, 5, 6, 7, 8, 9, 10, 11, 12, 13, 14, 15, 16, 17, 18, 19, 20] .nil) [16, 18, 19] [19] mixed_ok (by kernel_rfl) ?_)
      all_goals exact ⟨_, _, rfl, by omega, k + 1, _, _, rfl, hA, rfl, by omega, rfl⟩
    · cases hc
  · rw [List.take_of_length_le (by omega)] at hA hpl
    have hq2 : q = (patR (dc.map (anyC g))).length := by rw [patR_len, List.length_map]; omega
    subst hq2
    repeat' (first
      | refine s_op rfl ?_ | (apply s_move; (iterate 4 (exact rfl))) | (apply s_fa_p tab_ok; (iterate 5 (exact rfl))) | (apply s_fa_f tab_ok; (iterate 6 (exact rfl))) | (apply s_ld_p tab_ok; (iterate 7 (exact rfl)))
      | (apply s_ld_f tab_ok; (iterate 6 (exact rfl))) | (apply s_ld_w tab_ok; (iterate 5 (exact rfl)); (first | exact patD_len _)) | (apply s_assign; (iterate 4 (exact rfl))) | (apply s_len tab_ok; (iterate 5 (exact rfl))) | (apply s_lens str_ok; (iterate 4 (exact rfl)))
      | (apply s_idx tab_ok; (iterate 7 (exact rfl)); (first | exact patR_get (by assumption) | exact row_map (by assumption) | assumption)) | (apply s_build tabZ_ok; (iterate 5 (exact rfl))) | (apply s_boxZ; (iterate 5 (exact rfl)); first | exact rfl | exact allD_mapd _) | (apply s_lit tab_ok tabZ_ok; (iterate 10 (exact rfl))) | (apply s_lit1 tab_ok tabZ_ok; (iterate 9 (exact rfl)); (first | exact patD_len _))
      | (apply s_app tab_ok tabZ_ok; (iterate 13 (exact rfl)); (first | (simp; done) | (simp; omega))) | (apply s_eql_t; (iterate 5 (exact rfl)); omega) | (apply s_eql_f; (iterate 5 (exact rfl)); omega) | (apply s_lss_t; (iterate 5 (exact rfl)); omega) | (apply s_lss_f; (iterate 5 (exact rfl)); omega)
      | (apply s_add64; (iterate 5 (exact rfl)); omega)
      | refine al_nil ?_ | refine q_then_n ?_ | refine q_blk_n ?_ | refine q_blk_r ?_ | refine q_blk_e ?_
      | refine q_blk_o rfl ?_ | refine q_then_e ?_ | refine aw_block ?_ | refine aw_exit ?_ | refine q_then_r ?_
      | refine aw_seq ?_ | refine aw_reg ?_ | refine aw_true rfl ?_ | refine aw_false rfl ?_ | refine aw_skip ?_
      | refine aw_ret ?_ | refine al_fork ?_ ?_ | refine al_fork3 ?_ ?_ ?_
      | refine aw_draws (id := 14) (trO [0, 1, 2, 3, 4, 5, 6, 7, 8, 9, 10, 11, 12, 13, 14] .nil) [] [] mixed_ok (by kernel_rfl) ?_
      | refine aw_draws (id := 18) (trO [0, 1, 2, 3, 4, 5, 6, 7, 8, 9, 10, 11, 12, 13, 14, 15, 16, 17, 18, 19, 20] .nil) [16, 18, 19] [19] mixed_ok (by kernel_rfl) ?_)
    all_goals exact q_ret rfl ⟨locA, ver, 41, rfl, hA⟩
end

theorem cases_c {r : RoomT} (hg : r.g.Small) (hsv : Serves r.g) (hN : r.nums.length ≤ 1000000) (hS : r.texts.length ≤ 1000000) (p : Pat) (hk : p.kind = 3 ∨ p.kind = 4 ∨ p.kind = 5) (ha : aloneB r.g p = true) : RunsP Try.prog 121 [.agg (roomD r), .agg (patD p)] (fun v => v = patsD (casesR r p)) := by
  obtain ⟨g, L, N, S⟩ := r
  obtain ⟨k, n, i, s, a, b, c, l⟩ := p
  simp only [Pat.kind] at hk hg hsv hN hS ha
  rcases hk with rfl | rfl | rfl
  · exact cases_int hN
  · exact cases_str hS
  · obtain ⟨h0, h1, _⟩ := alone_con ha rfl
    simp only [Pat.n] at h0 h1
    obtain ⟨m, rfl⟩ : ∃ m : Nat, n = m := ⟨n.toNat, by omega⟩
    obtain ⟨⟨nm, dt, fs, ms⟩, hq⟩ := getS (l := g.cons) (k := m) (by omega)
    obtain ⟨⟨dn, dp, dc⟩, hd, _⟩ := hsv.con m _ hq
    simp only at hd
    have hd' := hd
    unfold Sg.dat at hd'
    split at hd'
    · obtain ⟨m', rfl⟩ : ∃ m' : Nat, dt = m' := ⟨dt.toNat, by omega⟩
      simp only [Int.toNat_natCast] at hd'
      have hx := fun x hx => (hsv.dat m' _ hd' x hx).imp fun c hc => hc.1
      have hres := cases_con0 (L := L) (N := N) (S := S) (i := i) (s := s) (a := a) (b := b) (c := c) (l := l) hg hq hd' hx
      have e : casesR ⟨g, L, N, S⟩ (.mk 5 m i s a b c l) = dc.map (anyC g) := by
        unfold casesR
        simp only [Pat.kind, Pat.n]
        rw [if_neg (by decide), if_neg (by decide), if_pos trivial]
        have h2 : g.dataOf (m : Int) = m' := by
          unfold Sg.dataOf Sg.con
          rw [if_pos (by omega)]
          simp only [Int.toNat_natCast, hq]
        rw [h2]
        unfold Sg.consOf
        rw [hd]
        rfl
      rw [e]
      exact hres
    · cases hd'
end Go.Proofs.Ytjflembhgjcgkaa
