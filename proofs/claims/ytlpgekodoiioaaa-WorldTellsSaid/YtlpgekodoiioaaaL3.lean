/- run: for the abstract walk. -/
import Derived.Test.YtlpgekodoiioaaaL2
set_option linter.unusedSimpArgs false
set_option linter.unusedVariables false
namespace Go.Proofs.Ytlpgekodoiioaaa
open Go.RowKit

/-- cur is σ0 with another world at loc, and more behind. -/
def Keeps (σ0 : List AObj) (loc : Nat) (W : AW) (cur : List AObj) : Prop := ∃ τ, cur = σ0.set loc (wo W) ++ τ
theorem Keeps.at {σ0 cur : List AObj} {loc : Nat} {W : AW} (h : Keeps σ0 loc W cur) (hl : loc < σ0.length) : cur[loc]? = some (wo W) := by
  obtain ⟨τ, rfl⟩ := h
  rw [List.getElem?_append_left (by simpa using hl), List.getElem?_set_self hl]
theorem Keeps.app {σ0 cur : List AObj} {loc : Nat} {W : AW} (h : Keeps σ0 loc W cur) (o : AObj) : Keeps σ0 loc W (cur ++ [o]) := by
  obtain ⟨τ, rfl⟩ := h
  exact ⟨τ ++ [o], by simp⟩
theorem Keeps.set {σ0 cur : List AObj} {loc : Nat} {W W' : AW} (h : Keeps σ0 loc W cur) (hl : loc < σ0.length) : Keeps σ0 loc W' (cur.set loc (wo W')) := by
  obtain ⟨τ, rfl⟩ := h
  refine ⟨τ, ?_⟩
  rw [List.set_append_left _ _ (by simpa using hl), List.set_set]
theorem Keeps.start {σ0 : List AObj} {loc : Nat} {W : AW} (h : σ0[loc]? = some (wo W)) : Keeps σ0 loc W σ0 := ⟨[], by rw [set_same h, List.append_nil]⟩

set_option maxRecDepth 100000 in
theorem run_c {σ0 : List AObj} {loc n : Nat} {W : AW} (l : List ADo) (h0 : σ0[loc]? = some (wo W)) (ok : W.Ok n) (hn : n + l.length ≤ 100000) (hs : ∀ x ∈ l, x.s.size ≤ maxLen) :
    Runs Try.prog 20 [.ptr loc 0 0, .d (dosD l)] σ0 (fun v σ' => v = .tup [] ∧ Keeps σ0 loc (runW W l) σ') := by
  have hloc := (List.getElem?_eq_some_iff.1 h0).1
  refine enter 47 Try.func20 rfl (by kernel_rfl) rfl rfl rfl ?_
  have e1 : (l.map doD).length = l.length := by simp
  repeat' (first
      | refine s_op rfl ?_ | (apply s_move; (iterate 4 (exact rfl))) | (apply s_fa_p tab_ok; (iterate 5 (exact rfl))) | (apply s_fa_f tab_ok; (iterate 6 (exact rfl))) | (apply s_ld_p tab_ok; (iterate 7 (exact rfl)))
      | (apply s_ld_f tab_ok; (iterate 6 (exact rfl))) | (apply s_ld_w tab_ok; (iterate 5 (exact rfl)); (first | exact patD_len _ | exact valD_len _)) | (apply s_assign; (iterate 4 (exact rfl))) | (apply s_len tab_ok; (iterate 5 (exact rfl))) | (apply s_lens str_ok; (iterate 4 (exact rfl)))
      | (apply s_idx tab_ok; (iterate 7 (exact rfl)); (first | exact patR_get (by assumption) | exact valR_get (by assumption) | exact row_map (by assumption) | assumption)) | (apply s_alloc tabZ_ok; (iterate 7 (exact rfl))) | (apply s_store tab_ok; (iterate 10 (exact rfl))) | (apply s_eql_t; (iterate 5 (exact rfl)); omega) | (apply s_eql_f; (iterate 5 (exact rfl)); omega)
      | (apply s_lss_t; (iterate 5 (exact rfl)); omega) | (apply s_lss_f; (iterate 5 (exact rfl)); omega) | (apply s_add64; (iterate 5 (exact rfl)); omega)
      | refine al_nil ?_ | refine q_then_n ?_ | refine q_blk_n ?_ | refine q_blk_r ?_ | refine q_blk_e ?_
      | refine q_blk_o rfl ?_ | refine q_then_e ?_ | refine aw_block ?_ | refine aw_exit ?_ | refine q_then_r ?_
      | refine aw_seq ?_ | refine aw_reg ?_ | refine aw_true rfl ?_ | refine aw_false rfl ?_ | refine aw_skip ?_
      | refine aw_ret ?_)
  refine w_loop [0, 1, 6, 7, 8] (fun n' vs σ => ∃ k : Nat, vs = [.ptr loc 0 0, .d (dosD l), .d (dosD l), .d (.v (.int .i64 ((l.map doD).length : Int))), .d (.v (.int .i64 (k : Int)))] ∧ k ≤ l.length ∧ n' = l.length - k ∧ Keeps σ0 loc (runW W (l.take k)) σ) rfl ⟨0, rfl, by omega, rfl, Keeps.start h0⟩ ?_
  rintro n' vs cur ⟨k, rfl, hk, rfl, hc⟩ fr hfr
  cases hfr
  by_cases hlt : k < l.length
  · obtain ⟨x, hx⟩ : ∃ x, l[k]? = some x := ⟨_, List.getElem?_eq_getElem hlt⟩
    have hxs := hs x (List.mem_of_getElem? hx)
    have hok := ok_run (l := l.take k) ok (n := 0)
    rw [List.length_take] at hok
    have hok' := ok_mono hok (m := n + l.length) (by omega)
    have hw : ∀ o, (cur ++ [o])[loc]? = some (wo (runW W (l.take k))) := fun o => (hc.app o).at hloc
    have hend : ∀ o, Keeps σ0 loc (runW W (l.take (k + 1))) ((cur ++ [o]).set loc (wo (doW (runW W (l.take k)) x))) := fun o => by rw [runW_snoc hx]; exact (hc.app o).set hloc
    by_cases k0 : x.kind = 0
    · repeat' (first
      | refine s_op rfl ?_ | (apply s_move; (iterate 4 (exact rfl))) | (apply s_fa_p tab_ok; (iterate 5 (exact rfl))) | (apply s_fa_f tab_ok; (iterate 6 (exact rfl))) | (apply s_ld_p tab_ok; (iterate 7 (exact rfl)))
      | (apply s_ld_f tab_ok; (iterate 6 (exact rfl))) | (apply s_ld_w tab_ok; (iterate 5 (exact rfl)); (first | exact patD_len _ | exact valD_len _)) | (apply s_assign; (iterate 4 (exact rfl))) | (apply s_len tab_ok; (iterate 5 (exact rfl))) | (apply s_lens str_ok; (iterate 4 (exact rfl)))
      | (apply s_idx tab_ok; (iterate 7 (exact rfl)); (first | exact patR_get (by assumption) | exact valR_get (by assumption) | exact row_map (by assumption) | assumption)) | (apply s_alloc tabZ_ok; (iterate 7 (exact rfl))) | (apply s_store tab_ok; (iterate 10 (exact rfl))) | (apply s_eql_t; (iterate 5 (exact rfl)); omega) | (apply s_eql_f; (iterate 5 (exact rfl)); omega)
      | (apply s_lss_t; (iterate 5 (exact rfl)); omega) | (apply s_lss_f; (iterate 5 (exact rfl)); omega) | (apply s_add64; (iterate 5 (exact rfl)); omega)
      | (apply s_allocT tabZ_ok; (iterate 6 (exact rfl)))
      | (apply s_storeT tab_ok; (iterate 9 (exact rfl)))
      | (apply s_ldT tab_ok; (iterate 6 (exact rfl)))
      | (apply s_callS; (iterate 6 (exact rfl)); first | (exact open_r _ (hw _) hok' hn (seqL_eq _ _); rintro _ σ ⟨rfl, rfl⟩))
      | refine al_nil ?_ | refine q_then_n ?_ | refine q_blk_n ?_ | refine q_blk_r ?_ | refine q_blk_e ?_
      | refine q_blk_o rfl ?_ | refine q_then_e ?_ | refine aw_block ?_ | refine aw_exit ?_ | refine q_then_r ?_
      | refine aw_seq ?_ | refine aw_reg ?_ | refine aw_true rfl ?_ | refine aw_false rfl ?_ | refine aw_skip ?_
      | refine aw_ret ?_)
      exact ⟨_, _, rfl, by omega, k + 1, rfl, by omega, rfl, by simpa [doW, k0] using hend _⟩
    · by_cases k1 : x.kind = 1
      · repeat' (first
      | refine s_op rfl ?_ | (apply s_move; (iterate 4 (exact rfl))) | (apply s_fa_p tab_ok; (iterate 5 (exact rfl))) | (apply s_fa_f tab_ok; (iterate 6 (exact rfl))) | (apply s_ld_p tab_ok; (iterate 7 (exact rfl)))
      | (apply s_ld_f tab_ok; (iterate 6 (exact rfl))) | (apply s_ld_w tab_ok; (iterate 5 (exact rfl)); (first | exact patD_len _ | exact valD_len _)) | (apply s_assign; (iterate 4 (exact rfl))) | (apply s_len tab_ok; (iterate 5 (exact rfl))) | (apply s_lens str_ok; (iterate 4 (exact rfl)))
      | (apply s_idx tab_ok; (iterate 7 (exact rfl)); (first | exact patR_get (by assumption) | exact valR_get (by assumption) | exact row_map (by assumption) | assumption)) | (apply s_alloc tabZ_ok; (iterate 7 (exact rfl))) | (apply s_store tab_ok; (iterate 10 (exact rfl))) | (apply s_eql_t; (iterate 5 (exact rfl)); omega) | (apply s_eql_f; (iterate 5 (exact rfl)); omega)
      | (apply s_lss_t; (iterate 5 (exact rfl)); omega) | (apply s_lss_f; (iterate 5 (exact rfl)); omega) | (apply s_add64; (iterate 5 (exact rfl)); omega)
      | (apply s_allocT tabZ_ok; (iterate 6 (exact rfl)))
      | (apply s_storeT tab_ok; (iterate 9 (exact rfl)))
      | (apply s_ldT tab_ok; (iterate 6 (exact rfl)))
      | (apply s_callS; (iterate 6 (exact rfl)); first | (exact read_r _ (hw _) hok' hn (seqL_eq _ _); rintro _ σ ⟨rfl, rfl⟩))
      | refine al_nil ?_ | refine q_then_n ?_ | refine q_blk_n ?_ | refine q_blk_r ?_ | refine q_blk_e ?_
      | refine q_blk_o rfl ?_ | refine q_then_e ?_ | refine aw_block ?_ | refine aw_exit ?_ | refine q_then_r ?_
      | refine aw_seq ?_ | refine aw_reg ?_ | refine aw_true rfl ?_ | refine aw_false rfl ?_ | refine aw_skip ?_
      | refine aw_ret ?_)
        exact ⟨_, _, rfl, by omega, k + 1, rfl, by omega, rfl, by simpa [doW, k1] using hend _⟩
      · by_cases k2 : x.kind = 2
        · repeat' (first
      | refine s_op rfl ?_ | (apply s_move; (iterate 4 (exact rfl))) | (apply s_fa_p tab_ok; (iterate 5 (exact rfl))) | (apply s_fa_f tab_ok; (iterate 6 (exact rfl))) | (apply s_ld_p tab_ok; (iterate 7 (exact rfl)))
      | (apply s_ld_f tab_ok; (iterate 6 (exact rfl))) | (apply s_ld_w tab_ok; (iterate 5 (exact rfl)); (first | exact patD_len _ | exact valD_len _)) | (apply s_assign; (iterate 4 (exact rfl))) | (apply s_len tab_ok; (iterate 5 (exact rfl))) | (apply s_lens str_ok; (iterate 4 (exact rfl)))
      | (apply s_idx tab_ok; (iterate 7 (exact rfl)); (first | exact patR_get (by assumption) | exact valR_get (by assumption) | exact row_map (by assumption) | assumption)) | (apply s_alloc tabZ_ok; (iterate 7 (exact rfl))) | (apply s_store tab_ok; (iterate 10 (exact rfl))) | (apply s_eql_t; (iterate 5 (exact rfl)); omega) | (apply s_eql_f; (iterate 5 (exact rfl)); omega)
      | (apply s_lss_t; (iterate 5 (exact rfl)); omega) | (apply s_lss_f; (iterate 5 (exact rfl)); omega) | (apply s_add64; (iterate 5 (exact rfl)); omega)
      | (apply s_allocT tabZ_ok; (iterate 6 (exact rfl)))
      | (apply s_storeT tab_ok; (iterate 9 (exact rfl)))
      | (apply s_ldT tab_ok; (iterate 6 (exact rfl)))
      | (apply s_callS; (iterate 6 (exact rfl)); first | (exact write_r _ _ hxs (hw _) hok' hn (seqL_eq _ _); rintro _ σ ⟨rfl, rfl⟩))
      | refine al_nil ?_ | refine q_then_n ?_ | refine q_blk_n ?_ | refine q_blk_r ?_ | refine q_blk_e ?_
      | refine q_blk_o rfl ?_ | refine q_then_e ?_ | refine aw_block ?_ | refine aw_exit ?_ | refine q_then_r ?_
      | refine aw_seq ?_ | refine aw_reg ?_ | refine aw_true rfl ?_ | refine aw_false rfl ?_ | refine aw_skip ?_
      | refine aw_ret ?_)
          exact ⟨_, _, rfl, by omega, k + 1, rfl, by omega, rfl, by simpa [doW, k2] using hend _⟩
        · by_cases k3 : x.kind = 3
          · repeat' (first
      | refine s_op rfl ?_ | (apply s_move; (iterate 4 (exact rfl))) | (apply s_fa_p tab_ok; (iterate 5 (exact rfl))) | (apply s_fa_f tab_ok; (iterate 6 (exact rfl))) | (apply s_ld_p tab_ok; (iterate 7 (exact rfl)))
      | (apply s_ld_f tab_ok; (iterate 6 (exact rfl))) | (apply s_ld_w tab_ok; (iterate 5 (exact rfl)); (first | exact patD_len _ | exact valD_len _)) | (apply s_assign; (iterate 4 (exact rfl))) | (apply s_len tab_ok; (iterate 5 (exact rfl))) | (apply s_lens str_ok; (iterate 4 (exact rfl)))
      | (apply s_idx tab_ok; (iterate 7 (exact rfl)); (first | exact patR_get (by assumption) | exact valR_get (by assumption) | exact row_map (by assumption) | assumption)) | (apply s_alloc tabZ_ok; (iterate 7 (exact rfl))) | (apply s_store tab_ok; (iterate 10 (exact rfl))) | (apply s_eql_t; (iterate 5 (exact rfl)); omega) | (apply s_eql_f; (iterate 5 (exact rfl)); omega)
      | (apply s_lss_t; (iterate 5 (exact rfl)); omega) | (apply s_lss_f; (iterate 5 (exact rfl)); omega) | (apply s_add64; (iterate 5 (exact rfl)); omega)
      | (apply s_allocT tabZ_ok; (iterate 6 (exact rfl)))
      | (apply s_storeT tab_ok; (iterate 9 (exact rfl)))
      | (apply s_ldT tab_ok; (iterate 6 (exact rfl)))
      | (apply s_callS; (iterate 6 (exact rfl)); first | (exact close_r _ (hw _) hok' hn (seqL_eq _ _); rintro _ σ ⟨rfl, rfl⟩))
      | refine al_nil ?_ | refine q_then_n ?_ | refine q_blk_n ?_ | refine q_blk_r ?_ | refine q_blk_e ?_
      | refine q_blk_o rfl ?_ | refine q_then_e ?_ | refine aw_block ?_ | refine aw_exit ?_ | refine q_then_r ?_
      | refine aw_seq ?_ | refine aw_reg ?_ | refine aw_true rfl ?_ | refine aw_false rfl ?_ | refine aw_skip ?_
      | refine aw_ret ?_)
            exact ⟨_, _, rfl, by omega, k + 1, rfl, by omega, rfl, by simpa [doW, k3] using hend _⟩
          · by_cases k4 : x.kind = 4
            · repeat' (first
      | refine s_op rfl ?_ | (apply s_move; (iterate 4 (exact rfl))) | (apply s_fa_p tab_ok; (iterate 5 (exact rfl))) | (apply s_fa_f tab_ok; (iterate 6 (exact rfl))) | (apply s_ld_p tab_ok; (iterate 7 (exact rfl)))
      | (apply s_ld_f tab_ok; (iterate 6 (exact rfl))) | (apply s_ld_w tab_ok; (iterate 5 (exact rfl)); (first | exact patD_len _ | exact valD_len _)) | (apply s_assign; (iterate 4 (exact rfl))) | (apply s_len tab_ok; (iterate 5 (exact rfl))) | (apply s_lens str_ok; (iterate 4 (exact rfl)))
      | (apply s_idx tab_ok; (iterate 7 (exact rfl)); (first | exact patR_get (by assumption) | exact valR_get (by assumption) | exact row_map (by assumption) | assumption)) | (apply s_alloc tabZ_ok; (iterate 7 (exact rfl))) | (apply s_store tab_ok; (iterate 10 (exact rfl))) | (apply s_eql_t; (iterate 5 (exact rfl)); omega) | (apply s_eql_f; (iterate 5 (exact rfl)); omega)
      | (apply s_lss_t; (iterate 5 (exact rfl)); omega) | (apply s_lss_f; (iterate 5 (exact rfl)); omega) | (apply s_add64; (iterate 5 (exact rfl)); omega)
      | (apply s_allocT tabZ_ok; (iterate 6 (exact rfl)))
      | (apply s_storeT tab_ok; (iterate 9 (exact rfl)))
      | (apply s_ldT tab_ok; (iterate 6 (exact rfl)))
      | (apply s_callS; (iterate 6 (exact rfl)); first | (exact drop_r _ (hw _) hok' hn (seqL_eq _ _); rintro _ σ ⟨rfl, rfl⟩))
      | refine al_nil ?_ | refine q_then_n ?_ | refine q_blk_n ?_ | refine q_blk_r ?_ | refine q_blk_e ?_
      | refine q_blk_o rfl ?_ | refine q_then_e ?_ | refine aw_block ?_ | refine aw_exit ?_ | refine q_then_r ?_
      | refine aw_seq ?_ | refine aw_reg ?_ | refine aw_true rfl ?_ | refine aw_false rfl ?_ | refine aw_skip ?_
      | refine aw_ret ?_)
              exact ⟨_, _, rfl, by omega, k + 1, rfl, by omega, rfl, by simpa [doW, k4] using hend _⟩
            · repeat' (first
      | refine s_op rfl ?_ | (apply s_move; (iterate 4 (exact rfl))) | (apply s_fa_p tab_ok; (iterate 5 (exact rfl))) | (apply s_fa_f tab_ok; (iterate 6 (exact rfl))) | (apply s_ld_p tab_ok; (iterate 7 (exact rfl)))
      | (apply s_ld_f tab_ok; (iterate 6 (exact rfl))) | (apply s_ld_w tab_ok; (iterate 5 (exact rfl)); (first | exact patD_len _ | exact valD_len _)) | (apply s_assign; (iterate 4 (exact rfl))) | (apply s_len tab_ok; (iterate 5 (exact rfl))) | (apply s_lens str_ok; (iterate 4 (exact rfl)))
      | (apply s_idx tab_ok; (iterate 7 (exact rfl)); (first | exact patR_get (by assumption) | exact valR_get (by assumption) | exact row_map (by assumption) | assumption)) | (apply s_alloc tabZ_ok; (iterate 7 (exact rfl))) | (apply s_store tab_ok; (iterate 10 (exact rfl))) | (apply s_eql_t; (iterate 5 (exact rfl)); omega) | (apply s_eql_f; (iterate 5 (exact rfl)); omega)
      | (apply s_lss_t; (iterate 5 (exact rfl)); omega) | (apply s_lss_f; (iterate 5 (exact rfl)); omega) | (apply s_add64; (iterate 5 (exact rfl)); omega)
      | (apply s_allocT tabZ_ok; (iterate 6 (exact rfl)))
      | (apply s_storeT tab_ok; (iterate 9 (exact rfl)))
      | (apply s_ldT tab_ok; (iterate 6 (exact rfl)))
      | refine al_nil ?_ | refine q_then_n ?_ | refine q_blk_n ?_ | refine q_blk_r ?_ | refine q_blk_e ?_
      | refine q_blk_o rfl ?_ | refine q_then_e ?_ | refine aw_block ?_ | refine aw_exit ?_ | refine q_then_r ?_
      | refine aw_seq ?_ | refine aw_reg ?_ | refine aw_true rfl ?_ | refine aw_false rfl ?_ | refine aw_skip ?_
      | refine aw_ret ?_)
              refine ⟨_, _, rfl, by omega, k + 1, rfl, by omega, rfl, ?_⟩
              rw [runW_snoc hx]
              simp only [doW, k0, k1, k2, k3, k4, if_false]
              exact hc.app _
  · repeat' (first
      | refine s_op rfl ?_ | (apply s_move; (iterate 4 (exact rfl))) | (apply s_fa_p tab_ok; (iterate 5 (exact rfl))) | (apply s_fa_f tab_ok; (iterate 6 (exact rfl))) | (apply s_ld_p tab_ok; (iterate 7 (exact rfl)))
      | (apply s_ld_f tab_ok; (iterate 6 (exact rfl))) | (apply s_ld_w tab_ok; (iterate 5 (exact rfl)); (first | exact patD_len _ | exact valD_len _)) | (apply s_assign; (iterate 4 (exact rfl))) | (apply s_len tab_ok; (iterate 5 (exact rfl))) | (apply s_lens str_ok; (iterate 4 (exact rfl)))
      | (apply s_idx tab_ok; (iterate 7 (exact rfl)); (first | exact patR_get (by assumption) | exact valR_get (by assumption) | exact row_map (by assumption) | assumption)) | (apply s_alloc tabZ_ok; (iterate 7 (exact rfl))) | (apply s_store tab_ok; (iterate 10 (exact rfl))) | (apply s_eql_t; (iterate 5 (exact rfl)); omega) | (apply s_eql_f; (iterate 5 (exact rfl)); omega)
      | (apply s_lss_t; (iterate 5 (exact rfl)); omega) | (apply s_lss_f; (iterate 5 (exact rfl)); omega) | (apply s_add64; (iterate 5 (exact rfl)); omega)
      | refine al_nil ?_ | refine q_then_n ?_ | refine q_blk_n ?_ | refine q_blk_r ?_ | refine q_blk_e ?_
      | refine q_blk_o rfl ?_ | refine q_then_e ?_ | refine aw_block ?_ | refine aw_exit ?_ | refine q_then_r ?_
      | refine aw_seq ?_ | refine aw_reg ?_ | refine aw_true rfl ?_ | refine aw_false rfl ?_ | refine aw_skip ?_
      | refine aw_ret ?_)
    refine q_end rfl ⟨rfl, ?_⟩
    rw [List.take_of_length_le (by omega)] at hc
    exact hc
end Go.Proofs.Ytlpgekodoiioaaa
