/- C34, C35: in one. -/
import Derived.Test.YtjflembhgjcgkaaTP11C33
set_option linter.unusedSimpArgs false
set_option linter.unusedVariables false
/- C34: asked, of the tree. -/
namespace Go.Proofs.Ytjflembhgjcgkaa
open Go.RowKit

theorem askedF_append (path : List Int) : ∀ (i : Nat) (l m : List Pat), askedF path i (l ++ m) = askedF path i l ++ askedF path (i + l.length) m
  | i, [], m => by simp [askedF]
  | i, p :: l, m => by
    simp only [List.cons_append, askedF, askedF_append path (i + 1) l m, List.length_cons]
    rw [show i + 1 + l.length = i + (l.length + 1) by omega]
    split <;> simp
theorem asked_take {path : List Int} {l : List Pat} {k : Nat} {p : Pat} (h : l[k]? = some p) : askedF path 0 (l.take (k + 1)) = askedF path 0 (l.take k) ++ (if testsB p = true then [⟨path ++ [(k : Int)], p⟩] else []) := by
  have hk := (List.getElem?_eq_some_iff.1 h).1
  rw [List.take_add_one, h, askedF_append, List.length_take, Nat.min_eq_left (by omega), Nat.zero_add]
  simp [askedF]
theorem askedF_len (path : List Int) : ∀ (i : Nat) (l : List Pat), (askedF path i l).length ≤ l.length
  | i, [] => by simp [askedF]
  | i, p :: l => by
    have := askedF_len path (i + 1) l
    simp only [askedF]
    split <;> simp only [List.length_cons] <;> omega

set_option maxRecDepth 100000 in
set_option maxHeartbeats 4000000 in
theorem asked_c (path : List Int) (l : List Pat) (hp : path.length ≤ 100000000) (hl : l.length ≤ 100000000) : RunsP Try.prog 107 [intsD path, patsD l] (fun v => v = asksD (askedF path 0 l)) := by
  refine RunsP.ofOwn (rows := (askedF path 0 l).map askD) ?_
  have e1 := patR_len l
  have e2 : (path.map intRow).length = path.length := by simp
  have hcl := fun σ => cloneI_o (path.map intRow) σ (by omega)
  refine enter 29 Try.func107 rfl (by kernel_rfl) rfl rfl rfl ?_
  repeat' (first | refine s_op rfl ?_ | (apply s_move; (iterate 4 (exact rfl))) | (apply s_assign; (iterate 4 (exact rfl))) | (apply s_len tab_ok; (iterate 5 (exact rfl))) | refine al_nil ?_ | refine q_then_n ?_ | refine aw_block ?_ | refine aw_seq ?_ | refine aw_reg ?_)
  refine w_adoptF 5 98 9 rfl ?_
  intro loc σ hc
  refine w_loop [0, 5, 8, 9, 10] (fun n vs σ => ∃ k ver : Nat, vs = [.d (intsD path), .own loc ver 9 0 ((askedF path 0 (l.take k)).map askD).length, .d (patsD l), .d (.v (.int .i64 ((patR l).length : Int))), .d (.v (.int .i64 (k : Int)))] ∧ σ[loc]? = some (.arr 98 9 ver ((askedF path 0 (l.take k)).map askD)) ∧ k ≤ l.length ∧ n = l.length - k) rfl ⟨0, 0, rfl, hc.at', by omega, rfl⟩ ?_
  clear hc
  rintro n vs σ ⟨k, ver, rfl, hA, hk, rfl⟩ fr hfr
  cases hfr
  have lk : (askedF path 0 (l.take k)).length ≤ 100000000 := Nat.le_trans (askedF_len _ _ _) (by rw [List.length_take]; omega)
  by_cases hlt : k < l.length
  · obtain ⟨⟨qk, qn, qi, qs, qa, qb, qc, ql⟩, hq⟩ := getS hlt
    have ht := asked_take (path := path) hq
    have hts := tests_c (.mk qk qn qi qs qa qb qc ql)
    cases hb : testsB (.mk qk qn qi qs qa qb qc ql) <;> rw [hb] at hts ht
    · rw [if_neg (by simp), List.append_nil] at ht
      repeat' (first | refine s_op rfl ?_ | (apply s_move; (iterate 4 (exact rfl))) | (apply s_ld_f tab_ok; (iterate 6 (exact rfl))) | (apply s_assign; (iterate 4 (exact rfl))) | (apply s_idx tab_ok; (iterate 7 (exact rfl)); (first | exact patR_get (by assumption) | exact valR_get (by assumption) | exact row_map (by assumption) | assumption)) | (apply s_lss_t; (iterate 5 (exact rfl)); omega) | (apply s_add64; (iterate 5 (exact rfl)); omega) | (apply s_allocF tabZ_ok; (iterate 6 (exact rfl)); intro locX σ hc; have hX := hc.at'; have nAX := hc.ne hA; replace hA := hc.keep hA; clear hc) | (apply s_storeF tab_ok; (iterate 7 (exact rfl)); exact hX; (iterate 2 (exact rfl)); intro σ hc; replace hX := hc.at'; replace hA := hc.keep (by first | assumption | (apply Ne.symm; assumption) | omega) hA; clear hc) | (apply s_ldF tab_ok; (iterate 5 (exact rfl)); exact hX; exact rfl) | (apply s_call; (iterate 6 (exact rfl)); first | (exact hts; rintro _ rfl)) | refine al_nil ?_ | refine q_then_n ?_ | refine q_blk_n ?_ | refine aw_block ?_ | refine aw_seq ?_ | refine aw_reg ?_ | refine aw_true rfl ?_ | refine aw_false rfl ?_ | refine aw_skip ?_)
      exact ⟨_, _, rfl, by omega, k + 1, ver, by rw [ht]; rfl, by rw [ht]; exact hA, by omega, rfl⟩
    · rw [if_pos rfl] at ht
      repeat' (first | refine s_op rfl ?_ | (apply s_move; (iterate 4 (exact rfl))) | (apply s_ld_f tab_ok; (iterate 6 (exact rfl))) | (apply s_assign; (iterate 4 (exact rfl))) | (apply s_idx tab_ok; (iterate 7 (exact rfl)); (first | exact patR_get (by assumption) | exact valR_get (by assumption) | exact row_map (by assumption) | assumption)) | (apply s_lit tab_ok tabZ_ok; (iterate 10 (exact rfl))) | (apply s_lss_t; (iterate 5 (exact rfl)); omega) | (apply s_add64; (iterate 5 (exact rfl)); omega) | (apply s_allocF tabZ_ok; (iterate 6 (exact rfl)); intro locX σ hc; have hX := hc.at'; have nAX := hc.ne hA; replace hA := hc.keep hA; clear hc) | (apply s_storeF tab_ok; (iterate 7 (exact rfl)); exact hX; (iterate 2 (exact rfl)); intro σ hc; replace hX := hc.at'; replace hA := hc.keep (by first | assumption | (apply Ne.symm; assumption) | omega) hA; clear hc) | (apply s_ldF tab_ok; (iterate 5 (exact rfl)); exact hX; exact rfl) | (apply s_callS; (iterate 6 (exact rfl)); exact hcl _; rintro _ σ ⟨locC, verC, rfl, hc⟩; have hC := hc.at'; have nAC := hc.ne hA; have nXC := hc.ne hX; replace hA := hc.keep hA; replace hX := hc.keep hX; clear hc) | (apply s_appF tab_ok tabZ_ok (rows2 := [intRow (k : Int)]) (rows3 := (path ++ [(k : Int)]).map intRow) (m := (path ++ [(k : Int)]).length); (iterate 10 (exact rfl)); exact hC; exact src_of (Tab.slIs tab_ok (t := 29) rfl) (rows_d rfl); (simp); (simp; omega); intro σ hc; replace hC := hc.at'; replace hA := hc.keep (by first | assumption | (apply Ne.symm; assumption) | omega) hA; replace hX := hc.keep (by first | assumption | (apply Ne.symm; assumption) | omega) hX; clear hc) | (refine o_freezeF 22 rfl hC (by simp) ?_; intro σ hc; replace hC := hc.at'; replace hA := hc.keep (by first | assumption | (apply Ne.symm; assumption) | omega) hA; replace hX := hc.keep (by first | assumption | (apply Ne.symm; assumption) | omega) hX; clear hc) | (apply s_build tabZ_ok; (iterate 5 (exact rfl))) | (apply s_appF tab_ok tabZ_ok (rows2 := [askD ⟨path ++ [(k : Int)], .mk qk qn qi qs qa qb qc ql⟩]) (rows3 := (askedF path 0 (l.take (k + 1))).map askD) (m := ((askedF path 0 (l.take (k + 1))).map askD).length); (iterate 10 (exact rfl)); exact hA; exact src_of (Tab.slIs tab_ok (t := 94) rfl) (rows_d rfl); (rw [ht]; simp); (rw [ht]; simp; omega); intro σ hc; replace hA := hc.at'; replace hX := hc.keep (by first | assumption | (apply Ne.symm; assumption) | omega) hX; clear hc) | (apply s_call; (iterate 6 (exact rfl)); first | (exact hts; rintro _ rfl)) | refine al_nil ?_ | refine q_then_n ?_ | refine q_blk_n ?_ | refine aw_block ?_ | refine aw_seq ?_ | refine aw_reg ?_ | refine aw_true rfl ?_ | refine aw_skip ?_ | refine al_fork ?_ ?_ | refine al_fork3 ?_ ?_ ?_ | refine aw_draws (id := 6) (trO [0, 1, 3] (.fork3 2 (.fork 4 (.fork 5 (trO [6, 7, 8, 9, 10] .nil) 6 (trO [5, 7, 8, 9, 10] .nil)) 6 (trO [4, 5, 7, 8, 9, 10] .nil)) 4 (.fork 2 (.fork 5 (trO [6, 7, 8, 9, 10] .nil) 6 (trO [5, 7, 8, 9, 10] .nil)) 6 (trO [2, 5, 7, 8, 9, 10] .nil)) 6 (.fork 2 (trO [4, 5, 7, 8, 9, 10] .nil) 4 (trO [2, 5, 7, 8, 9, 10] .nil)))) [2, 4, 5, 6, 8, 9] [2, 5, 9] mixed_ok (by kernel_rfl) ?_)
      all_goals exact ⟨_, _, rfl, by omega, k + 1, _, rfl, hA, by omega, rfl⟩
  · rw [List.take_of_length_le (by omega)] at hA
    rw [List.take_of_length_le (by omega)]
    repeat' (first | refine s_op rfl ?_ | (apply s_move; (iterate 4 (exact rfl))) | (apply s_assign; (iterate 4 (exact rfl))) | (apply s_lss_f; (iterate 5 (exact rfl)); omega) | refine al_nil ?_ | refine q_then_n ?_ | refine q_blk_e ?_ | refine q_then_e ?_ | refine aw_exit ?_ | refine aw_seq ?_ | refine aw_reg ?_ | refine aw_false rfl ?_ | refine aw_ret ?_)
    exact q_ret rfl ⟨loc, ver, 98, rfl, hA⟩
end Go.Proofs.Ytjflembhgjcgkaa

/- C35: narrow, of the tree. -/
namespace Go.Proofs.Ytjflembhgjcgkaa
open Go.RowKit

theorem narrow_take {rows : List RowT} {k : Nat} {r : RowT} (path : List Int) (s : Option Pat) (h : rows[k]? = some r) : narrowF (rows.take (k + 1)) path s = narrowF (rows.take k) path s ++ (narrowR path s r).toList := by
  rw [List.take_add_one, h]
  unfold narrowF
  rw [List.filterMap_append]
  congr 1
theorem narrowF_len (rows : List RowT) (path : List Int) (s : Option Pat) : (narrowF rows path s).length ≤ rows.length := List.length_filterMap_le _ _
theorem drop_said (asks : List AskT) (j : Nat) : (((asks.map askD).take (((none : Option Int).getD (asks.map askD).length).toNat)).drop (((some ((j : Int) + 1)).getD 0).toNat)) = (asks.drop (j + 1)).map askD := by
  simp only [Option.getD_none, Option.getD_some, Int.toNat_natCast, List.take_length]
  rw [show ((j : Int) + 1).toNat = j + 1 by omega, List.map_drop]

set_option maxRecDepth 100000 in
set_option maxHeartbeats 8000000 in
theorem narrow_c (rows : List RowT) (path : List Int) (s : Option Pat) (hM : ∀ r ∈ rows, r.asks.length ≤ 10000000 ∧ ∀ a ∈ r.asks, a.path.length ≤ 10000000 ∧ a.p.l.length ≤ 10000000) (hl : rows.length ≤ 10000000) (hp : path.length ≤ 10000000) :
    RunsP Try.prog 86 [rowsTD rows, intsD path, patsD s.toList] (fun v => v = rowsTD (narrowF rows path s)) := by
  refine RunsP.ofOwn (rows := (narrowF rows path s).map rowTD) ?_
  have e1 : (rows.map rowTD).length = rows.length := by simp
  have e3 := patR_len s.toList
  refine enter 73 Try.func86 rfl (by kernel_rfl) rfl rfl rfl ?_
  repeat' (first | refine s_op rfl ?_ | (apply s_move; (iterate 4 (exact rfl))) | (apply s_assign; (iterate 4 (exact rfl))) | (apply s_len tab_ok; (iterate 5 (exact rfl))) | (apply s_boxZ; (iterate 5 (exact rfl)); first | exact rfl | exact allD_mapd _) | refine al_nil ?_ | refine q_then_n ?_ | refine aw_block ?_ | refine aw_seq ?_ | refine aw_reg ?_)
  refine w_adoptF 7 96 2 rfl ?_
  intro loc σ hc
  refine w_loop [2, 4, 7, 12, 13, 14] (fun n vs σ => ∃ k ver : Nat, vs = [.d (patsD s.toList), .d (.fptr [intsD path]), .own loc ver 2 0 ((narrowF (rows.take k) path s).map rowTD).length, .d (rowsTD rows), .d (.v (.int .i64 ((rows.map rowTD).length : Int))), .d (.v (.int .i64 (k : Int)))] ∧ σ[loc]? = some (.arr 96 2 ver ((narrowF (rows.take k) path s).map rowTD)) ∧ k ≤ rows.length ∧ n = rows.length - k) rfl ⟨0, 0, rfl, hc.at', by omega, rfl⟩ ?_
  clear hc
  rintro n vs σ ⟨k, ver, rfl, hA, hk, rfl⟩ fr hfr
  cases hfr
  have lk : (narrowF (rows.take k) path s).length ≤ 10000000 := Nat.le_trans (narrowF_len _ _ _) (by rw [List.length_take]; omega)
  by_cases hlt : k < rows.length
  · obtain ⟨⟨asks, rn⟩, hq⟩ := getS hlt
    obtain ⟨m1, m2⟩ := hM _ (List.mem_of_getElem? hq)
    have m1 : asks.length ≤ 10000000 := m1
    have e2 : (asks.map askD).length = asks.length := by simp
    have ht := narrow_take path s hq
    have hix := indexA_c asks path (fun a ha => Nat.le_trans (m2 a ha).1 (by omega)) (Nat.le_trans m1 (by omega))
    cases hsp : spotF path asks with
    | none =>
      have hf : fidx asks (fun a => decide (a.path = path)) = -1 := by unfold fidx; unfold spotF at hsp; rw [hsp]
      rw [hf] at hix
      obtain ⟨r', hr'⟩ : ∃ r' : RowT, r' = ⟨asks, rn⟩ := ⟨_, rfl⟩
      rw [show narrowR path s ⟨asks, rn⟩ = some r' by simp only [narrowR, hsp, hr'], Option.toList_some] at ht
      subst hr'
      repeat' (first | refine s_op rfl ?_ | (apply s_move; (iterate 4 (exact rfl))) | (apply s_fa_p tab_ok; (iterate 5 (exact rfl))) | (apply s_ld_f tab_ok; (iterate 6 (exact rfl))) | (apply s_assign; (iterate 4 (exact rfl))) | (apply s_idx tab_ok; (iterate 7 (exact rfl)); (first | exact patR_get (by assumption) | exact valR_get (by assumption) | exact row_map (by assumption) | assumption)) | (apply s_mkf; (iterate 4 (exact rfl))) | (apply s_lit tab_ok tabZ_ok; (iterate 10 (exact rfl))) | (apply s_lss_t; (iterate 5 (exact rfl)); omega) | (apply s_add64; (iterate 5 (exact rfl)); omega) | (apply s_allocF tabZ_ok; (iterate 6 (exact rfl)); intro locX σ hc; have hX := hc.at'; have nAX := hc.ne hA; replace hA := hc.keep hA; clear hc) | (apply s_storeF tab_ok; (iterate 7 (exact rfl)); exact hX; (iterate 2 (exact rfl)); intro σ hc; replace hX := hc.at'; replace hA := hc.keep (by first | assumption | (apply Ne.symm; assumption) | omega) hA; clear hc) | (apply s_ldF tab_ok; (iterate 5 (exact rfl)); exact hX; exact rfl) | (apply s_appF tab_ok tabZ_ok (rows2 := [rowTD ⟨asks, rn⟩]) (rows3 := (narrowF (rows.take (k + 1)) path s).map rowTD) (m := ((narrowF (rows.take (k + 1)) path s).map rowTD).length); (iterate 10 (exact rfl)); exact hA; exact src_of (Tab.slIs tab_ok (t := 93) rfl) (rows_d rfl); (simp only [ht, List.map_append, List.map_cons, List.map_nil]); (simp only [ht, List.length_map, List.length_append, List.length_cons, List.length_nil, and_true, true_and]; omega); intro σ hc; replace hA := hc.at'; replace hX := hc.keep (by first | assumption | (apply Ne.symm; assumption) | omega) hX; clear hc) | (apply s_call; (iterate 6 (exact rfl)); first | (exact hix; rintro _ rfl)) | refine al_nil ?_ | refine q_then_n ?_ | refine q_blk_e ?_ | refine q_then_e ?_ | refine aw_block ?_ | refine aw_exit ?_ | refine aw_seq ?_ | refine aw_reg ?_ | refine aw_true rfl ?_ | refine aw_skip ?_)
      all_goals exact ⟨_, _, rfl, by omega, k + 1, _, rfl, hA, by omega, rfl⟩
    | some j =>
      have hf : fidx asks (fun a => decide (a.path = path)) = (j : Int) := by unfold fidx; unfold spotF at hsp; rw [hsp]
      rw [hf] at hix
      have hj : j < asks.length := by
        have := List.findIdx?_eq_some_iff_getElem.1 hsp
        exact this.1
      obtain ⟨⟨ap, ak, an, ai, as', aa, ab, ac, al⟩, ha⟩ := getS hj
      cases s with
      | none =>
        have e4 : (patR (Option.toList (none : Option Pat))).length = 0 := rfl
        rw [show narrowR path none ⟨asks, rn⟩ = none by simp only [narrowR, hsp], Option.toList_none, List.append_nil] at ht
        repeat' (first | refine s_op rfl ?_ | (apply s_skipV; (iterate 2 (exact rfl))) | (apply s_move; (iterate 4 (exact rfl))) | (apply s_fa_p tab_ok; (iterate 5 (exact rfl))) | (apply s_ld_f tab_ok; (iterate 6 (exact rfl))) | (apply s_assign; (iterate 4 (exact rfl))) | (apply s_pick_t; (iterate 5 (exact rfl))) | (apply s_len tab_ok; (iterate 5 (exact rfl))) | (apply s_idx tab_ok; (iterate 7 (exact rfl)); (first | exact patR_get (by assumption) | exact valR_get (by assumption) | exact row_map (by assumption) | assumption)) | (apply s_mkf; (iterate 4 (exact rfl))) | (apply s_eql_t; (iterate 5 (exact rfl)); omega) | (apply s_lss_t; (iterate 5 (exact rfl)); omega) | (apply s_lss_f; (iterate 5 (exact rfl)); omega) | (apply s_add64; (iterate 5 (exact rfl)); omega) | (apply s_allocF tabZ_ok; (iterate 6 (exact rfl)); intro locX σ hc; have hX := hc.at'; have nAX := hc.ne hA; replace hA := hc.keep hA; clear hc) | (apply s_storeF tab_ok; (iterate 7 (exact rfl)); exact hX; (iterate 2 (exact rfl)); intro σ hc; replace hX := hc.at'; replace hA := hc.keep (by first | assumption | (apply Ne.symm; assumption) | omega) hA; clear hc) | (apply s_ldF tab_ok; (iterate 5 (exact rfl)); exact hX; exact rfl) | (apply s_call; (iterate 6 (exact rfl)); first | (exact hix; rintro _ rfl)) | refine al_nil ?_ | refine q_then_n ?_ | refine q_blk_e ?_ | refine q_then_e ?_ | refine aw_block ?_ | refine aw_exit ?_ | refine aw_seq ?_ | refine aw_reg ?_ | refine aw_true rfl ?_ | refine aw_false rfl ?_ | refine aw_skip ?_ | refine aw_draws (id := 8) (trO [0, 1, 2, 3, 4, 5, 6, 7, 8, 9, 10, 11, 12, 13, 14, 15] .nil) [13] [] mixed_ok (by kernel_rfl) ?_)
        all_goals exact ⟨_, _, rfl, by omega, k + 1, ver, by rw [ht]; rfl, by rw [ht]; exact hA, by omega, rfl⟩
      | some q =>
        obtain ⟨qk, qn, qi, qs, qa, qb, qc, ql⟩ := q
        have e4 : (patR (Option.toList (some (Pat.mk qk qn qi qs qa qb qc ql)))).length = 1 := rfl
        have his := is_c (.mk qk qn qi qs qa qb qc ql) (.mk ak an ai as' aa ab ac al)
        cases hb : isB (.mk qk qn qi qs qa qb qc ql) (.mk ak an ai as' aa ab ac al) <;> rw [hb] at his
        · rw [show narrowR path (some (.mk qk qn qi qs qa qb qc ql)) ⟨asks, rn⟩ = none by simp only [narrowR, hsp, ha, hb]; rfl, Option.toList_none, List.append_nil] at ht
          repeat' (first | refine s_op rfl ?_ | (apply s_move; (iterate 4 (exact rfl))) | (apply s_fa_p tab_ok; (iterate 5 (exact rfl))) | (apply s_fa_f tab_ok; (iterate 6 (exact rfl))) | (apply s_ld_f tab_ok; (iterate 6 (exact rfl))) | (apply s_assign; (iterate 4 (exact rfl))) | (apply s_pick_f; (iterate 5 (exact rfl))) | (apply s_len tab_ok; (iterate 5 (exact rfl))) | (apply s_idx tab_ok; (iterate 7 (exact rfl)); (first | exact patR_get (by assumption) | exact valR_get (by assumption) | exact row_map (by assumption) | assumption)) | (apply s_mkf; (iterate 4 (exact rfl))) | (apply s_not_f; (iterate 4 (exact rfl))) | (apply s_eql_f; (iterate 5 (exact rfl)); omega) | (apply s_lss_t; (iterate 5 (exact rfl)); omega) | (apply s_lss_f; (iterate 5 (exact rfl)); omega) | (apply s_add64; (iterate 5 (exact rfl)); omega) | (apply s_idx tab_ok (row := patD (.mk qk qn qi qs qa qb qc ql)); (iterate 7 (exact rfl)); exact rfl) | (apply s_allocF tabZ_ok; (iterate 6 (exact rfl)); intro locX σ hc; have hX := hc.at'; have nAX := hc.ne hA; replace hA := hc.keep hA; clear hc) | (apply s_storeF tab_ok; (iterate 7 (exact rfl)); exact hX; (iterate 2 (exact rfl)); intro σ hc; replace hX := hc.at'; replace hA := hc.keep (by first | assumption | (apply Ne.symm; assumption) | omega) hA; clear hc) | (apply s_ldF tab_ok; (iterate 5 (exact rfl)); exact hX; exact rfl) | (apply s_call; (iterate 6 (exact rfl)); first | (exact hix; rintro _ rfl) | (exact his; rintro _ rfl)) | refine al_nil ?_ | refine q_then_n ?_ | refine q_blk_e ?_ | refine q_then_e ?_ | refine aw_block ?_ | refine aw_exit ?_ | refine aw_seq ?_ | refine aw_reg ?_ | refine aw_true rfl ?_ | refine aw_false rfl ?_ | refine aw_skip ?_ | refine aw_draws (id := 8) (trO [0, 1, 2, 3, 4, 5, 6, 7, 8, 9, 10, 11, 12, 13, 14, 15] .nil) [13] [] mixed_ok (by kernel_rfl) ?_)
          all_goals exact ⟨_, _, rfl, by omega, k + 1, ver, by rw [ht]; rfl, by rw [ht]; exact hA, by omega, rfl⟩
        · have hal : al.length ≤ 10000000 := (m2 _ (List.mem_of_getElem? ha)).2
          have hak := asked_c path al (by omega) (by omega)
          have hal2 := askedF_len path 0 al
          have hcc := concatK_c ((asks.take j).map askD) ((askedF path 0 al).map askD) ((asks.drop (j + 1)).map askD) (by simp; omega) (by simp; omega) (by simp; omega)
          rw [← List.map_append, ← List.map_append] at hcc
          rw [show narrowR path (some (.mk qk qn qi qs qa qb qc ql)) ⟨asks, rn⟩ = some ⟨asks.take j ++ askedF path 0 al ++ asks.drop (j + 1), rn⟩ by simp only [narrowR, hsp, ha, hb, if_true, Pat.l], Option.toList_some] at ht
          generalize asks.take j ++ askedF path 0 al ++ asks.drop (j + 1) = nw at ht hcc
          repeat' (first | refine s_op rfl ?_ | (apply s_move; (iterate 4 (exact rfl))) | (apply s_fa_p tab_ok; (iterate 5 (exact rfl))) | (apply s_fa_f tab_ok; (iterate 6 (exact rfl))) | (apply s_ld_f tab_ok; (iterate 6 (exact rfl))) | (apply s_assign; (iterate 4 (exact rfl))) | (apply s_pick_f; (iterate 5 (exact rfl))) | (apply s_len tab_ok; (iterate 5 (exact rfl))) | (apply s_idx tab_ok; (iterate 7 (exact rfl)); (first | exact patR_get (by assumption) | exact valR_get (by assumption) | exact row_map (by assumption) | assumption)) | (apply s_mkf; (iterate 4 (exact rfl))) | (apply s_build tabZ_ok; (iterate 5 (exact rfl))) | (apply s_lit tab_ok tabZ_ok; (iterate 10 (exact rfl))) | (apply s_not_t; (iterate 4 (exact rfl))) | (apply s_eql_f; (iterate 5 (exact rfl)); omega) | (apply s_lss_t; (iterate 5 (exact rfl)); omega) | (apply s_lss_f; (iterate 5 (exact rfl)); omega) | (apply s_add64; (iterate 5 (exact rfl)); omega) | (apply s_idx tab_ok (row := patD (.mk qk qn qi qs qa qb qc ql)); (iterate 7 (exact rfl)); exact rfl) | (apply s_allocF tabZ_ok; (iterate 6 (exact rfl)); intro locX σ hc; have hX := hc.at'; have nAX := hc.ne hA; replace hA := hc.keep hA; clear hc) | (apply s_storeF tab_ok; (iterate 7 (exact rfl)); exact hX; (iterate 2 (exact rfl)); intro σ hc; replace hX := hc.at'; replace hA := hc.keep (by first | assumption | (apply Ne.symm; assumption) | omega) hA; clear hc) | (apply s_ldF tab_ok; (iterate 5 (exact rfl)); exact hX; exact rfl) | (apply s_sliceE tab_ok (rows := asks.map askD) (lw := none) (rows' := (asks.take j).map askD); (iterate 8 (exact rfl)); (simp; omega); (simp [List.map_take])) | (apply s_sliceE tab_ok (rows := asks.map askD) (hg2 := none) (rows' := (asks.drop (j + 1)).map askD); (iterate 8 (exact rfl)); (simp; omega); exact drop_said asks j) | (apply s_appF tab_ok tabZ_ok (rows2 := [rowTD ⟨nw, rn⟩]) (rows3 := (narrowF (rows.take (k + 1)) path (some (.mk qk qn qi qs qa qb qc ql))).map rowTD) (m := ((narrowF (rows.take (k + 1)) path (some (.mk qk qn qi qs qa qb qc ql))).map rowTD).length); (iterate 10 (exact rfl)); exact hA; exact src_of (Tab.slIs tab_ok (t := 93) rfl) (rows_d rfl); (simp only [ht, List.map_append, List.map_cons, List.map_nil]); (simp only [ht, List.length_map, List.length_append, List.length_cons, List.length_nil, and_true, true_and]; omega); intro σ hc; replace hA := hc.at'; replace hX := hc.keep (by first | assumption | (apply Ne.symm; assumption) | omega) hX; clear hc) | (apply s_call; (iterate 6 (exact rfl)); first | (exact hix; rintro _ rfl) | (exact his; rintro _ rfl) | (exact hak; rintro _ rfl) | (exact hcc; rintro _ rfl)) | refine al_nil ?_ | refine q_then_n ?_ | refine q_blk_n ?_ | refine aw_block ?_ | refine aw_seq ?_ | refine aw_reg ?_ | refine aw_true rfl ?_ | refine aw_false rfl ?_ | refine aw_skip ?_ | refine aw_draws (id := 8) (trO [0, 1, 2, 3, 4, 5, 6, 7, 8, 9, 10, 11, 12, 13, 14, 15] .nil) [13] [] mixed_ok (by kernel_rfl) ?_ | refine aw_draws (id := 9) (trO [0, 1, 2, 3, 4, 5, 6, 7, 8, 9] .nil) [8] [] mixed_ok (by kernel_rfl) ?_ | refine aw_draws (id := 10) (trO [0, 1, 2, 3, 4, 5, 6, 7, 8, 9, 10, 13, 14, 11, 12, 15, 16, 17, 18] .nil) [11, 12, 16, 17] [17] mixed_ok (by kernel_rfl) ?_)
          all_goals exact ⟨_, _, rfl, by omega, k + 1, _, rfl, hA, by omega, rfl⟩
  · rw [List.take_of_length_le (by omega)] at hA
    rw [List.take_of_length_le (by omega)]
    repeat' (first | refine s_op rfl ?_ | (apply s_move; (iterate 4 (exact rfl))) | (apply s_assign; (iterate 4 (exact rfl))) | (apply s_lss_f; (iterate 5 (exact rfl)); omega) | refine al_nil ?_ | refine q_then_n ?_ | refine q_blk_e ?_ | refine q_then_e ?_ | refine aw_exit ?_ | refine aw_seq ?_ | refine aw_reg ?_ | refine aw_false rfl ?_ | refine aw_ret ?_)
    exact q_ret rfl ⟨loc, ver, 96, rfl, hA⟩
end Go.Proofs.Ytjflembhgjcgkaa
