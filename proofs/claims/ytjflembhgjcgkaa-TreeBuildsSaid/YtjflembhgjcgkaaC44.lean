/- C44: cases, of the document's tree. -/
import Derived.Test.YtjflembhgjcgkaaC43
import Derived.Test.YtjflembhgjcgkaaC36
set_option linter.unusedSimpArgs false
set_option linter.unusedVariables false
-- ALLUNDEF -- BOXZ
-- LEN: askD_len patD_len valD_len rowTD_len brD_len treeD_len factD_len
-- ROW: patR_get valR_get row_map brR_get treeR_get facts_get
-- DEF LDB: (apply s_ldF tab_ok; (iterate 5 (exact rfl)); (first | exact hB | exact hX); exact rfl)
-- DEF ALX: (apply s_allocF tabZ_ok (d := 13); (iterate 6 (exact rfl)); intro locX σ hc; have hX := hc.at'; have nAX := hc.ne hA; have nBX := hc.ne hB; replace hA := hc.keep hA; replace hB := hc.keep hB; have oX := hK.out hc; replace hK := hK.fresh hc; clear hc)
-- DEF STX: (apply s_storeF tab_ok; (iterate 7 (exact rfl)); exact hX; (iterate 2 (exact rfl)); intro σ hc; replace hX := hc.at'; replace hA := hc.keep nAX hA; replace hB := hc.keep nBX hB; replace hK := hK.chg oX hc; clear hc)
namespace Go.Proofs.Ytjflembhgjcgkaa
open Go.RowKit

def bld2V (g : Sg) (l : List Pat) (left : Int) : List AV := [.d (.lst 3 (g.datas.map dataD)), .d (.lst 4 (g.cons.map conD)), .d (patsD l), .d (.v (.int .i64 left))]
theorem caseR_len (L : List FactT) (path : List Int) (out : List Pat) (x : Pat) : (caseR L path out x).length ≤ out.length + 1 := by
  unfold caseR
  split
  · split <;> simp
  · omega
theorem caseR_plain {L : List FactT} {path : List Int} {out : List Pat} (x : Pat) (h : ∀ p ∈ out, plainP p) : ∀ p ∈ caseR L path out x, plainP p := by
  unfold caseR
  split
  · split
    · exact h
    · intro p hp
      rcases List.mem_append.1 hp with hp | hp
      · exact h p hp
      · simp at hp; subst hp; rfl
  · exact h
/-- What was told apart at so many patterns. -/
def outR (L : List FactT) (path : List Int) (l : List Pat) (k : Nat) : List Pat := (l.take k).foldl (caseR L path) []
theorem outR_next {L : List FactT} {path : List Int} {l : List Pat} {k : Nat} {x : Pat} (h : l[k]? = some x) : outR L path l (k + 1) = caseR L path (outR L path l k) x := by
  unfold outR
  rw [List.take_add_one, h, List.foldl_append]
  rfl
theorem outR_len {L : List FactT} {path : List Int} {l : List Pat} : ∀ k, k ≤ l.length → (outR L path l k).length ≤ k
  | 0, _ => by simp [outR]
  | k + 1, hk => by
    obtain ⟨x, hx⟩ : ∃ x, l[k]? = some x := getS (by omega)
    have h1 := outR_len (L := L) (path := path) (l := l) k (by omega)
    have h2 := caseR_len L path (outR L path l k) x
    rw [outR_next hx]; omega
theorem outR_plain {L : List FactT} {path : List Int} {l : List Pat} : ∀ k, k ≤ l.length → ∀ p ∈ outR L path l k, plainP p
  | 0, _ => by simp [outR]
  | k + 1, hk => by
    obtain ⟨x, hx⟩ : ∃ x, l[k]? = some x := getS (by omega)
    rw [outR_next hx]
    exact caseR_plain x (outR_plain (l := l) k (by omega))

section
variable {g : Sg} {L : List FactT} {path : List Int} {l : List Pat} {left : Int} {σ0 : List AObj} {locB : Nat}
set_option maxRecDepth 100000 in
set_option maxHeartbeats 8000000 in
theorem case89_con (m m' : Nat) (nm : ByteArray) (fs ms : List (List DV)) (dn : ByteArray) (dp : Int) (dc : List Int) (i : Int) (s : ByteArray) (a b c : Int) (ql : List Pat) (hq : g.cons[m]? = some ⟨nm, m', fs, ms⟩) (hd : g.datas[m']? = some ⟨dn, dp, dc⟩) (hl : dc.length ≤ 1000000000)
    (hB0 : σ0[locB]? = some (.row 105 (bld2V g l left))) :
    Runs Try.prog 89 [.ptr locB 0 0, .d (factsD L), .d (intsD path), .d (.agg (patD (.mk 5 m i s a b c ql)))] σ0 (fun v σ' => v = .d (patsD (dc.map conP)) ∧ KeptP (fun _ => True) σ0 σ') := by
  have hB := hB0
  have e1 : (dc.map intRow).length = dc.length := by simp
  have hml := (List.getElem?_eq_some_iff.1 hq).1
  have hml' := (List.getElem?_eq_some_iff.1 hd).1
  have hqr := row_map (f := conD) hq
  have hdr := row_map (f := dataD) hd
  have e2 : (g.cons.map conD).length = g.cons.length := by simp
  have e3 : (g.datas.map dataD).length = g.datas.length := by simp
  have hX := hB
  refine enter 119 Try.func89 rfl (by kernel_rfl) rfl rfl rfl ?_
  repeat' (first | refine s_op rfl ?_ | (apply s_move; (iterate 4 (exact rfl))) | (apply s_fa_p tab_ok; (iterate 5 (exact rfl))) | (apply s_fa_f tab_ok; (iterate 6 (exact rfl))) | (apply s_ld_f tab_ok; (iterate 6 (exact rfl))) | (apply s_assign; (iterate 4 (exact rfl))) | (apply s_idx tab_ok; (iterate 7 (exact rfl)); (first | exact patR_get (by assumption) | exact valR_get (by assumption) | exact row_map (by assumption) | exact brR_get (by assumption) | exact treeR_get (by assumption) | exact facts_get (by assumption) | assumption)) | (apply s_nilc; (iterate 5 (exact rfl))) | (apply s_boxZ; (iterate 5 (exact rfl)); first | exact rfl | exact allD_mapd _) | (apply s_eql_t; (iterate 5 (exact rfl)); omega) | (apply s_ldF tab_ok; (iterate 5 (exact rfl)); (first | exact hB | exact hX); exact rfl) | refine al_nil ?_ | refine q_then_n ?_ | refine aw_block ?_ | refine aw_seq ?_ | refine aw_reg ?_ | refine aw_true rfl ?_ | refine aw_draws (id := 3) (trO [0, 1, 2, 3, 4, 5, 6, 7, 8, 9, 10, 11, 12, 13, 14, 15, 16, 17, 18] .nil) [] [] mixed_ok (by kernel_rfl) ?_)
  refine w_adoptF 9 41 8 rfl ?_
  intro loc σ hc
  have hA := hc.at'
  have hK := hc.keptP fun _ => True
  have oA := (KeptP.refl (fun _ => True) _).out hc
  clear hc hB hB0 hX
  refine w_loop [9, 10, 11] (fun n vs σ => ∃ k ver : Nat, vs = [.own loc ver 8 0 (((dc.take k).map conP).map nilD).length, .d (intsD dc), .d (.v (.int .i64 (k : Int)))] ∧ σ[loc]? = some (.arr 41 8 ver (((dc.take k).map conP).map nilD)) ∧ KeptP (fun _ => True) σ0 σ ∧ k ≤ dc.length ∧ n = dc.length - k) rfl ⟨0, 0, rfl, hA, hK, by omega, rfl⟩ ?_
  clear hA hK
  rintro n vs σ ⟨k, ver, rfl, hA, hK, hk, rfl⟩ fr hfr
  cases hfr
  by_cases hlt : k < dc.length
  · obtain ⟨x, hx⟩ := getS hlt
    have ht : dc.take (k + 1) = dc.take k ++ [x] := by rw [List.take_add_one, hx]; rfl
    have htl : (dc.take k).length = k := by rw [List.length_take]; omega
    repeat' (first | refine s_op rfl ?_ | (apply s_move; (iterate 4 (exact rfl))) | (apply s_ld_f tab_ok; (iterate 6 (exact rfl))) | (apply s_assign; (iterate 4 (exact rfl))) | (apply s_len tab_ok; (iterate 5 (exact rfl))) | (apply s_idx tab_ok; (iterate 7 (exact rfl)); (first | exact patR_get (by assumption) | exact valR_get (by assumption) | exact row_map (by assumption) | exact brR_get (by assumption) | exact treeR_get (by assumption) | exact facts_get (by assumption) | assumption)) | (apply s_build tabZ_ok; (iterate 5 (exact rfl))) | (apply s_lit tab_ok tabZ_ok; (iterate 10 (exact rfl))) | (apply s_lss_t; (iterate 5 (exact rfl)); omega) | (apply s_add64; (iterate 5 (exact rfl)); omega) | (apply s_appF tab_ok tabZ_ok (rows2 := [nilD (conP x)]) (rows3 := ((dc.take (k + 1)).map conP).map nilD) (m := (((dc.take (k + 1)).map conP).map nilD).length); (iterate 10 (exact rfl)); exact hA; exact src_of (Tab.slIs tab_ok (t := 26) rfl) (rows_d rfl); (simp only [ht, List.map_append, List.map_cons, List.map_nil]); (simp only [ht, List.length_map, List.length_append, List.length_cons, List.length_nil, and_true, true_and]; omega); intro σ hc; replace hA := hc.at'; replace hK := hK.chg oA hc; clear hc) | refine al_nil ?_ | refine q_then_n ?_ | refine q_blk_n ?_ | refine aw_block ?_ | refine aw_seq ?_ | refine aw_reg ?_ | refine aw_true rfl ?_ | refine aw_skip ?_)
    exact ⟨_, _, rfl, by omega, k + 1, _, rfl, hA, hK, by omega, rfl⟩
  · rw [List.take_of_length_le (by omega)] at hA
    rw [List.take_of_length_le (by omega)]
    refine w_freezeF 9 rfl hA rfl ?_
    intro σ hc
    replace hK := hK.chg oA hc
    clear hA hc
    refine w_wk 9 (patsD (dc.map conP)) rfl (wk_plain fun p hp => by obtain ⟨x, _, rfl⟩ := List.mem_map.1 hp; rfl) ?_
    repeat' (first | refine s_op rfl ?_ | (apply s_move; (iterate 4 (exact rfl))) | (apply s_assign; (iterate 4 (exact rfl))) | (apply s_len tab_ok; (iterate 5 (exact rfl))) | (apply s_lss_f; (iterate 5 (exact rfl)); omega) | refine al_nil ?_ | refine q_then_n ?_ | refine q_blk_e ?_ | refine q_then_e ?_ | refine aw_exit ?_ | refine q_then_r ?_ | refine aw_seq ?_ | refine aw_reg ?_ | refine aw_false rfl ?_ | refine aw_ret ?_)
    exact q_ret rfl ⟨rfl, hK⟩

set_option maxRecDepth 100000 in
set_option maxHeartbeats 8000000 in
theorem case89_lit (hL : FOk L) (hp : path.length ≤ 1000000000) (hx0 : ∀ x ∈ path, 0 ≤ x) (hl : l.length ≤ 1000000) (hlm : ∀ p ∈ l, massP p ≤ 1000000) (kk nn i : Int) (s : ByteArray) (a b c : Int) (ql : List Pat) (h5 : kk ≠ 5)
    (hB0 : σ0[locB]? = some (.row 105 (bld2V g l left))) :
    Runs Try.prog 89 [.ptr locB 0 0, .d (factsD L), .d (intsD path), .d (.agg (patD (.mk kk nn i s a b c ql)))] σ0 (fun v σ' => v = .d (patsD (outR L path l l.length)) ∧ KeptP (fun _ => True) σ0 σ') := by
  have hB := hB0
  have e1 := patR_len l
  refine enter 119 Try.func89 rfl (by kernel_rfl) rfl rfl rfl ?_
  repeat' (first | refine s_op rfl ?_ | (apply s_fa_f tab_ok; (iterate 6 (exact rfl))) | (apply s_ld_f tab_ok; (iterate 6 (exact rfl))) | (apply s_assign; (iterate 4 (exact rfl))) | (apply s_boxZ; (iterate 5 (exact rfl)); first | exact rfl | exact allD_mapd _) | (apply s_eql_f; (iterate 5 (exact rfl)); omega) | refine al_nil ?_ | refine q_then_n ?_ | refine aw_block ?_ | refine aw_seq ?_ | refine aw_reg ?_ | refine aw_false rfl ?_ | refine aw_skip ?_)
  refine w_adoptF 9 41 8 rfl ?_
  intro loc σ hc
  have hA := hc.at'
  have hK := hc.keptP fun _ => True
  have oA := (KeptP.refl (fun _ => True) _).out hc
  have nBA := hc.ne hB
  replace hB := hc.keep hB
  clear hc
  refine w_loop [0, 1, 2, 9, 12] (fun n vs σ => ∃ k ver : Nat, vs = [.ptr locB 0 0, .d (factsD L), .d (intsD path), .own loc ver 8 0 ((outR L path l k).map nilD).length, .d (.v (.int .i64 (k : Int)))] ∧ σ[loc]? = some (.arr 41 8 ver ((outR L path l k).map nilD)) ∧ σ[locB]? = some (.row 105 (bld2V g l left)) ∧ KeptP (fun _ => True) σ0 σ ∧ k ≤ l.length ∧ n = l.length - k) rfl ⟨0, 0, rfl, hA, hB, hK, by omega, rfl⟩ ?_
  clear hA hK hB
  rintro n vs σ ⟨k, ver, rfl, hA, hB, hK, hk, rfl⟩ fr hfr
  cases hfr
  by_cases hlt : k < l.length
  · obtain ⟨x, hx⟩ := getS hlt
    have hxm := hlm x (List.mem_of_getElem? hx)
    have hn := outR_next (L := L) (path := path) hx
    have hol := outR_len (L := L) (path := path) k hk
    have hpl := outR_plain (L := L) (path := path) k hk
    have ht := there_c x path hp (by omega) hx0
    generalize hout : outR L path l k = out at *
    clear hout
    have may := (may87_c hL x [] (by simp; omega)).wkA (args' := [factsD L, .agg (patD x), .nil]) (.cons (Wk.refl _) (.cons (Wk.refl _) (.cons (Wk.nil 1) .nil)))
    unfold caseR at hn
    cases hth : thereF x path with
    | none =>
      have ht : RunsP Try.prog 111 [.agg (patD x), intsD path] (fun v => ∃ q, v = .tup [.agg (patD q), .v (.bool false)]) := ht.mono fun v h => h.elim (fun ⟨q, e, _⟩ => by rw [hth] at e; cases e) fun h => h.2
      rw [hth] at hn
      repeat' (first | refine s_op rfl ?_ | (apply s_skipV; (iterate 2 (exact rfl))) | (apply s_move; (iterate 4 (exact rfl))) | (apply s_fa_p tab_ok; (iterate 5 (exact rfl))) | (apply s_ld_w tab_ok; (iterate 5 (exact rfl)); (first | exact askD_len _ | exact patD_len _ | exact valD_len _ | exact rowTD_len _ | exact brD_len _ | exact treeD_len _ | exact factD_len _)) | (apply s_assign; (iterate 4 (exact rfl))) | (apply s_pick_t; (iterate 5 (exact rfl))) | (apply s_len tab_ok; (iterate 5 (exact rfl))) | (apply s_idx tab_ok; (iterate 7 (exact rfl)); (first | exact patR_get (by assumption) | exact valR_get (by assumption) | exact row_map (by assumption) | exact brR_get (by assumption) | exact treeR_get (by assumption) | exact facts_get (by assumption) | assumption)) | (apply s_ext; (iterate 5 (exact rfl))) | (apply s_nilc; (iterate 5 (exact rfl))) | (apply s_not_f; (iterate 4 (exact rfl))) | (apply s_lss_t; (iterate 5 (exact rfl)); omega) | (apply s_add64; (iterate 5 (exact rfl)); omega) | (apply s_call; (iterate 6 (exact rfl)); exact ht; rintro _ ⟨⟨qk, qn, qi, qs, qa, qb, qc, ql'⟩, rfl⟩) | (apply s_ldF tab_ok; (iterate 5 (exact rfl)); (first | exact hB | exact hX); exact rfl) | (apply s_allocF tabZ_ok (d := 13); (iterate 6 (exact rfl)); intro locX σ hc; have hX := hc.at'; have nAX := hc.ne hA; have nBX := hc.ne hB; replace hA := hc.keep hA; replace hB := hc.keep hB; have oX := hK.out hc; replace hK := hK.fresh hc; clear hc) | (apply s_storeF tab_ok; (iterate 7 (exact rfl)); exact hX; (iterate 2 (exact rfl)); intro σ hc; replace hX := hc.at'; replace hA := hc.keep nAX hA; replace hB := hc.keep nBX hB; replace hK := hK.chg oX hc; clear hc) | refine al_nil ?_ | refine q_then_n ?_ | refine q_blk_e ?_ | refine q_then_e ?_ | refine aw_block ?_ | refine aw_exit ?_ | refine aw_seq ?_ | refine aw_reg ?_ | refine aw_true rfl ?_ | refine aw_skip ?_)
      all_goals exact ⟨_, _, rfl, by omega, k + 1, ver, by rw [hn]; rfl, by rw [hn]; exact hA, hB, hK, by omega, rfl⟩
    | some q =>
      have ht : RunsP Try.prog 111 [.agg (patD x), intsD path] (fun v => v = .tup [.agg (patD q), .v (.bool true)]) := ht.mono fun v h => h.elim (fun ⟨q', e, h⟩ => by rw [hth] at e; injection e with e; rw [e]; exact h) fun h => by rw [hth] at h; cases h.1
      rw [hth] at hn
      simp only at hn
      have o := open_c q
      by_cases ho : openB q = true
      · rw [if_pos (.inl ho)] at hn
        rw [ho] at o
        obtain ⟨qk, qn, qi, qs, qa, qb, qc, ql'⟩ := q
        repeat' (first | refine s_op rfl ?_ | (apply s_skipV; (iterate 2 (exact rfl))) | (apply s_move; (iterate 4 (exact rfl))) | (apply s_fa_p tab_ok; (iterate 5 (exact rfl))) | (apply s_ld_w tab_ok; (iterate 5 (exact rfl)); (first | exact askD_len _ | exact patD_len _ | exact valD_len _ | exact rowTD_len _ | exact brD_len _ | exact treeD_len _ | exact factD_len _)) | (apply s_assign; (iterate 4 (exact rfl))) | (apply s_pick_t; (iterate 5 (exact rfl))) | (apply s_pick_f; (iterate 5 (exact rfl))) | (apply s_len tab_ok; (iterate 5 (exact rfl))) | (apply s_idx tab_ok; (iterate 7 (exact rfl)); (first | exact patR_get (by assumption) | exact valR_get (by assumption) | exact row_map (by assumption) | exact brR_get (by assumption) | exact treeR_get (by assumption) | exact facts_get (by assumption) | assumption)) | (apply s_ext; (iterate 5 (exact rfl))) | (apply s_nilc; (iterate 5 (exact rfl))) | (apply s_not_t; (iterate 4 (exact rfl))) | (apply s_lss_t; (iterate 5 (exact rfl)); omega) | (apply s_add64; (iterate 5 (exact rfl)); omega) | (apply s_ldF tab_ok; (iterate 5 (exact rfl)); (first | exact hB | exact hX); exact rfl) | (apply s_allocF tabZ_ok (d := 13); (iterate 6 (exact rfl)); intro locX σ hc; have hX := hc.at'; have nAX := hc.ne hA; have nBX := hc.ne hB; replace hA := hc.keep hA; replace hB := hc.keep hB; have oX := hK.out hc; replace hK := hK.fresh hc; clear hc) | (apply s_storeF tab_ok; (iterate 7 (exact rfl)); exact hX; (iterate 2 (exact rfl)); intro σ hc; replace hX := hc.at'; replace hA := hc.keep nAX hA; replace hB := hc.keep nBX hB; replace hK := hK.chg oX hc; clear hc) | (apply s_call; (iterate 6 (exact rfl)); first | (exact ht; rintro _ rfl) | (exact o; rintro _ rfl)) | refine al_nil ?_ | refine q_then_n ?_ | refine q_blk_e ?_ | refine q_then_e ?_ | refine aw_block ?_ | refine aw_exit ?_ | refine aw_seq ?_ | refine aw_reg ?_ | refine aw_true rfl ?_ | refine aw_skip ?_)
        all_goals exact ⟨_, _, rfl, by omega, k + 1, ver, by rw [hn]; rfl, by rw [hn]; exact hA, hB, hK, by omega, rfl⟩
      · have ho' : openB q = false := by simpa using ho
        rw [ho'] at o
        cases hm : mayF L x [] <;> rw [hm] at may
        · rw [if_pos (.inr (.inl hm))] at hn
          obtain ⟨qk, qn, qi, qs, qa, qb, qc, ql'⟩ := q
          repeat' (first | refine s_op rfl ?_ | (apply s_move; (iterate 4 (exact rfl))) | (apply s_fa_p tab_ok; (iterate 5 (exact rfl))) | (apply s_ld_w tab_ok; (iterate 5 (exact rfl)); (first | exact askD_len _ | exact patD_len _ | exact valD_len _ | exact rowTD_len _ | exact brD_len _ | exact treeD_len _ | exact factD_len _)) | (apply s_assign; (iterate 4 (exact rfl))) | (apply s_pick_f; (iterate 5 (exact rfl))) | (apply s_len tab_ok; (iterate 5 (exact rfl))) | (apply s_idx tab_ok; (iterate 7 (exact rfl)); (first | exact patR_get (by assumption) | exact valR_get (by assumption) | exact row_map (by assumption) | exact brR_get (by assumption) | exact treeR_get (by assumption) | exact facts_get (by assumption) | assumption)) | (apply s_ext; (iterate 5 (exact rfl))) | (apply s_nilc; (iterate 5 (exact rfl))) | (apply s_not_t; (iterate 4 (exact rfl))) | (apply s_not_f; (iterate 4 (exact rfl))) | (apply s_lss_t; (iterate 5 (exact rfl)); omega) | (apply s_add64; (iterate 5 (exact rfl)); omega) | (apply s_ldF tab_ok; (iterate 5 (exact rfl)); (first | exact hB | exact hX); exact rfl) | (apply s_allocF tabZ_ok (d := 13); (iterate 6 (exact rfl)); intro locX σ hc; have hX := hc.at'; have nAX := hc.ne hA; have nBX := hc.ne hB; replace hA := hc.keep hA; replace hB := hc.keep hB; have oX := hK.out hc; replace hK := hK.fresh hc; clear hc) | (apply s_storeF tab_ok; (iterate 7 (exact rfl)); exact hX; (iterate 2 (exact rfl)); intro σ hc; replace hX := hc.at'; replace hA := hc.keep nAX hA; replace hB := hc.keep nBX hB; replace hK := hK.chg oX hc; clear hc) | (apply s_call; (iterate 6 (exact rfl)); first | (exact ht; rintro _ rfl) | (exact o; rintro _ rfl) | (exact may; rintro _ rfl)) | refine al_nil ?_ | refine q_then_n ?_ | refine q_blk_e ?_ | refine q_then_e ?_ | refine aw_block ?_ | refine aw_exit ?_ | refine aw_seq ?_ | refine aw_reg ?_ | refine aw_true rfl ?_ | refine aw_skip ?_)
          all_goals exact ⟨_, _, rfl, by omega, k + 1, ver, by rw [hn]; rfl, by rw [hn]; exact hA, hB, hK, by omega, rfl⟩
        · obtain ⟨qk, qn, qi, qs, qa, qb, qc, ql'⟩ := q
          repeat' (first | refine s_op rfl ?_ | (apply s_move; (iterate 4 (exact rfl))) | (apply s_fa_p tab_ok; (iterate 5 (exact rfl))) | (apply s_ld_w tab_ok; (iterate 5 (exact rfl)); (first | exact askD_len _ | exact patD_len _ | exact valD_len _ | exact rowTD_len _ | exact brD_len _ | exact treeD_len _ | exact factD_len _)) | (apply s_assign; (iterate 4 (exact rfl))) | (apply s_pick_f; (iterate 5 (exact rfl))) | (apply s_len tab_ok; (iterate 5 (exact rfl))) | (apply s_idx tab_ok; (iterate 7 (exact rfl)); (first | exact patR_get (by assumption) | exact valR_get (by assumption) | exact row_map (by assumption) | exact brR_get (by assumption) | exact treeR_get (by assumption) | exact facts_get (by assumption) | assumption)) | (apply s_ext; (iterate 5 (exact rfl))) | (apply s_nilc; (iterate 5 (exact rfl))) | (apply s_not_t; (iterate 4 (exact rfl))) | (apply s_lss_t; (iterate 5 (exact rfl)); omega) | (apply s_ldF tab_ok; (iterate 5 (exact rfl)); (first | exact hB | exact hX); exact rfl) | (apply s_allocF tabZ_ok (d := 13); (iterate 6 (exact rfl)); intro locX σ hc; have hX := hc.at'; have nAX := hc.ne hA; have nBX := hc.ne hB; replace hA := hc.keep hA; replace hB := hc.keep hB; have oX := hK.out hc; replace hK := hK.fresh hc; clear hc) | (apply s_storeF tab_ok; (iterate 7 (exact rfl)); exact hX; (iterate 2 (exact rfl)); intro σ hc; replace hX := hc.at'; replace hA := hc.keep nAX hA; replace hB := hc.keep nBX hB; replace hK := hK.chg oX hc; clear hc) | (apply s_call; (iterate 6 (exact rfl)); first | (exact ht; rintro _ rfl) | (exact o; rintro _ rfl) | (exact may; rintro _ rfl)) | refine al_nil ?_ | refine q_then_n ?_ | refine aw_block ?_ | refine aw_seq ?_ | refine aw_reg ?_ | refine aw_true rfl ?_ | refine aw_false rfl ?_ | refine aw_skip ?_)
          refine w_loop [0, 1, 2, 9, 12, 13, 14, 15] (fun n vs σ => ∃ (j : Nat) (f : Bool), vs = [.ptr locB 0 0, .d (factsD L), .d (intsD path), .own loc ver 8 0 (out.map nilD).length, .d (.v (.int .i64 (k : Int))), .ptr locX 0 0, .d (.v (.bool f)), .d (.v (.int .i64 (j : Int)))] ∧ σ[loc]? = some (.arr 41 8 ver (out.map nilD)) ∧ σ[locB]? = some (.row 105 (bld2V g l left)) ∧ σ[locX]? = some (.row 41 ((patD (.mk qk qn qi qs qa qb qc ql')).map .d)) ∧ KeptP (fun _ => True) σ0 σ ∧ j ≤ out.length ∧ n = out.length - j ∧ f = !((out.take j).any fun p => isB p (.mk qk qn qi qs qa qb qc ql'))) rfl ⟨0, true, rfl, hA, hB, hX, hK, by omega, rfl, rfl⟩ ?_
          clear hA hB hX hK
          rintro n vs σ ⟨j, f, rfl, hA, hB, hX, hK, hj, rfl, hf⟩ fr hfr
          cases hfr
          have e3 : (out.map nilD).length = out.length := by simp
          have fin : (f = false ∨ j = out.length) → (out.any fun p => isB p (.mk qk qn qi qs qa qb qc ql')) = !f := by
            intro h
            rcases h with rfl | rfl
            · have : (out.take j).any (fun p => isB p (.mk qk qn qi qs qa qb qc ql')) = true := by
                cases e : (out.take j).any (fun p => isB p (.mk qk qn qi qs qa qb qc ql')) with
                | true => rfl
                | false => rw [e] at hf; cases hf
              obtain ⟨p, hp1, hp2⟩ := List.any_eq_true.1 this
              exact List.any_eq_true.2 ⟨p, List.mem_of_mem_take hp1, hp2⟩
            · rw [List.take_length] at hf
              rw [hf, Bool.not_not]
          cases f with
          | false =>
            have hany := fin (.inl rfl)
            rw [if_pos (.inr (.inr hany))] at hn
            by_cases hjl : j < out.length
            · repeat' (first | refine s_op rfl ?_ | (apply s_move; (iterate 4 (exact rfl))) | (apply s_assign; (iterate 4 (exact rfl))) | (apply s_pick_t; (iterate 5 (exact rfl))) | (apply s_len tab_ok; (iterate 5 (exact rfl))) | (apply s_lss_t; (iterate 5 (exact rfl)); omega) | (apply s_add64; (iterate 5 (exact rfl)); omega) | refine al_nil ?_ | refine q_then_n ?_ | refine q_blk_n ?_ | refine q_blk_e ?_ | refine q_then_e ?_ | refine aw_exit ?_ | refine aw_seq ?_ | refine aw_reg ?_ | refine aw_false rfl ?_ | refine aw_skip ?_)
              all_goals exact ⟨_, _, rfl, by omega, k + 1, ver, by rw [hn]; rfl, by rw [hn]; exact hA, hB, hK, by omega, rfl⟩
            · repeat' (first | refine s_op rfl ?_ | (apply s_skipV; (iterate 2 (exact rfl))) | (apply s_move; (iterate 4 (exact rfl))) | (apply s_assign; (iterate 4 (exact rfl))) | (apply s_pick_f; (iterate 5 (exact rfl))) | (apply s_len tab_ok; (iterate 5 (exact rfl))) | (apply s_lss_f; (iterate 5 (exact rfl)); omega) | (apply s_add64; (iterate 5 (exact rfl)); omega) | refine al_nil ?_ | refine q_then_n ?_ | refine q_blk_n ?_ | refine q_blk_e ?_ | refine q_then_e ?_ | refine aw_exit ?_ | refine aw_seq ?_ | refine aw_reg ?_ | refine aw_false rfl ?_ | refine aw_skip ?_)
              all_goals exact ⟨_, _, rfl, by omega, k + 1, ver, by rw [hn]; rfl, by rw [hn]; exact hA, hB, hK, by omega, rfl⟩
          | true =>
            by_cases hjl : j < out.length
            · obtain ⟨y, hy⟩ := getS hjl
              have hyr : (out.map nilD)[j]? = some (nilD y) := by simp [hy]
              have hyp := hpl y (List.mem_of_getElem? hy)
              have hal := alike_c y (.mk qk qn qi qs qa qb qc ql')
              have hwk : WkL (nilD y) (patD y) := by
                obtain ⟨yk, yn, yi, ys, ya, yb, yc, yl⟩ := y
                have : yl = [] := hyp
                subst this
                exact wkL_patnil (Wk.nil 8)
              have hal := hal.wkA (.cons (Wk.agg hwk) (.cons (Wk.refl _) .nil))
              have hnx : (!((out.take (j + 1)).any fun p => isB p (.mk qk qn qi qs qa qb qc ql'))) = !(isB y (.mk qk qn qi qs qa qb qc ql')) := by
                rw [List.take_add_one, hy, List.any_append]
                have : (out.take j).any (fun p => isB p (.mk qk qn qi qs qa qb qc ql')) = false := by
                  cases e : (out.take j).any (fun p => isB p (.mk qk qn qi qs qa qb qc ql')) with
                  | false => rfl
                  | true => rw [e] at hf; cases hf
                rw [this]; simp
              obtain ⟨yk, yn, yi, ys, ya, yb, yc, yl⟩ := y
              cases hb : isB (.mk yk yn yi ys ya yb yc yl) (.mk qk qn qi qs qa qb qc ql') <;> rw [hb] at hal hnx
              · repeat' (first | refine s_op rfl ?_ | (apply s_move; (iterate 4 (exact rfl))) | (apply s_assign; (iterate 4 (exact rfl))) | (apply s_pick_t; (iterate 5 (exact rfl))) | (apply s_len tab_ok; (iterate 5 (exact rfl))) | (apply s_not_f; (iterate 4 (exact rfl))) | (apply s_lss_t; (iterate 5 (exact rfl)); omega) | (apply s_add64; (iterate 5 (exact rfl)); omega) | (apply s_ldF tab_ok; (iterate 5 (exact rfl)); (first | exact hB | exact hX); exact rfl) | (apply s_idxO _ tab_ok; (iterate 7 (exact rfl)); exact hA; exact ⟨by omega, rfl⟩) | (apply s_ldA j 0 tab_ok (r := nilD (.mk yk yn yi ys ya yb yc yl)); (iterate 5 (exact rfl)); exact hA; exact hyr; omega; exact rfl) | (apply s_call; (iterate 6 (exact rfl)); first | (exact hal; rintro _ rfl)) | refine al_nil ?_ | refine q_then_n ?_ | refine q_blk_n ?_ | refine aw_block ?_ | refine aw_seq ?_ | refine aw_reg ?_ | refine aw_true rfl ?_ | refine aw_skip ?_ | refine aw_draws (id := 17) (trO [0, 1, 2, 3, 4, 5, 6, 7] .nil) [5] [] mixed_ok (by kernel_rfl) ?_)
                all_goals exact ⟨_, _, rfl, by omega, j + 1, true, rfl, hA, hB, hX, hK, by omega, rfl, hnx.symm⟩
              · repeat' (first | refine s_op rfl ?_ | (apply s_move; (iterate 4 (exact rfl))) | (apply s_assign; (iterate 4 (exact rfl))) | (apply s_pick_t; (iterate 5 (exact rfl))) | (apply s_len tab_ok; (iterate 5 (exact rfl))) | (apply s_not_t; (iterate 4 (exact rfl))) | (apply s_lss_t; (iterate 5 (exact rfl)); omega) | (apply s_add64; (iterate 5 (exact rfl)); omega) | (apply s_ldF tab_ok; (iterate 5 (exact rfl)); (first | exact hB | exact hX); exact rfl) | (apply s_idxO _ tab_ok; (iterate 7 (exact rfl)); exact hA; exact ⟨by omega, rfl⟩) | (apply s_ldA j 0 tab_ok (r := nilD (.mk yk yn yi ys ya yb yc yl)); (iterate 5 (exact rfl)); exact hA; exact hyr; omega; exact rfl) | (apply s_call; (iterate 6 (exact rfl)); first | (exact hal; rintro _ rfl)) | refine al_nil ?_ | refine q_then_n ?_ | refine q_blk_n ?_ | refine aw_block ?_ | refine aw_seq ?_ | refine aw_reg ?_ | refine aw_true rfl ?_ | refine aw_skip ?_ | refine aw_draws (id := 17) (trO [0, 1, 2, 3, 4, 5, 6, 7] .nil) [5] [] mixed_ok (by kernel_rfl) ?_)
                all_goals exact ⟨_, _, rfl, by omega, j + 1, false, rfl, hA, hB, hX, hK, by omega, rfl, hnx.symm⟩
            · have hany := fin (.inr (by omega))
              have hnn : ¬ (openB (.mk qk qn qi qs qa qb qc ql') = true ∨ mayF L x [] = false ∨ (out.any fun p => isB p (.mk qk qn qi qs qa qb qc ql')) = true) := by
                rw [ho', hm, hany]; simp
              rw [if_neg hnn] at hn
              repeat' (first | refine s_op rfl ?_ | (apply s_skipV; (iterate 2 (exact rfl))) | (apply s_move; (iterate 4 (exact rfl))) | (apply s_fa_p tab_ok; (iterate 5 (exact rfl))) | (apply s_assign; (iterate 4 (exact rfl))) | (apply s_pick_f; (iterate 5 (exact rfl))) | (apply s_len tab_ok; (iterate 5 (exact rfl))) | (apply s_build tabZ_ok; (iterate 5 (exact rfl))) | (apply s_lit tab_ok tabZ_ok; (iterate 10 (exact rfl))) | (apply s_lss_f; (iterate 5 (exact rfl)); omega) | (apply s_add64; (iterate 5 (exact rfl)); omega) | (apply s_ldF tab_ok; (iterate 5 (exact rfl)); (first | exact hB | exact hX); exact rfl) | (apply s_appF tab_ok tabZ_ok (rows2 := [nilD (.mk qk 0 qi qs 0 0 0 [])]) (rows3 := (outR L path l (k + 1)).map nilD) (m := ((outR L path l (k + 1)).map nilD).length); (iterate 10 (exact rfl)); exact hA; exact src_of (Tab.slIs tab_ok (t := 26) rfl) (rows_d rfl); (rw [hn]; simp only [List.map_append, List.map_cons, List.map_nil]; rfl); (simp only [hn, List.length_map, List.length_append, List.length_cons, List.length_nil, and_true, true_and]; omega); intro σ hc; replace hA := hc.at'; replace hB := hc.keep (by assumption) hB; replace hK := hK.chg oA hc; clear hc) | refine al_nil ?_ | refine q_then_n ?_ | refine q_blk_n ?_ | refine q_blk_e ?_ | refine q_then_e ?_ | refine aw_exit ?_ | refine aw_seq ?_ | refine aw_reg ?_ | refine aw_true rfl ?_ | refine aw_false rfl ?_)
              all_goals exact ⟨_, _, rfl, by omega, k + 1, _, rfl, hA, hB, hK, by omega, rfl⟩
  · have hkk : k = l.length := by omega
    subst hkk
    have hpl := outR_plain (L := L) (path := path) l.length (Nat.le_refl _)
    refine w_freezeF 9 rfl hA rfl ?_
    intro σ hc
    replace hB := hc.keep (by assumption) hB
    replace hK := hK.chg oA hc
    clear hA hc
    refine w_wk 9 (patsD (outR L path l l.length)) rfl (wk_plain hpl) ?_
    repeat' (first | refine s_op rfl ?_ | (apply s_move; (iterate 4 (exact rfl))) | (apply s_fa_p tab_ok; (iterate 5 (exact rfl))) | (apply s_assign; (iterate 4 (exact rfl))) | (apply s_len tab_ok; (iterate 5 (exact rfl))) | (apply s_nilc; (iterate 5 (exact rfl))) | (apply s_lss_f; (iterate 5 (exact rfl)); omega) | (apply s_ldF tab_ok; (iterate 5 (exact rfl)); (first | exact hB | exact hX); exact rfl) | refine al_nil ?_ | refine q_then_n ?_ | refine q_blk_e ?_ | refine q_then_e ?_ | refine aw_exit ?_ | refine aw_seq ?_ | refine aw_reg ?_ | refine aw_false rfl ?_ | refine aw_ret ?_)
    all_goals exact q_ret rfl ⟨rfl, hK⟩
end
theorem cases89_o {g : Sg} {L : List FactT} (hL : FOk L) {path : List Int} (hp : path.length ≤ 1000000000) (hx0 : ∀ x ∈ path, 0 ≤ x) {l : List Pat} (hl : l.length ≤ 1000000) (hlm : ∀ p ∈ l, massP p ≤ 1000000) {q : Pat} (hok : CaseOk g q) {σ0 : List AObj} {locB : Nat} {left : Int} (hB0 : σ0[locB]? = some (.row 105 (bld2V g l left))) :
    Runs Try.prog 89 [.ptr locB 0 0, .d (factsD L), .d (intsD path), .d (.agg (patD q))] σ0 (fun v σ' => v = .d (patsD (casesRef g l L path q)) ∧ KeptP (fun _ => True) σ0 σ') := by
  obtain ⟨k, n, i, s, a, b, c, ql⟩ := q
  by_cases h5 : k = 5
  · subst h5
    obtain ⟨m, m', ⟨nm, dt, fs, ms⟩, ⟨dn, dp, dc⟩, h1, h2, h3, h4, h6⟩ := hok rfl
    simp only [Pat.n] at h1
    subst h1
    simp only at h3 h6
    subst h3
    have := case89_con (L := L) (path := path) m m' nm fs ms dn dp dc i s a b c ql h2 h4 h6 hB0
    unfold casesRef
    simp only [Pat.kind, Pat.n, if_true]
    rw [dataOf_at' h2]
    unfold Sg.consOf Sg.dat
    simp only [Int.natCast_nonneg, if_true, Int.toNat_natCast, h4]
    exact this
  · have := case89_lit hL hp hx0 hl hlm k n i s a b c ql h5 hB0
    unfold casesRef
    simp only [Pat.kind, h5, if_false]
    unfold outR at this
    rw [List.take_length] at this
    exact this
end Go.Proofs.Ytjflembhgjcgkaa
