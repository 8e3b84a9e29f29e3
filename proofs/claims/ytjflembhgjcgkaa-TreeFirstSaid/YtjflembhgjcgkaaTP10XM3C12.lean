/- M3, C12: in one. -/
import Derived.Test.YtjflembhgjcgkaaTP10M2
import Derived.Test.YtjflembhgjcgkaaTP10XC3C4
set_option linter.unusedSimpArgs false
set_option linter.unusedVariables false
/- M3: a signature that serves, row by row; counts. No program in sight. -/
namespace Go.Proofs.Ytjflembhgjcgkaa
open Go.RowKit

def conRow (g : Sg) (n : Nat) : Bool := match g.cons[n]? with | some c => (match g.dat c.data with | some d => d.cons.contains (n : Int) | none => false) | none => true
def datIn (g : Sg) (n : Nat) (d : DataT) (i : Nat) : Bool := match d.cons[i]? with
  | some x => (match g.con x with | some c => c.data == (n : Int) | none => false) && !(d.cons.take i).contains x
  | none => true
def datRow (g : Sg) (n : Nat) : Bool := match g.datas[n]? with | some d => (List.range d.cons.length).all (datIn g n d) | none => true
theorem servesB_rows (g : Sg) : servesB g = ((List.range g.cons.length).all (conRow g) && (List.range g.datas.length).all (datRow g)) := rfl
theorem servesB_con {g : Sg} {n : Nat} (hn : n < g.cons.length) (h : conRow g n = false) : servesB g = false := by
  rw [servesB_rows, Bool.and_eq_false_iff]
  left
  rw [List.all_eq_false]
  exact ⟨n, List.mem_range.2 hn, by simp [h]⟩
theorem servesB_dat {g : Sg} {n i : Nat} {d : DataT} (hd : g.datas[n]? = some d) (hi : i < d.cons.length) (h : datIn g n d i = false) : servesB g = false := by
  rw [servesB_rows, Bool.and_eq_false_iff]
  right
  rw [List.all_eq_false]
  refine ⟨n, List.mem_range.2 (List.getElem?_eq_some_iff.1 hd).1, ?_⟩
  unfold datRow
  rw [hd]
  simp only [Bool.not_eq_true]
  rw [List.all_eq_false]
  exact ⟨i, List.mem_range.2 hi, by simp [h]⟩
theorem servesB_ok {g : Sg} (h1 : ∀ n, n < g.cons.length → conRow g n = true) (h2 : ∀ n, n < g.datas.length → datRow g n = true) : servesB g = true := by
  rw [servesB_rows, Bool.and_eq_true, all_range, all_range]
  exact ⟨h1, h2⟩
theorem datRow_ok {g : Sg} {n : Nat} {d : DataT} (hd : g.datas[n]? = some d) (h : ∀ i, i < d.cons.length → datIn g n d i = true) : datRow g n = true := by
  unfold datRow
  rw [hd]
  simp only
  rw [all_range]
  exact h
theorem upto_next {p : Nat → Bool} {k : Nat} (h : ∀ i, i < k → p i = true) (hk : p k = true) : ∀ i, i < k + 1 → p i = true := fun i hi => by
  by_cases e : i = k
  · rw [e]; exact hk
  · exact h i (by omega)

theorem conRow_neg {g : Sg} {k : Nat} {c : ConT} (hc : g.cons[k]? = some c) (h : c.data < 0) : conRow g k = false := by
  unfold conRow Sg.dat
  rw [hc]
  simp only
  rw [if_neg (by omega)]
theorem conRow_far {g : Sg} {k m : Nat} {c : ConT} (hc : g.cons[k]? = some c) (e : c.data = m) (h : ¬ m < g.datas.length) : conRow g k = false := by
  unfold conRow Sg.dat
  rw [hc]
  simp only
  rw [if_pos (by omega), List.getElem?_eq_none (by omega)]
theorem conRow_at {g : Sg} {k m : Nat} {c : ConT} {d : DataT} (hc : g.cons[k]? = some c) (e : c.data = m) (hd : g.datas[m]? = some d) : conRow g k = d.cons.contains (k : Int) := by
  unfold conRow Sg.dat
  rw [hc]
  simp only
  rw [if_pos (by omega), show c.data.toNat = m by omega, hd]
theorem datIn_neg {g : Sg} {n i : Nat} {d : DataT} {x : Int} (hx : d.cons[i]? = some x) (h : x < 0) : datIn g n d i = false := by
  unfold datIn Sg.con
  rw [hx]
  simp only
  rw [if_neg (by omega)]
  rfl
theorem datIn_far {g : Sg} {n i m : Nat} {d : DataT} {x : Int} (hx : d.cons[i]? = some x) (e : x = m) (h : ¬ m < g.cons.length) : datIn g n d i = false := by
  unfold datIn Sg.con
  rw [hx]
  simp only
  rw [if_pos (by omega), List.getElem?_eq_none (by omega)]
  rfl
theorem datIn_at {g : Sg} {n i m : Nat} {d : DataT} {x : Int} {c : ConT} (hx : d.cons[i]? = some x) (e : x = m) (hc : g.cons[m]? = some c) : datIn g n d i = ((c.data == (n : Int)) && !(d.cons.take i).contains x) := by
  unfold datIn Sg.con
  rw [hx]
  simp only
  rw [if_pos (by omega), show x.toNat = m by omega, hc]

/-! The document's: by counts. -/
theorem con_nat {g : Sg} {x : Int} {c : ConT} (h : g.con x = some c) : ∃ m : Nat, x = m ∧ g.cons[m]? = some c := by
  unfold Sg.con at h
  split at h
  · exact ⟨x.toNat, by omega, h⟩
  · cases h
theorem dat_nat {g : Sg} {x : Int} {d : DataT} (h : g.dat x = some d) : ∃ m : Nat, x = m ∧ g.datas[m]? = some d := by
  unfold Sg.dat at h
  split at h
  · exact ⟨x.toNat, by omega, h⟩
  · cases h
theorem dat_of {g : Sg} {m : Nat} {d : DataT} (h : g.datas[m]? = some d) : g.dat (m : Int) = some d := by
  unfold Sg.dat; rw [if_pos (by omega)]; exact h
theorem con_of {g : Sg} {m : Nat} {d : ConT} (h : g.cons[m]? = some d) : g.con (m : Int) = some d := by
  unfold Sg.con; rw [if_pos (by omega)]; exact h
end Go.Proofs.Ytjflembhgjcgkaa

/- C12: Kids, alone, pair: of the document; may: of the program. -/
namespace Go.Proofs.Ytjflembhgjcgkaa
open Go.RowKit

/-! Those at a field. -/
theorem kids_take {l : List Pat} {j : Nat} {p : Pat} (c : Int) (k : Nat) (hp : l[j]? = some p) : kidsL (l.take (j + 1)) c k = kidsL (l.take j) c k ++ (if p.kind = 5 ∧ p.n = c then (p.l[k]?).toList else []) := by
  rw [List.take_add_one, hp]
  unfold kidsL
  rw [List.filterMap_append]
  congr 1
  simp only [Option.toList_some, List.filterMap_cons, List.filterMap_nil]
  split
  · rename_i h
    split at h
    · rename_i h2; rw [if_pos h2, h]; rfl
    · rename_i h2; rw [if_neg h2]
  · rename_i q h
    split at h
    · rename_i h2; rw [if_pos h2, h]; rfl
    · cases h
theorem kidsL_length (l : List Pat) (c : Int) (k : Nat) : (kidsL l c k).length ≤ l.length := List.length_filterMap_le _ _

theorem kids_yes {l : List Pat} {j : Nat} {p r : Pat} {c : Int} {k : Nat} (hp : l[j]? = some p) (h5 : p.kind = 5) (hn : p.n = c) (hr : p.l[k]? = some r) : kidsL (l.take (j + 1)) c k = kidsL (l.take j) c k ++ [r] := by
  rw [kids_take c k hp, if_pos ⟨h5, hn⟩, hr]; rfl
theorem kids_no {l : List Pat} {j : Nat} {p : Pat} {c : Int} {k : Nat} (hp : l[j]? = some p) (h : ¬ (p.kind = 5 ∧ p.n = c ∧ k < p.l.length)) : kidsL (l.take (j + 1)) c k = kidsL (l.take j) c k := by
  rw [kids_take c k hp]
  split
  · rename_i h2
    rw [List.getElem?_eq_none (Nat.le_of_not_lt fun q => h ⟨h2.1, h2.2, q⟩)]; simp
  · simp
theorem patR_one (p : Pat) : patR [p] = [patD p] := rfl
set_option maxRecDepth 100000 in
set_option maxHeartbeats 4000000 in
theorem rkids_c (l : List Pat) (c : Int) (f : Nat) (hl : l.length ≤ 1000000000) (hs : ∀ p ∈ l, p.l.length ≤ 1000000000) (hf : f ≤ 1000000000) : RunsP Try.prog 72 [patsD l, .v (.int .i64 c), .v (.int .i64 (f : Int))] (fun v => v = patsD (kidsL l c f)) := by
  refine RunsP.ofOwn (rows := patR (kidsL l c f)) ?_
  have e1 := patR_len l
  refine enter 52 Try.func72 rfl (by kernel_rfl) rfl rfl rfl ?_
  repeat' (first | refine s_op rfl ?_ | (apply s_assign; (iterate 4 (exact rfl))) | refine al_nil ?_ | refine q_then_n ?_ | refine aw_block ?_ | refine aw_seq ?_ | refine aw_reg ?_)
  refine w_adoptF 7 41 8 rfl ?_
  intro loc σ hc
  refine w_loop [0, 1, 2, 7, 8] (fun n vs σ => ∃ k ver : Nat, vs = [.d (patsD l), .d (.v (.int .i64 c)), .d (.v (.int .i64 (f : Int))), .own loc ver 8 0 (patR (kidsL (l.take k) c f)).length, .d (.v (.int .i64 (k : Int)))] ∧ σ[loc]? = some (.arr 41 8 ver (patR (kidsL (l.take k) c f))) ∧ k ≤ l.length ∧ n = l.length - k) rfl ⟨0, 0, rfl, hc.at', by omega, rfl⟩ ?_
  clear hc
  rintro n vs σ ⟨k, ver, rfl, hA, hk, rfl⟩ fr hfr
  cases hfr
  have lk : (kidsL (l.take k) c f).length ≤ 1000000000 := Nat.le_trans (kidsL_length _ _ _) (by rw [List.length_take]; omega)
  have ek := patR_len (kidsL (l.take k) c f)
  by_cases hlt : k < l.length
  · obtain ⟨⟨qk, qn, qi, qs, qa, qb, qc, ql⟩, hq⟩ := getS hlt
    have hql : ql.length ≤ 1000000000 := hs _ (List.mem_of_getElem? hq)
    have e2 := patR_len ql
    by_cases h5 : qk = 5
    · by_cases hn : qn = c
      · by_cases hfl : f < ql.length
        · obtain ⟨r, hr⟩ := getS hfl
          have ht := kids_yes (c := c) hq h5 hn hr
          repeat' (first | refine s_op rfl ?_ | (apply s_move; (iterate 4 (exact rfl))) | (apply s_fa_f tab_ok; (iterate 6 (exact rfl))) | (apply s_ld_f tab_ok; (iterate 6 (exact rfl))) | (apply s_ld_w tab_ok; (iterate 5 (exact rfl)); (first | exact patD_len _ | exact valD_len _)) | (apply s_assign; (iterate 4 (exact rfl))) | (apply s_pick_t; (iterate 5 (exact rfl))) | (apply s_len tab_ok; (iterate 5 (exact rfl))) | (apply s_idx tab_ok; (iterate 7 (exact rfl)); (first | exact patR_get (by assumption) | exact valR_get (by assumption) | exact row_map (by assumption) | assumption)) | (apply s_lit1 tab_ok tabZ_ok; (iterate 9 (exact rfl)); (first | exact patD_len _ | exact valD_len _)) | (apply s_eql_t; (iterate 5 (exact rfl)); omega) | (apply s_lss_t; (iterate 5 (exact rfl)); omega) | (apply s_add64; (iterate 5 (exact rfl)); omega) | (apply s_appF tab_ok tabZ_ok (rows2 := [patD r]) (rows3 := patR (kidsL (l.take (k + 1)) c f)) (m := (patR (kidsL (l.take (k + 1)) c f)).length); (iterate 10 (exact rfl)); exact hA; exact src_of (Tab.slIs tab_ok (t := 26) rfl) (rows_d rfl); (rw [ht, patR_append, patR_one]); (rw [ht, patR_append, patR_one]; simp; omega); intro σ hc; replace hA := hc.at'; clear hc) | refine al_nil ?_ | refine q_then_n ?_ | refine q_blk_n ?_ | refine aw_block ?_ | refine aw_seq ?_ | refine aw_reg ?_ | refine aw_true rfl ?_ | refine aw_skip ?_)
          exact ⟨_, _, rfl, by omega, k + 1, _, rfl, hA, by omega, rfl⟩
        · have ht := kids_no (c := c) (k := f) hq (fun q => hfl q.2.2)
          repeat' (first | refine s_op rfl ?_ | (apply s_move; (iterate 4 (exact rfl))) | (apply s_fa_f tab_ok; (iterate 6 (exact rfl))) | (apply s_ld_f tab_ok; (iterate 6 (exact rfl))) | (apply s_assign; (iterate 4 (exact rfl))) | (apply s_pick_t; (iterate 5 (exact rfl))) | (apply s_len tab_ok; (iterate 5 (exact rfl))) | (apply s_idx tab_ok; (iterate 7 (exact rfl)); (first | exact patR_get (by assumption) | exact valR_get (by assumption) | exact row_map (by assumption) | assumption)) | (apply s_eql_t; (iterate 5 (exact rfl)); omega) | (apply s_lss_t; (iterate 5 (exact rfl)); omega) | (apply s_lss_f; (iterate 5 (exact rfl)); omega) | (apply s_add64; (iterate 5 (exact rfl)); omega) | refine al_nil ?_ | refine q_then_n ?_ | refine q_blk_n ?_ | refine aw_block ?_ | refine aw_seq ?_ | refine aw_reg ?_ | refine aw_true rfl ?_ | refine aw_false rfl ?_ | refine aw_skip ?_)
          exact ⟨_, _, rfl, by omega, k + 1, ver, by rw [ht]; rfl, by rw [ht]; exact hA, by omega, rfl⟩
      · have ht := kids_no (c := c) (k := f) hq (fun q => hn q.2.1)
        repeat' (first | refine s_op rfl ?_ | (apply s_skipV; (iterate 2 (exact rfl))) | (apply s_move; (iterate 4 (exact rfl))) | (apply s_fa_f tab_ok; (iterate 6 (exact rfl))) | (apply s_ld_f tab_ok; (iterate 6 (exact rfl))) | (apply s_assign; (iterate 4 (exact rfl))) | (apply s_pick_t; (iterate 5 (exact rfl))) | (apply s_pick_f; (iterate 5 (exact rfl))) | (apply s_len tab_ok; (iterate 5 (exact rfl))) | (apply s_idx tab_ok; (iterate 7 (exact rfl)); (first | exact patR_get (by assumption) | exact valR_get (by assumption) | exact row_map (by assumption) | assumption)) | (apply s_eql_t; (iterate 5 (exact rfl)); omega) | (apply s_eql_f; (iterate 5 (exact rfl)); omega) | (apply s_lss_t; (iterate 5 (exact rfl)); omega) | (apply s_add64; (iterate 5 (exact rfl)); omega) | refine al_nil ?_ | refine q_then_n ?_ | refine q_blk_n ?_ | refine aw_block ?_ | refine aw_seq ?_ | refine aw_reg ?_ | refine aw_true rfl ?_ | refine aw_false rfl ?_ | refine aw_skip ?_)
        exact ⟨_, _, rfl, by omega, k + 1, ver, by rw [ht]; rfl, by rw [ht]; exact hA, by omega, rfl⟩
    · have ht := kids_no (c := c) (k := f) hq (fun q => h5 q.1)
      repeat' (first | refine s_op rfl ?_ | (apply s_skipV; (iterate 2 (exact rfl))) | (apply s_move; (iterate 4 (exact rfl))) | (apply s_fa_f tab_ok; (iterate 6 (exact rfl))) | (apply s_ld_f tab_ok; (iterate 6 (exact rfl))) | (apply s_assign; (iterate 4 (exact rfl))) | (apply s_pick_f; (iterate 5 (exact rfl))) | (apply s_len tab_ok; (iterate 5 (exact rfl))) | (apply s_idx tab_ok; (iterate 7 (exact rfl)); (first | exact patR_get (by assumption) | exact valR_get (by assumption) | exact row_map (by assumption) | assumption)) | (apply s_eql_f; (iterate 5 (exact rfl)); omega) | (apply s_lss_t; (iterate 5 (exact rfl)); omega) | (apply s_add64; (iterate 5 (exact rfl)); omega) | refine al_nil ?_ | refine q_then_n ?_ | refine q_blk_n ?_ | refine aw_block ?_ | refine aw_seq ?_ | refine aw_reg ?_ | refine aw_true rfl ?_ | refine aw_false rfl ?_ | refine aw_skip ?_)
      exact ⟨_, _, rfl, by omega, k + 1, ver, by rw [ht]; rfl, by rw [ht]; exact hA, by omega, rfl⟩
  · rw [List.take_of_length_le (by omega)] at hA
    rw [List.take_of_length_le (by omega)]
    repeat' (first | refine s_op rfl ?_ | (apply s_move; (iterate 4 (exact rfl))) | (apply s_assign; (iterate 4 (exact rfl))) | (apply s_len tab_ok; (iterate 5 (exact rfl))) | (apply s_lss_f; (iterate 5 (exact rfl)); omega) | refine al_nil ?_ | refine q_then_n ?_ | refine q_blk_e ?_ | refine q_then_e ?_ | refine aw_exit ?_ | refine aw_seq ?_ | refine aw_reg ?_ | refine aw_false rfl ?_ | refine aw_ret ?_)
    exact q_ret rfl ⟨loc, ver, 41, rfl, hA⟩
end Go.Proofs.Ytjflembhgjcgkaa
