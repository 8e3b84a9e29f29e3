/- T26: the law's functions over the words told: nth, meant, newest. -/
import Derived.Test.YtciciaikajdenaaTPR12T25x4
set_option linter.unusedSimpArgs false
set_option linter.unusedVariables false
namespace Go.Proofs.Ytciciaikajdenaa
open Go.RowKit

section
variable {P : Program} {nt : Nat} {Q : Exit → Fr → List AObj → Prop} {fr : Fr} {σ : List AObj} {ops : Array Oper} {dr : Bool} {dos ends : List Nat} {l : Trr} {i d : Nat}
variable {ty : TypeId} {pos : String} {aft : Array Edge} {gd : Option (Nat × Bool)}
theorem s_maxV (r : Int) {t t2 : TypeId} {a b : Operand} {k k' : IntKind} {m n : Int} (hp : dr = dr) (hg : guardB ops fr gd = some true) (ht : Nat.blt d nt = true) (ha : aget fr a = .d (.v (.int k m))) (hb : aget fr b = .d (.v (.int k' n))) (hv : (if n > m then n else m) = r) (h : AL P nt ops dr dos ends l Q ((d, .d (.v (.int k r))) :: fr) σ) : ALo P nt ops dr dos ends i ⟨some d, .call { callee := .builtin .max, args := #[a, b], argTypes := #[t, t2] }, ty, pos, aft, gd⟩ l Q fr σ := by
  subst hv; exact s_max hp hg ht ha hb h
end
/-- The word that a number means. -/
def nthW (l : List AWord) (k : Int) : AWord := if l.length = 0 then .zero else (l[((k.tmod l.length + l.length).tmod l.length).toNat]?).getD .zero
theorem nthW_nil (k : Int) : nthW [] k = .zero := rfl
theorem nthW_get {l : List AWord} {k a : Int} {i : Nat} {w : AWord} (ha : k.tmod l.length = a) (hi : (a + l.length).tmod l.length = (i : Int)) (hw : l[i]? = some w) : nthW l k = w := by
  unfold nthW
  have : l.length ≠ 0 := by
    intro h
    have := (List.getElem?_eq_some_iff.1 hw).1
    omega
  rw [if_neg this, ha, hi, Int.toNat_natCast, hw]
  rfl
def meantW (l : List AWord) (x : ADo) : AWord := if x.raw then x.w else nthW l x.n
def newestN (l : List AWord) (n : Int) : Nat := (max 0 (min n (l.length : Int))).toNat
theorem newestN_le (l : List AWord) (n : Int) : newestN l n ≤ l.length := by unfold newestN; omega
section
variable {σ : List AObj} {locL vL m : Nat} {l : List AWord}
set_option maxRecDepth 100000 in
set_option maxHeartbeats 8000000 in
theorem nth102 (hL : σ[locL]? = some (.arr 36 4 vL (wordsR l))) (hm : l.length = m) (hl : m ≤ 1000000) (k : Int) : Runs Try.prog 102 [.own locL vL 4 0 m, .d (.v (.int .i64 k))] σ (fun r σ' => r = .d (.agg (wordD (nthW l k))) ∧ KeptP (fun _ => True) σ σ') := by
  have hK := KeptP.refl (fun _ => True) σ
  by_cases h0 : m = 0
  · have hn : l = [] := List.eq_nil_of_length_eq_zero (by omega)
    subst hn h0
    rw [nthW_nil]
    refine enterB 22 tab_ok Try.func102 rfl (by kernel_rfl) rfl rfl rfl ?_
    repeat' (first | refine s_op rfl ?_ | (apply s_move; (iterate 4 (exact rfl))) | (apply s_len tab_ok; (iterate 5 (exact rfl))) | (apply s_build tabZ_ok; (iterate 5 (exact rfl))) | (apply s_eql_t; (iterate 5 (exact rfl)); omega) | (apply s_allocF tabZ_ok (d := 4); (iterate 6 (exact rfl)); intro locX σ hc; have hX := hc.at'; have nLX := hc.ne hL; replace hL := hc.keep hL; have oX := hK.out hc; replace hK := hK.fresh hc; clear hc) | (apply s_storeF tab_ok; (iterate 7 (exact rfl)); exact hX; (iterate 2 (exact rfl)); intro σ hc; replace hX := hc.at'; replace hL := hc.keep (by first | assumption | (apply Ne.symm; assumption) | omega) hL; replace hK := hK.chg oX hc; clear hc) | refine al_nil ?_ | refine q_then_n ?_ | refine q_then_r ?_ | refine aw_seq ?_ | refine aw_reg ?_ | refine aw_true rfl ?_ | refine aw_ret ?_)
    all_goals exact q_retB (resB_1 rfl (resV_c (t := 36) rfl rfl hX rfl)) ⟨rfl, hK⟩
  · obtain ⟨i, a, ha, ha1, ha2, hi, hil⟩ := idx_ok k (show 0 < m by omega)
    obtain ⟨w, hw⟩ := getS (show i < l.length by omega)
    rw [nthW_get (a := a) (i := i) (by rw [hm]; exact ha) (by rw [hm]; exact hi) hw]
    have hr := wordsR_get hw
    obtain ⟨wk, wn, ws, wg⟩ := w
    replace hr : (wordsR l)[i]? = some [DV.v (.int .u8 wk), DV.v (.int .i64 wn), DV.v (.string ws), DV.v (.int .i64 wg)] := hr
    refine enterB 22 tab_ok Try.func102 rfl (by kernel_rfl) rfl rfl rfl ?_
    repeat' (first | refine s_op rfl ?_ | (apply s_move; (iterate 4 (exact rfl))) | (apply s_len tab_ok; (iterate 5 (exact rfl))) | (apply s_eql_f; (iterate 5 (exact rfl)); omega) | (apply s_add64; (iterate 5 (exact rfl)); omega) | (apply s_allocF tabZ_ok (d := 4); (iterate 6 (exact rfl)); intro locX σ hc; have hX := hc.at'; have nLX := hc.ne hL; replace hL := hc.keep hL; have oX := hK.out hc; replace hK := hK.fresh hc; clear hc) | (apply s_remV a; (iterate 5 (exact rfl)); exact ⟨by omega, ha⟩) | (apply s_remV (i : Int); (iterate 5 (exact rfl)); exact ⟨by omega, hi⟩) | (apply s_idxO (i * 4) tab_ok; (iterate 7 (exact rfl)); exact hL; exact ⟨by omega, by omega⟩) | (apply s_ldA i 0 tab_ok; (iterate 5 (exact rfl)); exact hL; exact hr; omega; exact rfl) | (apply s_storeF tab_ok; (iterate 7 (exact rfl)); exact hX; (iterate 2 (exact rfl)); intro σ hc; replace hX := hc.at'; replace hL := hc.keep (by first | assumption | (apply Ne.symm; assumption) | omega) hL; replace hK := hK.chg oX hc; clear hc) | refine al_nil ?_ | refine q_then_n ?_ | refine aw_seq ?_ | refine aw_reg ?_ | refine aw_false rfl ?_ | refine aw_skip ?_ | refine aw_ret ?_)
    all_goals exact q_retB (resB_1 rfl (resV_c (t := 36) rfl rfl hX rfl)) ⟨rfl, hK⟩
set_option maxRecDepth 100000 in
set_option maxHeartbeats 8000000 in
theorem meant59 (hL : σ[locL]? = some (.arr 36 4 vL (wordsR l))) (hm : l.length = m) (hl : m ≤ 1000000) (x : ADo) : Runs Try.prog 59 [.own locL vL 4 0 m, .d (.agg (doD x))] σ (fun r σ' => r = .d (.agg (wordD (meantW l x))) ∧ KeptP (fun _ => True) σ σ') := by
  have hK := KeptP.refl (fun _ => True) σ
  obtain ⟨xk, xn, ⟨ck, cn, cw⟩, ⟨vk, vn, vs, vl⟩, ⟨wk, wn, ws, wg⟩, raw⟩ := x
  cases raw with
  | true =>
    show Runs Try.prog 59 [.own locL vL 4 0 m, .d (.agg [.v (.int .i64 xk), .v (.int .i64 xn), .v (.int .u8 ck), .v (.int .i64 cn), .lst 4 (wordsR cw), .v (.int .u8 vk), .v (.int .i64 vn), .v (.string vs), .lst 4 (valR vl), .v (.int .u8 wk), .v (.int .i64 wn), .v (.string ws), .v (.int .i64 wg), .v (.bool true)])] σ (fun r σ' => r = .d (.agg [DV.v (.int .u8 wk), DV.v (.int .i64 wn), DV.v (.string ws), DV.v (.int .i64 wg)]) ∧ KeptP (fun _ => True) σ σ')
    refine enterB 13 tab_ok Try.func59 rfl (by kernel_rfl) rfl rfl rfl ?_
    repeat' (first | refine s_op rfl ?_ | (apply s_fa_f tab_ok; (iterate 6 (exact rfl))) | (apply s_ld_f tab_ok; (iterate 6 (exact rfl))) | (apply s_boxZ; (iterate 5 (exact rfl)); first | exact rfl | exact allD_mapd _) | (apply s_allocF tabZ_ok (d := 4); (iterate 6 (exact rfl)); intro locX σ hc; have hX := hc.at'; have nLX := hc.ne hL; replace hL := hc.keep hL; have oX := hK.out hc; replace hK := hK.fresh hc; clear hc) | (apply s_storeF tab_ok; (iterate 7 (exact rfl)); exact hX; (iterate 2 (exact rfl)); intro σ hc; replace hX := hc.at'; replace hL := hc.keep (by first | assumption | (apply Ne.symm; assumption) | omega) hL; replace hK := hK.chg oX hc; clear hc) | refine al_nil ?_ | refine q_then_n ?_ | refine q_then_r ?_ | refine aw_seq ?_ | refine aw_reg ?_ | refine aw_true rfl ?_ | refine aw_ret ?_)
    all_goals exact q_retB (resB_1 rfl (resV_c (t := 36) rfl rfl hX rfl)) ⟨rfl, hK⟩
  | false =>
    have hn := fun σ (hL : σ[locL]? = some (AObj.arr 36 4 vL (wordsR l))) => nth102 hL hm hl xn
    have e : meantW l ⟨xk, xn, ⟨ck, cn, cw⟩, .mk vk vn vs vl, ⟨wk, wn, ws, wg⟩, false⟩ = nthW l xn := rfl
    rw [e]
    generalize nthW l xn = y at hn ⊢
    obtain ⟨yk, yn, ys, yg⟩ := y
    show Runs Try.prog 59 [.own locL vL 4 0 m, .d (.agg [.v (.int .i64 xk), .v (.int .i64 xn), .v (.int .u8 ck), .v (.int .i64 cn), .lst 4 (wordsR cw), .v (.int .u8 vk), .v (.int .i64 vn), .v (.string vs), .lst 4 (valR vl), .v (.int .u8 wk), .v (.int .i64 wn), .v (.string ws), .v (.int .i64 wg), .v (.bool false)])] σ _
    refine enterB 13 tab_ok Try.func59 rfl (by kernel_rfl) rfl rfl rfl ?_
    repeat' (first | refine s_op rfl ?_ | (apply s_move; (iterate 4 (exact rfl))) | (apply s_fa_f tab_ok; (iterate 6 (exact rfl))) | (apply s_ld_f tab_ok; (iterate 6 (exact rfl))) | (apply s_boxZ; (iterate 5 (exact rfl)); first | exact rfl | exact allD_mapd _) | (apply s_allocF tabZ_ok (d := 4); (iterate 6 (exact rfl)); intro locX σ hc; have hX := hc.at'; have nLX := hc.ne hL; replace hL := hc.keep hL; have oX := hK.out hc; replace hK := hK.fresh hc; clear hc) | (apply s_callS; (iterate 6 (exact rfl)); exact hn _ hL; rintro _ σ2 ⟨rfl, hk2⟩; replace hX := hk2 _ _ trivial hX; replace hK := hK.trans hk2; clear hk2 hL) | (apply s_storeF tab_ok; (iterate 7 (exact rfl)); exact hX; (iterate 2 (exact rfl)); intro σ hc; replace hX := hc.at'; replace hK := hK.chg oX hc; clear hc) | refine al_nil ?_ | refine q_then_n ?_ | refine aw_seq ?_ | refine aw_reg ?_ | refine aw_false rfl ?_ | refine aw_skip ?_ | refine aw_ret ?_)
    all_goals exact q_retB (resB_1 rfl (resV_c (t := 36) rfl rfl hX rfl)) ⟨rfl, hK⟩
set_option maxRecDepth 100000 in
set_option maxHeartbeats 8000000 in
theorem newest66_0 (hL : σ[locL]? = some (.arr 36 4 vL (wordsR l))) (hm : l.length = m) (hl : m ≤ 1000000) {n : Int} (hn : newestN l n = 0) : Runs Try.prog 66 [.own locL vL 4 0 m, .d (.v (.int .i64 n))] σ (fun r σ' => r = .d (.lst 4 []) ∧ σ' = σ) := by
  have e1 := wordsR_len l
  unfold newestN at hn
  obtain ⟨p, hp⟩ : ∃ p : Int, (if (m : Int) < n then (m : Int) else n) = p := ⟨_, rfl⟩
  have hp2 : (if p > 0 then p else 0) = (0 : Int) := by split at hp <;> split <;> omega
  refine enterB 16 tab_ok Try.func66 rfl (by kernel_rfl) rfl rfl rfl ?_
  repeat' (first | refine s_op rfl ?_ | (apply s_move; (iterate 4 (exact rfl))) | (apply s_assign; (iterate 4 (exact rfl))) | (apply s_len tab_ok; (iterate 5 (exact rfl))) | (apply s_sub64; (iterate 5 (exact rfl)); omega) | (apply s_minV p; (iterate 5 (exact rfl)); exact hp) | (apply s_maxV 0; (iterate 5 (exact rfl)); exact hp2) | (apply s_sliceZ tab_ok; (iterate 7 (exact rfl)); exact hL; exact rfl) | refine al_nil ?_ | refine q_then_n ?_ | refine aw_seq ?_ | refine aw_reg ?_ | refine aw_ret ?_)
  all_goals exact q_retB (resB_1 rfl (resV_t rfl)) ⟨rfl, rfl⟩
set_option maxRecDepth 100000 in
set_option maxHeartbeats 8000000 in
theorem newest66_1 (hL : σ[locL]? = some (.arr 36 4 vL (wordsR l))) (hm : l.length = m) (hl : m ≤ 1000000) {n : Int} (hn : newestN l n ≠ 0) : Runs Try.prog 66 [.own locL vL 4 0 m, .d (.v (.int .i64 n))] σ (fun r σ' => r = .own locL vL 4 (m - newestN l n) (newestN l n) ∧ σ' = σ) := by
  have e1 := wordsR_len l
  have hle := newestN_le l n
  obtain ⟨p, hp⟩ : ∃ p : Int, (if (m : Int) < n then (m : Int) else n) = p := ⟨_, rfl⟩
  have hp2 : (if p > 0 then p else 0) = (newestN l n : Int) := by unfold newestN; split at hp <;> split <;> omega
  generalize newestN l n = k at *
  refine enterB 16 tab_ok Try.func66 rfl (by kernel_rfl) rfl rfl rfl ?_
  repeat' (first | refine s_op rfl ?_ | (apply s_move; (iterate 4 (exact rfl))) | (apply s_assign; (iterate 4 (exact rfl))) | (apply s_len tab_ok; (iterate 5 (exact rfl))) | (apply s_sub64; (iterate 5 (exact rfl)); omega) | (apply s_minV p; (iterate 5 (exact rfl)); exact hp) | (apply s_maxV (k : Int); (iterate 5 (exact rfl)); exact hp2) | (apply s_sliceOV (m - k) k tab_ok; (iterate 8 (exact rfl)); exact hL; (refine ⟨?_, ?_, ?_, ?_⟩ <;> (simp only [Option.getD] <;> omega)); (refine ⟨?_, ?_⟩ <;> (simp only [Option.getD] <;> omega))) | refine al_nil ?_ | refine q_then_n ?_ | refine aw_seq ?_ | refine aw_reg ?_ | refine aw_ret ?_)
  all_goals exact q_retB (resB_1 rfl (resV_t rfl)) ⟨rfl, rfl⟩
end
end Go.Proofs.Ytciciaikajdenaa
/- T27: the law's filled. -/
set_option linter.unusedSimpArgs false
set_option linter.unusedVariables false
namespace Go.Proofs.Ytciciaikajdenaa
open Go.RowKit

def fillW (l : List AWord) (w : AWord) : AWord := if w.k = 100 then nthW l (w.n.tmod 1000) else w
def filledC (l : List AWord) (c : ACell) : ACell := ⟨c.k, c.n, c.ws.map (fillW l)⟩
/-- Filled as far as j. -/
def mixed (g : AWord → AWord) (ws : List AWord) (j : Nat) : List AWord := (ws.take j).map g ++ ws.drop j
section
variable {g : AWord → AWord} {ws : List AWord} {j : Nat} {w : AWord}
theorem mixed_0 : mixed g ws 0 = ws := by simp [mixed]
theorem mixed_all (h : ws.length ≤ j) : mixed g ws j = ws.map g := by simp [mixed, List.take_of_length_le h, List.drop_eq_nil_of_le h]
theorem split_at (h : ws[j]? = some w) : ∃ a b, ws = a ++ w :: b ∧ a.length = j := by
  obtain ⟨hj, e⟩ := List.getElem?_eq_some_iff.1 h
  refine ⟨ws.take j, ws.drop (j + 1), ?_, by simp; omega⟩
  rw [← e, ← List.drop_eq_getElem_cons hj, List.take_append_drop]
theorem mixed_get (h : ws[j]? = some w) : (mixed g ws j)[j]? = some w := by
  obtain ⟨a, b, rfl, rfl⟩ := split_at h
  simp [mixed]
theorem mixed_set (h : ws[j]? = some w) : (mixed g ws j).set j (g w) = mixed g ws (j + 1) := by
  obtain ⟨a, b, rfl, rfl⟩ := split_at h
  have h1 : List.take (a.length + 1) (List.map g a) = List.map g a := List.take_of_length_le (by simp)
  have h2 : List.drop (a.length + 1) a = [] := List.drop_eq_nil_of_le (by omega)
  simp [mixed, List.take_append, List.drop_append, h1, h2]
theorem mixed_same (h : ws[j]? = some w) (hg : g w = w) : mixed g ws (j + 1) = mixed g ws j := by
  obtain ⟨a, b, rfl, rfl⟩ := split_at h
  have h1 : List.take (a.length + 1) (List.map g a) = List.map g a := List.take_of_length_le (by simp)
  have h2 : List.drop (a.length + 1) a = [] := List.drop_eq_nil_of_le (by omega)
  simp [mixed, List.take_append, List.drop_append, hg, h1, h2]
end
section
variable {σ0 : List AObj} {locL vL m : Nat} {l : List AWord}
set_option maxRecDepth 100000 in
set_option maxHeartbeats 8000000 in
theorem filled60 (hL : σ0[locL]? = some (.arr 36 4 vL (wordsR l))) (hm : l.length = m) (hl : m ≤ 1000000) (c : ACell) (hc : c.ws.length ≤ 4000) : Runs Try.prog 60 [.own locL vL 4 0 m, .d (.agg (cellD c))] σ0 (fun r σ' => r = .d (.agg (cellD (filledC l c))) ∧ KeptP (fun _ => True) σ0 σ') := by
  have hK := KeptP.refl (fun _ => True) σ0
  obtain ⟨ck, cn, cw⟩ := c
  obtain ⟨k, hk⟩ : ∃ k, cw.length = k := ⟨_, rfl⟩
  replace hc : k ≤ 4000 := by rw [← hk]; exact hc
  have e1 := wordsR_len cw
  show Runs Try.prog 60 [.own locL vL 4 0 m, .d (.agg [DV.v (.int .u8 ck), DV.v (.int .i64 cn), DV.lst 4 (wordsR cw)])] σ0 (fun r σ' => r = .d (.agg [DV.v (.int .u8 ck), DV.v (.int .i64 cn), DV.lst 4 (wordsR (cw.map (fillW l)))]) ∧ KeptP (fun _ => True) σ0 σ')
  refine enterB 34 tab_ok Try.func60 rfl (by kernel_rfl) rfl rfl rfl ?_
  repeat' (first | refine s_op rfl ?_ | (apply s_move; (iterate 4 (exact rfl))) | (apply s_fa_p tab_ok; (iterate 5 (exact rfl))) | (apply s_len tab_ok; (iterate 5 (exact rfl))) | (apply s_boxF; (iterate 6 (exact rfl)); intro locC σ hc; have hC := hc.at'; have nLC := hc.ne hL; replace hL := hc.keep hL; have oC := hK.out hc; replace hK := hK.fresh hc; clear hc) | (apply s_allocF tabZ_ok (d := 4); (iterate 6 (exact rfl)); intro locX σ hc; have hX := hc.at'; have nCX := hc.ne hC; replace hC := hc.keep hC; have nLX := hc.ne hL; replace hL := hc.keep hL; have oX := hK.out hc; replace hK := hK.fresh hc; clear hc) | (apply s_lit0 tab_ok tabZ_ok; (iterate 7 (exact rfl))) | (refine o_adoptF 7 36 4 rfl ?_; intro locA σ hc; have hA := hc.at'; have nCA := hc.ne hC; replace hC := hc.keep hC; have nXA := hc.ne hX; replace hX := hc.keep hX; have nLA := hc.ne hL; replace hL := hc.keep hL; have oA := hK.out hc; replace hK := hK.fresh hc; clear hc) | (apply s_ldF tab_ok; (iterate 5 (exact rfl)); exact hC; exact rfl) | (apply s_appF tab_ok tabZ_ok (d := 10) (rows2 := wordsR cw) (rows3 := wordsR cw) (m := k); (iterate 10 (exact rfl)); exact hA; exact src_of (Tab.slIs tab_ok (t := 32) rfl) (rows_d rfl); exact List.nil_append _; exact ⟨rfl, by omega, by omega⟩; intro σ hc; replace hA := hc.at'; replace hC := hc.keep (by first | assumption | (apply Ne.symm; assumption) | omega) hC; replace hX := hc.keep (by first | assumption | (apply Ne.symm; assumption) | omega) hX; replace hL := hc.keep (by first | assumption | (apply Ne.symm; assumption) | omega) hL; replace hK := hK.chg oA hc; clear hc) | (apply s_storeF tab_ok; (iterate 7 (exact rfl)); exact hC; (iterate 2 (exact rfl)); intro σ hc; replace hC := hc.at'; replace hA := hc.keep (by first | assumption | (apply Ne.symm; assumption) | omega) hA; replace hX := hc.keep (by first | assumption | (apply Ne.symm; assumption) | omega) hX; replace hL := hc.keep (by first | assumption | (apply Ne.symm; assumption) | omega) hL; replace hK := hK.chg oC hc; clear hc) | refine al_nil ?_ | refine q_then_n ?_ | refine aw_block ?_ | refine aw_seq ?_ | refine aw_reg ?_)
  refine w_loop [0, 3, 4, 13, 14, 15] (fun n' vs' σ' => ∃ j : Nat, vs' = [.own locL vL 4 0 m, .ptr locC 0 0, .ptr locX 0 0, .own locA 1 4 0 k, .d (.v (.int .i64 (k : Int))), .d (.v (.int .i64 (j : Int)))] ∧ σ'[locL]? = some (.arr 36 4 vL (wordsR l)) ∧ σ'[locC]? = some (.row 34 [.d (.v (.int .u8 ck)), .d (.v (.int .i64 cn)), .own locA 1 4 0 k]) ∧ σ'[locA]? = some (.arr 36 4 1 (wordsR (mixed (fillW l) cw j))) ∧ (∃ c, σ'[locX]? = some (.row 34 c) ∧ c.length = 3) ∧ KeptP (fun _ => True) σ0 σ' ∧ j ≤ k ∧ n' = k - j) rfl ⟨0, rfl, hL, hC, by (rw [mixed_0]; exact hA), ⟨_, hX, rfl⟩, hK, by omega, rfl⟩ ?_
  clear hL hC hA hX hK
  rintro n' vs' σ ⟨j, rfl, hL, hC, hA, ⟨c, hX, hc3⟩, hK, hj, rfl⟩ fr hfr
  cases hfr
  by_cases hlt : j < k
  · obtain ⟨w, hw⟩ := getS (show j < cw.length by omega)
    have hr := wordsR_get (mixed_get (g := fillW l) hw)
    have hset := mixed_set (g := fillW l) hw
    have hsame := mixed_same (g := fillW l) hw
    have hn := fun σ (hL : σ[locL]? = some (AObj.arr 36 4 vL (wordsR l))) => nth102 hL hm hl (w.n.tmod 1000)
    by_cases h100 : w.k = 100
    · have e : fillW l w = nthW l (w.n.tmod 1000) := by unfold fillW; rw [if_pos h100]
      rw [e] at hset
      have hset2 : (wordsR (mixed (fillW l) cw j)).set j (wordD (nthW l (w.n.tmod 1000))) = wordsR (mixed (fillW l) cw (j + 1)) := by rw [← hset]; simp [wordsR, List.map_set]
      generalize nthW l (w.n.tmod 1000) = y at hn hset2
      generalize hm2 : mixed (fillW l) cw (j + 1) = mx2 at hset2
      generalize mixed (fillW l) cw j = mx at *
      obtain ⟨yk, yn, ys, yg⟩ := y
      obtain ⟨wk, wn, ws, wg⟩ := w
      replace hset2 : (wordsR mx).set j (spliceL [DV.v (.int .u8 wk), DV.v (.int .i64 wn), DV.v (.string ws), DV.v (.int .i64 wg)] 0 [DV.v (.int .u8 yk), DV.v (.int .i64 yn), DV.v (.string ys), DV.v (.int .i64 yg)]) = wordsR mx2 := hset2
      replace hr : (wordsR mx)[j]? = some [DV.v (.int .u8 wk), DV.v (.int .i64 wn), DV.v (.string ws), DV.v (.int .i64 wg)] := hr
      replace h100 : wk = 100 := h100
      clear hset e hsame hw
      repeat' (first | refine s_op rfl ?_ | (apply s_move; (iterate 4 (exact rfl))) | (apply s_fa_p tab_ok; (iterate 5 (exact rfl))) | (apply s_assign; (iterate 4 (exact rfl))) | (apply s_eql_t; (iterate 5 (exact rfl)); omega) | (apply s_lss_t; (iterate 5 (exact rfl)); omega) | (apply s_add64; (iterate 5 (exact rfl)); omega) | (apply s_idxO (j * 4) tab_ok; (iterate 7 (exact rfl)); exact hA; exact ⟨by omega, by omega⟩) | (apply s_ldA j 0 tab_ok; (iterate 5 (exact rfl)); exact hA; exact hr; omega; exact rfl) | (apply s_allocF tabZ_ok (d := 6); (iterate 6 (exact rfl)); intro locY σ hc; have hY := hc.at'; have nLY := hc.ne hL; replace hL := hc.keep hL; have nCY := hc.ne hC; replace hC := hc.keep hC; have nAY := hc.ne hA; replace hA := hc.keep hA; have nXY := hc.ne hX; replace hX := hc.keep hX; have oY := hK.out hc; replace hK := hK.fresh hc; clear hc) | (apply s_storeF tab_ok; (iterate 7 (exact rfl)); exact hY; (iterate 2 (exact rfl)); intro σ hc; replace hY := hc.at'; replace hL := hc.keep (by first | assumption | (apply Ne.symm; assumption) | omega) hL; replace hC := hc.keep (by first | assumption | (apply Ne.symm; assumption) | omega) hC; replace hA := hc.keep (by first | assumption | (apply Ne.symm; assumption) | omega) hA; replace hX := hc.keep (by first | assumption | (apply Ne.symm; assumption) | omega) hX; replace hK := hK.chg oY hc; clear hc) | (apply s_ldF tab_ok; (iterate 5 (exact rfl)); exact hY; exact rfl) | (apply s_ldF tab_ok; (iterate 5 (exact rfl)); exact hC; exact rfl) | (apply s_remV (wn.tmod 1000); (iterate 5 (exact rfl)); exact ⟨by decide, rfl⟩) | (apply s_callS; (iterate 6 (exact rfl)); exact hn _ hL; rintro _ σ2 ⟨rfl, hk2⟩; replace hL := hk2 _ _ trivial hL; replace hC := hk2 _ _ trivial hC; replace hA := hk2 _ _ trivial hA; replace hX := hk2 _ _ trivial hX; replace hK := hK.trans hk2; clear hk2 hY hn) | (apply s_stA j 0 tab_ok; (iterate 8 (exact rfl)); exact hA; exact hr; omega; omega; exact hset2; intro σ hc; replace hA := hc.at'; replace hL := hc.keep nLA hL; replace hC := hc.keep nCA hC; replace hX := hc.keep nXA hX; replace hK := hK.chg oA hc; clear hc hr) | refine al_nil ?_ | refine q_then_n ?_ | refine q_blk_n ?_ | refine aw_block ?_ | refine aw_seq ?_ | refine aw_reg ?_ | refine aw_true rfl ?_ | refine aw_skip ?_ | refine al_fork ?_ ?_ | refine aw_draws (id := 6) (trO [0, 2, 3, 4, 5, 6] (.fork 1 (trO [7, 8, 9] .nil) 7 (trO [1, 8, 9] .nil))) [1, 7, 9] [7, 9] mixed_ok (by kernel_rfl) ?_)
      all_goals exact ⟨_, _, rfl, by omega, j + 1, rfl, hL, hC, by (rw [hm2]; exact hA), ⟨_, hX, hc3⟩, hK, by omega, rfl⟩
    · have e : fillW l w = w := by unfold fillW; rw [if_neg h100]
      rw [← hsame e] at hA hr
      generalize hm2 : mixed (fillW l) cw (j + 1) = mx at hA hr
      obtain ⟨wk, wn, ws, wg⟩ := w
      replace hr : (wordsR mx)[j]? = some [DV.v (.int .u8 wk), DV.v (.int .i64 wn), DV.v (.string ws), DV.v (.int .i64 wg)] := hr
      replace h100 : wk ≠ 100 := h100
      clear hset e hsame hw hn
      repeat' (first | refine s_op rfl ?_ | (apply s_move; (iterate 4 (exact rfl))) | (apply s_fa_p tab_ok; (iterate 5 (exact rfl))) | (apply s_assign; (iterate 4 (exact rfl))) | (apply s_eql_f; (iterate 5 (exact rfl)); omega) | (apply s_lss_t; (iterate 5 (exact rfl)); omega) | (apply s_add64; (iterate 5 (exact rfl)); omega) | (apply s_idxO (j * 4) tab_ok; (iterate 7 (exact rfl)); exact hA; exact ⟨by omega, by omega⟩) | (apply s_ldA j 0 tab_ok; (iterate 5 (exact rfl)); exact hA; exact hr; omega; exact rfl) | (apply s_allocF tabZ_ok (d := 6); (iterate 6 (exact rfl)); intro locY σ hc; have hY := hc.at'; have nLY := hc.ne hL; replace hL := hc.keep hL; have nCY := hc.ne hC; replace hC := hc.keep hC; have nAY := hc.ne hA; replace hA := hc.keep hA; have nXY := hc.ne hX; replace hX := hc.keep hX; have oY := hK.out hc; replace hK := hK.fresh hc; clear hc) | (apply s_storeF tab_ok; (iterate 7 (exact rfl)); exact hY; (iterate 2 (exact rfl)); intro σ hc; replace hY := hc.at'; replace hL := hc.keep (by first | assumption | (apply Ne.symm; assumption) | omega) hL; replace hC := hc.keep (by first | assumption | (apply Ne.symm; assumption) | omega) hC; replace hA := hc.keep (by first | assumption | (apply Ne.symm; assumption) | omega) hA; replace hX := hc.keep (by first | assumption | (apply Ne.symm; assumption) | omega) hX; replace hK := hK.chg oY hc; clear hc) | (apply s_ldF tab_ok; (iterate 5 (exact rfl)); exact hY; exact rfl) | refine al_nil ?_ | refine q_then_n ?_ | refine q_blk_n ?_ | refine aw_block ?_ | refine aw_seq ?_ | refine aw_reg ?_ | refine aw_true rfl ?_ | refine aw_false rfl ?_ | refine aw_skip ?_)
      all_goals exact ⟨_, _, rfl, by omega, j + 1, rfl, hL, hC, by (rw [hm2]; exact hA), ⟨_, hX, hc3⟩, hK, by omega, rfl⟩
  · have hwl := wordsR_len (cw.map (fillW l))
    rw [mixed_all (by omega)] at hA
    have hlen : k = (wordsR (cw.map (fillW l))).length := by rw [hwl, List.length_map]; omega
    obtain ⟨c0, c1, c2, rfl⟩ : ∃ a b d, c = [a, b, d] := by
      match c, hc3 with
      | [a, b, d], _ => exact ⟨a, b, d, rfl⟩
    repeat' (first | refine s_op rfl ?_ | (apply s_lss_f; (iterate 5 (exact rfl)); omega) | (refine w_freezeC locC 2 hC rfl hA hlen ?_; intro σ hc; replace hK := hK.frz oC oA hc; replace hC := hc.row; replace hX := hc.keep' _ _ hX nCX.symm nXA; clear hc hA) | (apply s_ldF tab_ok; (iterate 5 (exact rfl)); exact hC; exact rfl) | (apply s_storeF tab_ok; (iterate 7 (exact rfl)); exact hX; (iterate 2 (exact rfl)); intro σ hc; replace hX := hc.at'; replace hK := hK.chg oX hc; clear hc) | refine al_nil ?_ | refine q_then_n ?_ | refine q_blk_e ?_ | refine q_then_e ?_ | refine aw_exit ?_ | refine aw_seq ?_ | refine aw_reg ?_ | refine aw_false rfl ?_ | refine aw_ret ?_)
    all_goals exact q_retB (resB_1 rfl (resV_c (t := 34) rfl rfl hX rfl)) ⟨rfl, hK⟩
end
end Go.Proofs.Ytciciaikajdenaa
