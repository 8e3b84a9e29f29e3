/- T18: the world of one file: Handles, Trace, goes, IndexFunc, note. -/
import Derived.Test.YtciciaikajdenaaTPR12T16x2
set_option linter.unusedSimpArgs false
set_option linter.unusedVariables false
namespace Go.Proofs.Ytciciaikajdenaa
open Go.RowKit

def cntF (l : List Bool) : Nat := (l.filter fun b => !b).length
section
variable {σ σ0 : List AObj} {q : WQ} {hs : List Bool} {vh vt : Nat}
theorem cntF_take {l : List Bool} {k : Nat} {b : Bool} (h : l[k]? = some b) : cntF (l.take (k + 1)) = cntF (l.take k) + (if b then 0 else 1) := by
  unfold cntF
  rw [List.take_add_one, h, List.filter_append, List.length_append]
  cases b <;> simp
set_option maxRecDepth 100000 in
set_option maxHeartbeats 8000000 in
theorem handles113 (h : PW σ0 q hs) (hl : hs.length ≤ 1000000) : Runs Try.prog 113 [.ptr q.p 0 0] σ0 (fun r σ' => ∃ rows, rows.length = cntF hs ∧ r = .d (.lst 1 rows) ∧ KeptP (fun _ => True) σ0 σ') := by
  have hK := KeptP.refl (fun _ => True) σ0
  have e1 := hRows_len hs
  obtain ⟨vh, vt, hP, hH, hT⟩ := h.at'
  refine enterB 27 tab_ok Try.func113 rfl (by kernel_rfl) rfl rfl rfl ?_
  repeat' (first | refine s_op rfl ?_ | (apply s_move; (iterate 4 (exact rfl))) | (apply s_fa_p tab_ok; (iterate 5 (exact rfl))) | (apply s_assign; (iterate 4 (exact rfl))) | (apply s_len tab_ok; (iterate 5 (exact rfl))) | (apply s_nilc; (iterate 5 (exact rfl))) | (apply s_ldF tab_ok; (iterate 5 (exact rfl)); exact hP; exact rfl) | (apply s_ptrNil ptr68; (iterate 4 (exact rfl))) | (refine w_adoptF 3 3 1 rfl ?_; intro locL σ hc; have hL := hc.at'; have nPL := hc.ne hP; have nHL := hc.ne hH; replace hP := hc.keep hP; replace hH := hc.keep hH; have oL := hK.out hc; replace hK := hK.fresh hc; clear hc) | refine al_nil ?_ | refine q_then_n ?_ | refine aw_block ?_ | refine aw_seq ?_ | refine aw_reg ?_ | refine aw_false rfl ?_ | refine aw_skip ?_)
  refine w_loop [0, 3, 11, 12, 13] (fun n' vs' σ' => ∃ (j ver m : Nat) (rows : List (List DV)), vs' = [.ptr q.p 0 0, .own locL ver 1 0 m, .own q.h vh 3 0 hs.length, .d (.v (.int .i64 (hs.length : Int))), .d (.v (.int .i64 (j : Int)))] ∧ m = rows.length ∧ rows.length = cntF (hs.take j) ∧ rows.length ≤ j ∧ σ'[q.h]? = some (.arr 171 3 vh (hRows hs)) ∧ σ'[locL]? = some (.arr 3 1 ver rows) ∧ KeptP (fun _ => True) σ0 σ' ∧ j ≤ hs.length ∧ n' = hs.length - j) rfl ⟨0, 0, 0, [], rfl, rfl, rfl, by simp, hH, hL, hK, by omega, rfl⟩ ?_
  clear hP hH hL hK h
  rintro n' vs' σ ⟨j, ver, m, rows, rfl, hm, hc1, hc2, hH, hL, hK, hj, rfl⟩ fr hfr
  cases hfr
  by_cases hlt : j < hs.length
  · obtain ⟨b, hb⟩ := getS hlt
    have hr := hRows_get hb
    have hct := cntF_take hb
    cases b with
    | true =>
      simp only [if_true, Nat.add_zero] at hct
      repeat' (first | refine s_op rfl ?_ | (apply s_move; (iterate 4 (exact rfl))) | (apply s_fa_p tab_ok; (iterate 5 (exact rfl))) | (apply s_assign; (iterate 4 (exact rfl))) | (apply s_not_t; (iterate 4 (exact rfl))) | (apply s_lss_t; (iterate 5 (exact rfl)); omega) | (apply s_add64; (iterate 5 (exact rfl)); omega) | (apply s_allocF tabZ_ok (d := 5); (iterate 6 (exact rfl)); intro locX σ hc; have hX := hc.at'; have nHX := hc.ne hH; have nLX := hc.ne hL; replace hH := hc.keep hH; replace hL := hc.keep hL; have oX := hK.out hc; replace hK := hK.fresh hc; clear hc) | (apply s_storeF tab_ok; (iterate 7 (exact rfl)); exact hX; (iterate 2 (exact rfl)); intro σ hc; replace hX := hc.at'; replace hH := hc.keep nHX hH; replace hL := hc.keep nLX hL; replace hK := hK.chg oX hc; clear hc) | (apply s_ldF tab_ok; (iterate 5 (exact rfl)); exact hX; exact rfl) | (apply s_idxO (j * 3) tab_ok; (iterate 7 (exact rfl)); exact hH; exact ⟨by omega, by omega⟩) | (apply s_ldA j 0 tab_ok; (iterate 5 (exact rfl)); exact hH; exact hr; omega; exact rfl) | refine al_nil ?_ | refine q_then_n ?_ | refine q_blk_n ?_ | refine aw_block ?_ | refine aw_seq ?_ | refine aw_reg ?_ | refine aw_true rfl ?_ | refine aw_false rfl ?_ | refine aw_skip ?_)
      all_goals exact ⟨_, _, rfl, by omega, j + 1, ver, m, rows, rfl, hm, by omega, by omega, hH, hL, hK, by omega, rfl⟩
    | false =>
      simp only [Bool.false_eq_true, if_false] at hct
      have ela : (rows ++ [[DV.v (.int .i64 (j : Int))]]).length = rows.length + 1 := by simp
      repeat' (first | refine s_op rfl ?_ | (apply s_move; (iterate 4 (exact rfl))) | (apply s_fa_p tab_ok; (iterate 5 (exact rfl))) | (apply s_assign; (iterate 4 (exact rfl))) | (apply s_lit tab_ok tabZ_ok; (iterate 10 (exact rfl))) | (apply s_not_f; (iterate 4 (exact rfl))) | (apply s_lss_t; (iterate 5 (exact rfl)); omega) | (apply s_add64; (iterate 5 (exact rfl)); omega) | (apply s_allocF tabZ_ok (d := 5); (iterate 6 (exact rfl)); intro locX σ hc; have hX := hc.at'; have nHX := hc.ne hH; have nLX := hc.ne hL; replace hH := hc.keep hH; replace hL := hc.keep hL; have oX := hK.out hc; replace hK := hK.fresh hc; clear hc) | (apply s_storeF tab_ok; (iterate 7 (exact rfl)); exact hX; (iterate 2 (exact rfl)); intro σ hc; replace hX := hc.at'; replace hH := hc.keep nHX hH; replace hL := hc.keep nLX hL; replace hK := hK.chg oX hc; clear hc) | (apply s_ldF tab_ok; (iterate 5 (exact rfl)); exact hX; exact rfl) | (apply s_idxO (j * 3) tab_ok; (iterate 7 (exact rfl)); exact hH; exact ⟨by omega, by omega⟩) | (apply s_ldA j 0 tab_ok; (iterate 5 (exact rfl)); exact hH; exact hr; omega; exact rfl) | (apply s_appF tab_ok tabZ_ok (d := 24) (rows2 := [[DV.v (.int .i64 (j : Int))]]) (rows3 := rows ++ [[DV.v (.int .i64 (j : Int))]]) (m := m + 1); (iterate 10 (exact rfl)); exact hL; exact src_of (Tab.slIs tab_ok (t := 52) rfl) (rows_d rfl); exact rfl; (refine ⟨?_, ?_, ?_⟩ <;> first | omega | (simp only [List.length_cons, List.length_nil] <;> omega)); intro σ hc; replace hL := hc.at'; replace hH := hc.keep nHL hH; replace hK := hK.chg oL hc; clear hc hX) | refine al_nil ?_ | refine q_then_n ?_ | refine q_blk_n ?_ | refine aw_block ?_ | refine aw_seq ?_ | refine aw_reg ?_ | refine aw_true rfl ?_ | refine aw_skip ?_)
      all_goals exact ⟨_, _, rfl, by omega, j + 1, _, m + 1, _, rfl, by omega, by omega, by omega, hH, hL, hK, by omega, rfl⟩
  · rw [List.take_of_length_le (by omega)] at hc1
    repeat' (first | refine s_op rfl ?_ | (apply s_move; (iterate 4 (exact rfl))) | (apply s_assign; (iterate 4 (exact rfl))) | (apply s_lss_f; (iterate 5 (exact rfl)); omega) | (refine w_freezeF 3 rfl hL (by omega) ?_; intro σ hc; replace hK := hK.chg oL hc; clear hc hL) | refine al_nil ?_ | refine q_then_n ?_ | refine q_blk_e ?_ | refine q_then_e ?_ | refine aw_exit ?_ | refine aw_seq ?_ | refine aw_reg ?_ | refine aw_false rfl ?_ | refine aw_ret ?_)
    all_goals exact q_retB (resB_1 rfl (resV_t rfl)) ⟨rows, hc1, rfl, hK⟩
set_option maxRecDepth 100000 in
set_option maxHeartbeats 8000000 in
theorem clone101_o {loc ver n : Nat} {rows : List (List DV)} (hT : σ[loc]? = some (.arr 154 5 ver rows)) (hn : n = rows.length) (hl : rows.length ≤ 1000000) : Runs Try.prog 101 [.own loc ver 5 0 n] σ (fun r σ' => r = .d (.lst 5 rows) ∧ KeptP (fun _ => True) σ σ') := by
  have hK := KeptP.refl (fun _ => True) σ
  refine Runs.weakR ?_
  refine enterB 8 tab_ok Try.func101 rfl (by kernel_rfl) rfl rfl rfl ?_
  repeat' (first | refine s_op rfl ?_ | (apply s_move; (iterate 4 (exact rfl))) | (apply s_assign; (iterate 4 (exact rfl))) | (apply s_nilO sl86; (iterate 5 (exact rfl)); exact hT; intro b hb0; cases b) | (apply s_lit0 tab_ok tabZ_ok; (iterate 7 (exact rfl))) | (refine o_adoptF 5 154 5 rfl ?_; intro locA σ hc; have hA := hc.at'; have nTA := hc.ne hT; replace hT := hc.keep hT; have oA := hK.out hc; replace hK := hK.fresh hc; clear hc) | (apply s_appF tab_ok tabZ_ok (d := 7) (rows2 := rows) (rows3 := rows) (m := n); (iterate 10 (exact rfl)); exact hA; exact src_of sl86 (rows_own rfl hT (by rw [List.drop_zero]; exact List.take_of_length_le (by omega)) (by omega)); exact List.nil_append _; exact ⟨rfl, by omega, by omega⟩; intro σ hc; replace hA := hc.at'; replace hK := hK.chg oA hc; clear hc) | (refine w_freezeF 2 rfl hA (by omega) ?_; intro σ hc; replace hK := hK.chg oA hc; clear hc hA) | refine al_nil ?_ | refine q_then_n ?_ | refine q_then_r ?_ | refine aw_seq ?_ | refine aw_reg ?_ | refine aw_true rfl ?_ | refine aw_false rfl ?_ | refine aw_skip ?_ | refine aw_ret ?_)
  · exact q_retB (resB_1 rfl (resV_t rfl)) ⟨_, rfl, Wk.refl _, hK⟩
  · have h0 := hb0 rfl
    have hr : rows = [] := List.eq_nil_of_length_eq_zero (by omega)
    subst hr
    exact q_retB (resB_1 rfl (resV_t rfl)) ⟨_, rfl, Wk.nil 5, hK⟩
set_option maxRecDepth 100000 in
set_option maxHeartbeats 8000000 in
theorem trace54 (h : PW σ q hs) (hl : hs.length ≤ 1000000) : Runs Try.prog 54 [.ptr q.p 0 0] σ (fun r σ' => r = .d (.lst 5 (oRows hs.length)) ∧ KeptP (fun _ => True) σ σ') := by
  have hK := KeptP.refl (fun _ => True) σ
  obtain ⟨vh, vt, hP, hH, hT⟩ := h.at'
  have hcl := clone101_o hT (n := hs.length) (oRows_len _).symm (by rw [oRows_len]; exact hl)
  refine enterB 10 tab_ok Try.func54 rfl (by kernel_rfl) rfl rfl rfl ?_
  repeat' (first | refine s_op rfl ?_ | (apply s_move; (iterate 4 (exact rfl))) | (apply s_fa_p tab_ok; (iterate 5 (exact rfl))) | (apply s_assign; (iterate 4 (exact rfl))) | (apply s_nilc; (iterate 5 (exact rfl))) | (apply s_ldF tab_ok; (iterate 5 (exact rfl)); exact hP; exact rfl) | (apply s_ptrNil ptr68; (iterate 4 (exact rfl))) | (apply s_callS; (iterate 6 (exact rfl)); exact hcl; rintro _ σ2 ⟨rfl, hk2⟩; replace hK := hK.trans hk2; clear hk2) | refine al_nil ?_ | refine q_then_n ?_ | refine aw_seq ?_ | refine aw_reg ?_ | refine aw_false rfl ?_ | refine aw_skip ?_ | refine aw_ret ?_)
  all_goals exact q_retB (resB_1 rfl (resV_t rfl)) ⟨rfl, hK⟩
set_option maxRecDepth 100000 in
theorem goes108 (hP : σ[q.p]? = some (.row 137 [.d (.lst 2 [[DV.v (.string ⟨#[97]⟩), DV.v (.string ⟨#[98]⟩)]]), .d (.lst 1 []), .own q.h vh 3 0 hs.length, .own q.t vt 5 0 hs.length])) : Runs Try.prog 108 [.ptr q.p 0 0] σ (fun r σ' => r = .d (.v (.bool true)) ∧ σ' = σ) := by
  refine enterB 26 tab_ok Try.func108 rfl (by kernel_rfl) rfl rfl rfl ?_
  repeat' (first | refine s_op rfl ?_ | (apply s_move; (iterate 4 (exact rfl))) | (apply s_fa_p tab_ok; (iterate 5 (exact rfl))) | (apply s_assign; (iterate 4 (exact rfl))) | (apply s_len tab_ok; (iterate 5 (exact rfl))) | (apply s_nilc; (iterate 5 (exact rfl))) | (apply s_ldF tab_ok; (iterate 5 (exact rfl)); exact hP; exact rfl) | (apply s_eql_t; (iterate 5 (exact rfl)); exact rfl) | refine al_nil ?_ | refine q_then_n ?_ | refine q_then_r ?_ | refine aw_seq ?_ | refine aw_reg ?_ | refine aw_true rfl ?_ | refine aw_ret ?_)
  all_goals exact q_retB (resB_1 rfl (resV_t rfl)) ⟨rfl, rfl⟩
set_option maxRecDepth 100000 in
theorem clos110 : RunsP Try.prog 110 [.agg [DV.v (.string ⟨#[97]⟩), DV.v (.string ⟨#[98]⟩)], .fptr [DV.v (.string ⟨#[97]⟩)]] (fun v => v = .v (.bool true)) := by
  refine enterP 8 Try.func110 rfl (by kernel_rfl) rfl rfl rfl ?_
  repeat' (first | refine s_op rfl ?_ | (apply s_fa_f tab_ok; (iterate 6 (exact rfl))) | (apply s_ld_f tab_ok; (iterate 6 (exact rfl))) | (apply s_assign; (iterate 4 (exact rfl))) | (apply s_boxZ; (iterate 5 (exact rfl)); first | exact rfl | exact allD_mapd _) | (apply s_streq_t; (iterate 5 (exact rfl)); exact rfl) | refine al_nil ?_ | refine q_then_n ?_ | refine aw_seq ?_ | refine aw_reg ?_ | refine aw_ret ?_)
  all_goals exact q_ret rfl ⟨_, rfl, rfl⟩
set_option maxRecDepth 100000 in
set_option maxHeartbeats 8000000 in
theorem idx109 : Runs Try.prog 109 [.d (.lst 2 [[DV.v (.string ⟨#[97]⟩), DV.v (.string ⟨#[98]⟩)]]), .clo (.func 110) [] [.d (.fptr [DV.v (.string ⟨#[97]⟩)])]] σ (fun r σ' => r = .d (.v (.int .i64 0)) ∧ σ' = σ) := by
  have h110 := clos110
  refine enterB 19 tab_ok Try.func109 rfl (by kernel_rfl) rfl rfl rfl ?_
  repeat' (first | refine s_op rfl ?_ | (apply s_move; (iterate 4 (exact rfl))) | (apply s_assign; (iterate 4 (exact rfl))) | (apply s_len tab_ok; (iterate 5 (exact rfl))) | refine al_nil ?_ | refine q_then_n ?_ | refine aw_block ?_ | refine aw_seq ?_ | refine aw_reg ?_)
  refine w_loop [0, 1, 6, 7, 8] (fun n' vs' σ' => vs' = [.d (.lst 2 [[DV.v (.string ⟨#[97]⟩), DV.v (.string ⟨#[98]⟩)]]), .clo (.func 110) [] [.d (.fptr [DV.v (.string ⟨#[97]⟩)])], .d (.lst 2 [[DV.v (.string ⟨#[97]⟩), DV.v (.string ⟨#[98]⟩)]]), .d (.v (.int .i64 1)), .d (.v (.int .i64 0))] ∧ σ' = σ ∧ n' = 1) rfl ⟨rfl, rfl, rfl⟩ ?_
  rintro n' vs' σ' ⟨rfl, rfl, rfl⟩ fr hfr
  cases hfr
  repeat' (first | refine s_op rfl ?_ | (apply s_move; (iterate 4 (exact rfl))) | (apply s_ld_f tab_ok; (iterate 6 (exact rfl))) | (apply s_assign; (iterate 4 (exact rfl))) | (apply s_lss_t; (iterate 5 (exact rfl)); omega) | (apply s_idx (j := 0) tab_ok; (iterate 7 (exact rfl)); exact rfl) | (apply s_call; (iterate 6 (exact rfl)); first | (exact h110; rintro _ rfl)) | refine al_nil ?_ | refine q_then_n ?_ | refine q_blk_r ?_ | refine aw_block ?_ | refine q_then_r ?_ | refine aw_seq ?_ | refine aw_reg ?_ | refine aw_true rfl ?_ | refine aw_skip ?_ | refine aw_ret ?_)
  all_goals exact q_retB (resB_1 rfl (resV_t rfl)) ⟨rfl, rfl⟩
end
end Go.Proofs.Ytciciaikajdenaa
/- T19: the world of one file: Open, which defers its note. -/
set_option linter.unusedSimpArgs false
set_option linter.unusedVariables false
namespace Go.Proofs.Ytciciaikajdenaa
open Go.RowKit

def pRow (q : WQ) (vh vt n m : Nat) : AObj := .row 137 [.d (.lst 2 [[DV.v (.string ⟨#[97]⟩), DV.v (.string ⟨#[98]⟩)]]), .d (.lst 1 []), .own q.h vh 3 0 n, .own q.t vt 5 0 m]
def opRow (n : Int) (b : Bool) : AObj := .row 154 [.d (.v (.int .u8 1)), .d (.v (.int .i64 n)), .d (.v (.string ⟨#[97]⟩)), .d (.v (.string ⟨#[]⟩)), .d (.v (.bool b))]
def fName : AV := .d (.fptr [DV.v (.string ⟨#[97]⟩)])
noncomputable def opnP : Option (Code × Code × Code × Code) := match Try.f67.body with
  | some (.seq a (.seq b (.seq c (.seq _ r)))) => some (a, b, c, r)
  | _ => none
noncomputable def noteB : Option Code := Try.f107.body
section
variable {σ0 σ : List AObj} {q : WQ} {hs : List Bool} {vh vt locO : Nat}
/-- What the note leaves. -/
def NoteN (q : WQ) (vh n m : Nat) (H : List (List DV)) (σ : List AObj) : List AObj → Prop := fun σ' => ∃ vt', σ'[q.p]? = some (pRow q vh vt' n (m + 1)) ∧ σ'[q.h]? = some (.arr 171 3 vh H) ∧ σ'[q.t]? = some (.arr 154 5 vt' (oRows (m + 1))) ∧ KeptP (NotW q) σ σ'
set_option maxRecDepth 100000 in
set_option maxHeartbeats 8000000 in
theorem note_awk {n m : Nat} {H : List (List DV)} (hq : q.Ok) (hO : σ[locO]? = some (opRow (m : Int) true)) (nO : NotW q locO) (hP : σ[q.p]? = some (pRow q vh vt n m)) (hH : σ[q.h]? = some (.arr 171 3 vh H)) (hT : σ[q.t]? = some (.arr 154 5 vt (oRows m))) (hm : m ≤ 1000000) {X : Code} (hX : noteB = some X) :
    AWk Try.prog 16 X (endQ (NoteN q vh n m H σ)) [(0, .ptr q.p 0 0), (1, .ptr locO 0 0)] σ := by
  have hK := KeptP.refl (NotW q) σ
  have oP : OutP (NotW q) σ q.p := fun _ h => absurd rfl h.1
  have oT : OutP (NotW q) σ q.t := fun _ h => absurd rfl h.2.2
  have eo := oRows_succ m
  have el := oRows_len m
  unfold oRow at eo
  unfold opRow at hO
  unfold pRow at hP
  cases hX
  repeat' (first | refine s_op rfl ?_ | (apply s_move; (iterate 4 (exact rfl))) | (apply s_fa_p tab_ok; (iterate 5 (exact rfl))) | (apply s_nilc; (iterate 5 (exact rfl))) | (apply s_lit tab_ok tabZ_ok; (iterate 10 (exact rfl))) | (apply s_ldF tab_ok; (iterate 5 (exact rfl)); exact hP; exact rfl) | (apply s_ldF tab_ok; (iterate 5 (exact rfl)); exact hO; exact rfl) | (apply s_appF tab_ok tabZ_ok (d := 13) (rows2 := [[DV.v (.int .u8 1), DV.v (.int .i64 (m : Int)), DV.v (.string ⟨#[97]⟩), DV.v (.string ⟨#[]⟩), DV.v (.bool true)]]) (rows3 := oRows (m + 1)) (m := m + 1); (iterate 10 (exact rfl)); exact hT; exact src_of sl86 (rows_d rfl); exact eo; (refine ⟨?_, ?_, ?_⟩ <;> first | omega | (simp only [List.length_cons, List.length_nil] <;> omega)); intro σ hc; replace hT := hc.at'; replace hP := hc.keep hq.pt hP; replace hH := hc.keep hq.ht hH; replace hK := hK.chg oT hc; clear hc hO) | (apply s_storeF tab_ok; (iterate 7 (exact rfl)); exact hP; (iterate 2 (exact rfl)); intro σ hc; replace hP := hc.at'; replace hH := hc.keep hq.ph.symm hH; replace hT := hc.keep hq.pt.symm hT; replace hK := hK.chg oP hc; clear hc) | refine al_nil ?_ | refine aw_draws (id := 0) (trO [0, 1, 2, 3, 4, 5, 6, 7, 8, 9, 10, 11, 12] .nil) [8, 9, 12] [9, 12] mixed_ok (by kernel_rfl) ?_)
  all_goals exact ⟨_, hP, hH, hT, hK⟩
def N0 (q : WQ) (σ0 : List AObj) (fr : Fr) (σ : List AObj) : Prop := fget fr 0 = .ptr q.p 0 0 ∧ fget fr 3 = fName ∧ KeptP (fun _ => True) σ0 σ
def N2 (q : WQ) (hs : List Bool) (σ0 : List AObj) (fr : Fr) (σ : List AObj) : Prop := ∃ locO, fget fr 0 = .ptr q.p 0 0 ∧ fget fr 3 = fName ∧ fget fr 6 = .ptr locO 0 0 ∧ σ[locO]? = some (opRow (-1) false) ∧ NotW q locO ∧ OutP (fun _ => True) σ0 locO ∧ KeptP (fun _ => True) σ0 σ
set_option maxRecDepth 100000 in
theorem opn_a {A B C D : Code} (hX : opnP = some (A, B, C, D)) : AWk Try.prog 49 A (nextQ (N0 q σ)) (frameOf [.ptr q.p 0 0, .d (.v (.string ⟨#[97]⟩))] 0) σ := by
  have hK := KeptP.refl (fun _ => True) σ
  have e : frameOf [.ptr q.p 0 0, .d (.v (.string ⟨#[97]⟩))] 0 = [(0, .ptr q.p 0 0), (1, .d (.v (.string ⟨#[97]⟩)))] := rfl
  rw [e]
  cases hX
  repeat' (first | refine s_op rfl ?_ | (apply s_assign; (iterate 4 (exact rfl))) | (apply s_boxZ; (iterate 5 (exact rfl)); first | exact rfl | exact allD_mapd _) | refine al_nil ?_ | refine aw_reg ?_)
  all_goals exact ⟨rfl, rfl, hK⟩
set_option maxRecDepth 100000 in
theorem opn_b {A B C D : Code} (hX : opnP = some (A, B, C, D)) {fr : Fr} (hN : N0 q σ0 fr σ) : AWk Try.prog 49 B (nextQ (N0 q σ0)) fr σ := by
  obtain ⟨e0, e3, hK⟩ := hN
  cases hX
  refine w_keep [0, 3] (vs := [.ptr q.p 0 0, fName]) (by simp [getO, e0, e3, forceAV, fName]) rfl ?_
  clear e0 e3
  repeat' (first | refine s_op rfl ?_ | (apply s_move; (iterate 4 (exact rfl))) | (apply s_ptrNil ptr68; (iterate 4 (exact rfl))) | refine al_nil ?_ | refine q_then_n ?_ | refine aw_seq ?_ | refine aw_reg ?_ | refine aw_false rfl ?_ | refine aw_skip ?_)
  all_goals exact ⟨rfl, rfl, hK⟩
set_option maxRecDepth 100000 in
theorem opn_c {A B C D : Code} (hX : opnP = some (A, B, C, D)) {fr : Fr} (h : PW σ0 q hs) (hN : N0 q σ0 fr σ) : AWk Try.prog 49 C (nextQ (N2 q hs σ0)) fr σ := by
  obtain ⟨e0, e3, hK⟩ := hN
  have h := h.keep hK
  cases hX
  refine w_keep [0, 3] (vs := [.ptr q.p 0 0, fName]) (by simp [getO, e0, e3, forceAV, fName]) rfl ?_
  clear e0 e3
  unfold fName
  repeat' (first | refine s_op rfl ?_ | (apply s_ld_f tab_ok; (iterate 6 (exact rfl))) | (apply s_build tabZ_ok; (iterate 5 (exact rfl))) | (apply s_allocF tabZ_ok (d := 6); (iterate 6 (exact rfl)); intro locO σ hc; have hO := hc.at'; have pO : NotW q locO := (by obtain ⟨vh, vt, a, b, c⟩ := h.at'; exact ⟨(hc.ne a).symm, (hc.ne b).symm, (hc.ne c).symm⟩); have oO := hK.out hc; replace hK := hK.fresh hc; clear hc) | (apply s_storeF tab_ok; (iterate 7 (exact rfl)); exact hO; (iterate 2 (exact rfl)); intro σ hc; replace hO := hc.at'; replace hK := hK.chg oO hc; clear hc) | refine al_nil ?_ | refine aw_reg ?_)
  all_goals exact ⟨locO, rfl, rfl, rfl, hO, pO, oO, hK⟩
def retN (N : Fr → List AObj → Prop) : Exit → Fr → List AObj → Prop
  | .ret, fr, σ => N fr σ
  | _, _, _ => False
def N3 (q : WQ) (hs : List Bool) (locO : Nat) (σ0 : List AObj) (fr : Fr) (σ : List AObj) : Prop := ∃ vh vt, fget fr 4 = .d (.v (.int .i64 (hs.length : Int))) ∧ fget fr 5 = .d (.v (.bool true)) ∧ σ[q.p]? = some (pRow q vh vt (hs.length + 1) hs.length) ∧ σ[q.h]? = some (.arr 171 3 vh (hRows (hs ++ [false]))) ∧ σ[q.t]? = some (.arr 154 5 vt (oRows hs.length)) ∧ σ[locO]? = some (opRow (hs.length : Int) true) ∧ KeptP (NotW q) σ0 σ
set_option maxRecDepth 100000 in
set_option maxHeartbeats 8000000 in
theorem opn_d {A B C D : Code} (hX : opnP = some (A, B, C, D)) (h : PW σ q hs) (hl : hs.length ≤ 1000000) (pO : NotW q locO) (hO : σ[locO]? = some (opRow (-1) false)) (hK : KeptP (NotW q) σ0 σ) (oO : OutP (NotW q) σ0 locO) : AWk Try.prog 49 D (retN (N3 q hs locO σ0)) [(0, .ptr q.p 0 0), (3, fName), (6, .ptr locO 0 0)] σ := by
  have hq := h.ok
  obtain ⟨vh, vt, hP, hH, hT⟩ := h.at'
  have e1 := hRows_len hs
  have hgo := fun σ hP => goes108 (σ := σ) (q := q) (hs := hs) (vh := vh) (vt := vt) hP
  have hix := fun (σ : List AObj) => clo_wk (idx109 (σ := σ))
  have ea : hRows hs ++ [[DV.v (.int .i64 0), DV.v (.int .i64 0), DV.v (.bool false)]] = hRows (hs ++ [false]) := by simp [hRows, hRow]
  have oP : OutP (NotW q) σ0 q.p := fun _ h => absurd rfl h.1
  have oH : OutP (NotW q) σ0 q.h := fun _ h => absurd rfl h.2.1
  unfold fName
  unfold opRow at hO
  cases hX
  repeat' (first | refine s_op rfl ?_ | (apply s_move; (iterate 4 (exact rfl))) | (apply s_fa_p tab_ok; (iterate 5 (exact rfl))) | (apply s_assign; (iterate 4 (exact rfl))) | (apply s_pick_f; (iterate 5 (exact rfl))) | (apply s_len tab_ok; (iterate 5 (exact rfl))) | (apply s_nilc; (iterate 5 (exact rfl))) | (apply s_mkf; (iterate 4 (exact rfl))) | (apply s_build tabZ_ok; (iterate 5 (exact rfl))) | (apply s_lit tab_ok tabZ_ok; (iterate 10 (exact rfl))) | (apply s_not_t; (iterate 4 (exact rfl))) | (apply s_lss_f; (iterate 5 (exact rfl)); omega) | (apply s_ldF tab_ok; (iterate 5 (exact rfl)); exact hP; exact rfl) | (apply s_ldF tab_ok; (iterate 5 (exact rfl)); exact hO; exact rfl) | (apply s_callS; (iterate 6 (exact rfl)); exact hgo _ hP; rintro _ σ2 ⟨rfl, rfl⟩) | (apply s_callS; (iterate 6 (exact rfl)); exact hix _; rintro _ σ2 ⟨rfl, rfl⟩) | (apply s_appF tab_ok tabZ_ok (d := 44) (rows2 := [[DV.v (.int .i64 0), DV.v (.int .i64 0), DV.v (.bool false)]]) (rows3 := hRows (hs ++ [false])) (m := hs.length + 1); (iterate 10 (exact rfl)); exact hH; exact src_of (Tab.slIs tab_ok (t := 135) rfl) (rows_d rfl); exact ea; (refine ⟨?_, ?_, ?_⟩ <;> first | omega | (simp only [List.length_cons, List.length_nil] <;> omega)); intro σ hc; replace hH := hc.at'; replace hP := hc.keep hq.ph hP; replace hT := hc.keep hq.ht.symm hT; replace hO := hc.keep pO.2.1 hO; replace hK := hK.chg oH hc; clear hc) | (apply s_storeF tab_ok; (iterate 7 (exact rfl)); exact hP; (iterate 2 (exact rfl)); intro σ hc; replace hP := hc.at'; replace hH := hc.keep hq.ph.symm hH; replace hT := hc.keep hq.pt.symm hT; replace hO := hc.keep pO.1 hO; replace hK := hK.chg oP hc; clear hc) | (apply s_storeF tab_ok; (iterate 7 (exact rfl)); exact hO; (iterate 2 (exact rfl)); intro σ hc; replace hO := hc.at'; replace hP := hc.keep pO.1.symm hP; replace hH := hc.keep pO.2.1.symm hH; replace hT := hc.keep pO.2.2.symm hT; replace hK := hK.chg oO hc; clear hc) | refine al_nil ?_ | refine q_then_n ?_ | refine aw_seq ?_ | refine aw_reg ?_ | refine aw_false rfl ?_ | refine aw_skip ?_ | refine aw_ret ?_)
  all_goals exact ⟨_, _, rfl, rfl, hP, hH, hT, hO, hK⟩
end
end Go.Proofs.Ytciciaikajdenaa
