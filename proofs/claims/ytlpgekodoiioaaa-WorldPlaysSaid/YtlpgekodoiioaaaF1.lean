/- The document's world (usufructref22), in memory, and its operations. -/
import Derived.Test.YtlpgekodoiioaaaX2
import Derived.Test.YtlpgekodoiioaaaAe
set_option linter.unusedSimpArgs false
set_option linter.unusedVariables false
namespace Go.Proofs.Ytlpgekodoiioaaa
open Go.RowKit

/-- Where it stands. -/
structure RL where
  p : Nat
  f : Nat
  h : Nat
  t : Nat
def RL.has (q : RL) (l : Nat) : Prop := l = q.p ∨ l = q.f ∨ l = q.h ∨ l = q.t
structure RL.Ok (q : RL) : Prop where
  pf : q.p ≠ q.f
  ph : q.p ≠ q.h
  pt : q.p ≠ q.t
  fh : q.f ≠ q.h
  ft : q.f ≠ q.t
  ht : q.h ≠ q.t

def hD (x : AHandle) : List DV := [.v (.int .i64 (if x.shut then -1 else (x.file : Int))), .v (.int .i64 (x.pos : Int))]

/-- All else is as it was. -/
def Out (q : RL) (σ0 σ : List AObj) : Prop := ∀ k o, σ0[k]? = some o → ¬ q.has k → σ[k]? = some o
theorem Out.refl (q : RL) (σ : List AObj) : Out q σ σ := fun _ _ h _ => h
theorem Out.trans {q : RL} {a b c : List AObj} (h : Out q a b) (k : Out q b c) : Out q a c := fun l o e n => k l o (h l o e n) n
theorem Out.chg {q : RL} {σ0 σ σ' : List AObj} {l : Nat} {o : AObj} (h : Out q σ0 σ) (hc : Chg σ l o σ') (hl : q.has l) : Out q σ0 σ' :=
  fun k o e n => hc.keep (fun q2 => n (q2 ▸ hl)) (h k o e n)
theorem Out.fresh {q : RL} {σ0 σ σ' : List AObj} {l : Nat} {o : AObj} (h : Out q σ0 σ) (hc : Fresh σ l o σ') : Out q σ0 σ' :=
  fun k o e n => hc.keep (h k o e n)

def refRow (q : RL) (F : List Bool) (t vf vh vt : Nat) (W : AW) : AObj :=
  .row 81 [.own q.f vf 2 0 W.files.length, .d (boolsD F), .d (.v (.int .i64 (t : Int))), .own q.h vh 2 0 W.handles.length, .own q.t vt 5 0 W.trace.length]

structure RefAt (σ : List AObj) (q : RL) (W : AW) : Prop where
  ok : q.Ok
  ex : ∃ F t vf vh vt, F.drop t = W.fails ∧ t ≤ F.length ∧ F.length ≤ 100000 ∧ σ[q.p]? = some (refRow q F t vf vh vt W) ∧ σ[q.f]? = some (.arr 62 2 vf (W.files.map fileD)) ∧ σ[q.h]? = some (.arr 96 2 vh (W.handles.map hD)) ∧ σ[q.t]? = some (.arr 68 5 vt (W.trace.map opD))

theorem has_p (q : RL) : q.has q.p := .inl rfl
theorem has_f (q : RL) : q.has q.f := .inr (.inl rfl)
theorem has_h (q : RL) : q.has q.h := .inr (.inr (.inl rfl))
theorem has_t (q : RL) : q.has q.t := .inr (.inr (.inr rfl))

/-- What a call on it says. -/
def RefP (q : RL) (W' : AW) (res : AV) (σ : List AObj) (v : AV) (σ' : List AObj) : Prop := v = res ∧ RefAt σ' q W' ∧ Out q σ σ'

theorem drop_get {α : Type} {l : List α} {t : Nat} {b : α} {m : List α} (h : l.drop t = b :: m) : t < l.length ∧ l[t]? = some b ∧ l.drop (t + 1) = m := by
  have hlt : t < l.length := by
    apply Decidable.byContradiction
    intro q
    rw [List.drop_eq_nil_of_le (by omega)] at h; cases h
  rw [List.drop_eq_getElem_cons hlt] at h
  injection h with h1 h2
  exact ⟨hlt, by rw [List.getElem?_eq_getElem hlt, h1], h2⟩

-- DEF LDP: (apply s_ldF tab_ok; (iterate 5 (exact rfl)); exact hP; exact rfl)
-- DEF LEN: (apply s_len tab_ok; (iterate 5 (exact rfl)))
-- DEF FAIL: (apply s_callS; (iterate 6 (exact rfl)); exact fail_c hR; rintro _ σ ⟨rfl, hR, hO2⟩; replace hO := hO.trans hO2; clear hO2)
-- DEF WRONG: (apply s_callS; (iterate 6 (exact rfl)); exact wrong_c hR _; rintro _ _ ⟨rfl, rfl⟩)
-- DEF IDXH: (apply s_idxO _ tab_ok; (iterate 7 (exact rfl)); exact hH; exact ⟨by omega, rfl⟩)
-- DEF IDXF: (apply s_idxO _ tab_ok; (iterate 7 (exact rfl)); exact hF; exact ⟨by omega, rfl⟩)
section
variable {σ : List AObj} {q : RL} {W : AW} {n : Nat}

theorem map_get {α β : Type} {f : α → β} {l : List α} {j : Nat} {x : α} (h : l[j]? = some x) : (l.map f)[j]? = some (f x) := by simp [h]

theorem goes_cons {b : Bool} {m : List Bool} (h : W.fails = b :: m) : W.goes = (!b, { W with fails := m }) := by unfold AW.goes; rw [h]
theorem goes_nil (h : W.fails = []) : W.goes = (true, W) := by unfold AW.goes; rw [h]

set_option maxRecDepth 100000 in
theorem fail_c (h : RefAt σ q W) : Runs Try.prog 51 [.ptr q.p 0 0] σ (RefP q W.goes.2 (.d (.v (.bool (!W.goes.1)))) σ) := by
  obtain ⟨ok, F, t, vf, vh, vt, e, ht, hF0, hP, hF, hH, hT⟩ := h
  obtain ⟨pf, ph, pt, fh, ft, hth⟩ := ok
  unfold refRow at hP
  have hl : (F.map boolD).length = F.length := by simp
  have hO := Out.refl q σ
  refine enter 31 Try.func51 rfl (by kernel_rfl) rfl rfl rfl ?_
  by_cases hlt : t < F.length
  · cases hw : W.fails with
    | nil => rw [hw] at e; have := List.drop_eq_nil_iff.1 e; omega
    | cons b m =>
      rw [hw] at e
      obtain ⟨_, hb, hm⟩ := drop_get e
      have hbr : (F.map boolD)[t]? = some (boolD b) := by simp [hb]
      rw [goes_cons hw]
      repeat' (first
      | refine s_op rfl ?_ | (apply s_move; (iterate 4 (exact rfl))) | (apply s_fa_p tab_ok; (iterate 5 (exact rfl))) | (apply s_fa_f tab_ok; (iterate 6 (exact rfl))) | (apply s_ld_p tab_ok; (iterate 7 (exact rfl)))
      | (apply s_ld_f tab_ok; (iterate 6 (exact rfl))) | (apply s_ld_w tab_ok; (iterate 5 (exact rfl)); (first | exact patD_len _ | exact valD_len _)) | (apply s_assign; (iterate 4 (exact rfl))) | (apply s_len tab_ok; (iterate 5 (exact rfl))) | (apply s_lens str_ok; (iterate 4 (exact rfl)))
      | (apply s_idx tab_ok; (iterate 7 (exact rfl)); (first | exact patR_get (by assumption) | exact valR_get (by assumption) | exact row_map (by assumption) | assumption)) | (apply s_nilc; (iterate 5 (exact rfl))) | (apply s_store tab_ok; (iterate 10 (exact rfl))) | (apply s_geq_t; (iterate 5 (exact rfl)); omega) | (apply s_geq_f; (iterate 5 (exact rfl)); omega)
      | (apply s_ldF tab_ok; (iterate 5 (exact rfl)); exact hP; exact rfl)
      | (apply s_addV ((t + 1 : Nat) : Int); (iterate 5 (exact rfl)); omega)
      | (apply s_subV (t : Int); (iterate 5 (exact rfl)); omega)
      | (apply s_storeF tab_ok; (iterate 7 (exact rfl)); exact hP; (iterate 2 (exact rfl)); intro σ hc; replace hP := hc.at'; replace hF := hc.keep (by first | assumption | (apply Ne.symm; assumption) | omega) hF; replace hH := hc.keep (by first | assumption | (apply Ne.symm; assumption) | omega) hH; replace hT := hc.keep (by first | assumption | (apply Ne.symm; assumption) | omega) hT; replace hO := hO.chg hc (has_p q); clear hc)
      | refine al_nil ?_ | refine q_then_n ?_ | refine q_then_r ?_ | refine aw_seq ?_ | refine aw_reg ?_
      | refine aw_true rfl ?_ | refine aw_false rfl ?_ | refine aw_skip ?_ | refine aw_ret ?_ | refine al_fork ?_ ?_
      | refine al_fork3 ?_ ?_ ?_
      | refine aw_draws (id := 1) (trO [0, 1, 2, 3, 4, 5, 6, 7, 8, 9] .nil) [] [] mixed_ok (by kernel_rfl) ?_
      | refine aw_draws (id := 4) (trO [0, 1, 2, 3, 4, 5, 6, 7, 8, 9, 10, 11] .nil) [] [] mixed_ok (by kernel_rfl) ?_)
      refine q_ret rfl ⟨?_, ⟨⟨pf, ph, pt, fh, ft, hth⟩, F, t + 1, vf, vh, vt, hm, by omega, hF0, hP, hF, hH, hT⟩, hO⟩
      cases b <;> rfl
  · have hw : W.fails = [] := by rw [← e]; exact List.drop_eq_nil_of_le (by omega)
    rw [goes_nil hw]
    repeat' (first
      | refine s_op rfl ?_ | (apply s_move; (iterate 4 (exact rfl))) | (apply s_fa_p tab_ok; (iterate 5 (exact rfl))) | (apply s_fa_f tab_ok; (iterate 6 (exact rfl))) | (apply s_ld_p tab_ok; (iterate 7 (exact rfl)))
      | (apply s_ld_f tab_ok; (iterate 6 (exact rfl))) | (apply s_ld_w tab_ok; (iterate 5 (exact rfl)); (first | exact patD_len _ | exact valD_len _)) | (apply s_assign; (iterate 4 (exact rfl))) | (apply s_len tab_ok; (iterate 5 (exact rfl))) | (apply s_lens str_ok; (iterate 4 (exact rfl)))
      | (apply s_idx tab_ok; (iterate 7 (exact rfl)); (first | exact patR_get (by assumption) | exact valR_get (by assumption) | exact row_map (by assumption) | assumption)) | (apply s_nilc; (iterate 5 (exact rfl))) | (apply s_store tab_ok; (iterate 10 (exact rfl))) | (apply s_geq_t; (iterate 5 (exact rfl)); omega) | (apply s_geq_f; (iterate 5 (exact rfl)); omega)
      | (apply s_add64; (iterate 5 (exact rfl)); omega) | (apply s_sub64; (iterate 5 (exact rfl)); omega)
      | (apply s_ldF tab_ok; (iterate 5 (exact rfl)); exact hP; exact rfl)
      | refine al_nil ?_ | refine q_then_n ?_ | refine q_then_r ?_ | refine aw_seq ?_ | refine aw_reg ?_
      | refine aw_true rfl ?_ | refine aw_false rfl ?_ | refine aw_skip ?_ | refine aw_ret ?_ | refine al_fork ?_ ?_
      | refine al_fork3 ?_ ?_ ?_
      | refine aw_draws (id := 1) (trO [0, 1, 2, 3, 4, 5, 6, 7, 8, 9] .nil) [] [] mixed_ok (by kernel_rfl) ?_
      | refine aw_draws (id := 4) (trO [0, 1, 2, 3, 4, 5, 6, 7, 8, 9, 10, 11] .nil) [] [] mixed_ok (by kernel_rfl) ?_)
    exact q_ret rfl ⟨rfl, ⟨⟨pf, ph, pt, fh, ft, hth⟩, F, t, vf, vh, vt, e, ht, hF0, hP, hF, hH, hT⟩, hO⟩

set_option maxRecDepth 100000 in
theorem did_c (h : RefAt σ q W) (o : AOp) (hn : W.trace.length ≤ 100000) : Runs Try.prog 52 [.ptr q.p 0 0, .d (.agg (opD o))] σ (fun v σ' => v = .tup [] ∧ RefAt σ' q (W.note o) ∧ Out q σ σ') := by
  obtain ⟨ok, F, t, vf, vh, vt, e, ht, hF0, hP, hF, hH, hT⟩ := h
  obtain ⟨pf, ph, pt, fh, ft, hth⟩ := ok
  unfold refRow at hP
  have hO := Out.refl q σ
  have hl : (W.trace.map opD).length = W.trace.length := by simp
  refine enter 14 Try.func52 rfl (by kernel_rfl) rfl rfl rfl ?_
  repeat' (first
      | refine s_op rfl ?_ | (apply s_move; (iterate 4 (exact rfl))) | (apply s_fa_p tab_ok; (iterate 5 (exact rfl))) | (apply s_fa_f tab_ok; (iterate 6 (exact rfl))) | (apply s_ld_p tab_ok; (iterate 7 (exact rfl)))
      | (apply s_ld_f tab_ok; (iterate 6 (exact rfl))) | (apply s_ld_w tab_ok; (iterate 5 (exact rfl)); (first | exact patD_len _ | exact valD_len _)) | (apply s_nilc; (iterate 5 (exact rfl))) | (apply s_box; (iterate 7 (exact rfl))) | (apply s_store tab_ok; (iterate 10 (exact rfl)))
      | (apply s_lit tab_ok tabZ_ok; (iterate 10 (exact rfl))) | (apply s_lit1 tab_ok tabZ_ok; (iterate 9 (exact rfl)); (first | exact patD_len _ | exact valD_len _)) | (apply s_app tab_ok tabZ_ok; (iterate 13 (exact rfl)); (first | (simp; done) | (simp; omega)))
      | (apply s_ldF tab_ok; (iterate 5 (exact rfl)); exact hP; exact rfl)
      | (apply s_boxF; (iterate 6 (exact rfl)); intro locX σ hc; have hX := hc.at'; have nPX := hc.ne hP; replace hP := hc.keep hP; have nFX := hc.ne hF; replace hF := hc.keep hF; have nHX := hc.ne hH; replace hH := hc.keep hH; have nTX := hc.ne hT; replace hT := hc.keep hT; replace hO := hO.fresh hc; clear hc)
      | (apply s_ldF tab_ok; (iterate 5 (exact rfl)); exact hX; exact rfl)
      | (apply s_appF tab_ok tabZ_ok (rows2 := [opD o]) (rows3 := (W.trace ++ [o]).map opD) (m := W.trace.length + 1); (iterate 10 (exact rfl)); exact hT; exact src_of (Tab.slIs tab_ok (t := 47) rfl) (rows_d rfl); (simp); (rw [hl]; simp; omega); intro σ hc; replace hT := hc.at'; replace hP := hc.keep (by first | assumption | (apply Ne.symm; assumption) | omega) hP; replace hF := hc.keep (by first | assumption | (apply Ne.symm; assumption) | omega) hF; replace hH := hc.keep (by first | assumption | (apply Ne.symm; assumption) | omega) hH; replace hX := hc.keep (by first | assumption | (apply Ne.symm; assumption) | omega) hX; replace hO := hO.chg hc (has_t q); clear hc)
      | (apply s_storeF tab_ok; (iterate 7 (exact rfl)); exact hP; (iterate 2 (exact rfl)); intro σ hc; replace hP := hc.at'; replace hF := hc.keep (by first | assumption | (apply Ne.symm; assumption) | omega) hF; replace hH := hc.keep (by first | assumption | (apply Ne.symm; assumption) | omega) hH; replace hT := hc.keep (by first | assumption | (apply Ne.symm; assumption) | omega) hT; replace hO := hO.chg hc (has_p q); clear hc)
      | refine al_nil ?_ | refine q_then_n ?_ | refine q_then_r ?_ | refine aw_seq ?_ | refine aw_reg ?_
      | refine aw_ret ?_ | refine al_fork ?_ ?_ | refine al_fork3 ?_ ?_ ?_
      | refine aw_draws (id := 1) (trO [0, 1, 2, 3, 4, 5, 6, 7, 8, 9, 10] .nil) [6, 7, 10] [7, 10] mixed_ok (by kernel_rfl) ?_)
  refine q_end rfl ⟨rfl, ⟨⟨pf, ph, pt, fh, ft, hth⟩, F, t, vf, vh, vt + 1, e, ht, hF0, ?_, hF, hH, hT⟩, hO⟩
  unfold refRow
  simp only [AW.note, List.length_append, List.length_singleton]
  exact hP

set_option maxRecDepth 100000 in
theorem wrong_c (h : RefAt σ q W) (x : Int) : Runs Try.prog 53 [.ptr q.p 0 0, .d (.v (.int .i64 x))] σ (fun v σ' => v = .d (.v (.int .i64 (W.wrong x))) ∧ σ' = σ) := by
  obtain ⟨ok, F, t, vf, vh, vt, e, ht, hF0, hP, hF, hH, hT⟩ := h
  unfold refRow at hP
  refine enter 25 Try.func53 rfl (by kernel_rfl) rfl rfl rfl ?_
  by_cases h0 : x < 0
  · have hw : W.wrong x = 4 := by unfold AW.wrong; rw [if_pos (.inl h0)]
    rw [hw]
    repeat' (first
      | refine s_op rfl ?_ | (apply s_skip; exact rfl) | (apply s_move; (iterate 4 (exact rfl))) | (apply s_fa_p tab_ok; (iterate 5 (exact rfl))) | (apply s_fa_f tab_ok; (iterate 6 (exact rfl)))
      | (apply s_ld_p tab_ok; (iterate 7 (exact rfl))) | (apply s_ld_f tab_ok; (iterate 6 (exact rfl))) | (apply s_ld_w tab_ok; (iterate 5 (exact rfl)); (first | exact patD_len _ | exact valD_len _)) | (apply s_assign; (iterate 4 (exact rfl))) | (apply s_pick_t; (iterate 5 (exact rfl)))
      | (apply s_pick_f; (iterate 5 (exact rfl))) | (apply s_len tab_ok; (iterate 5 (exact rfl))) | (apply s_lens str_ok; (iterate 4 (exact rfl))) | (apply s_idx tab_ok; (iterate 7 (exact rfl)); (first | exact patR_get (by assumption) | exact valR_get (by assumption) | exact row_map (by assumption) | assumption)) | (apply s_nilc; (iterate 5 (exact rfl)))
      | (apply s_lss_t; (iterate 5 (exact rfl)); omega) | (apply s_lss_f; (iterate 5 (exact rfl)); omega) | (apply s_geq_t; (iterate 5 (exact rfl)); omega) | (apply s_geq_f; (iterate 5 (exact rfl)); omega)
      | (apply s_ldF tab_ok; (iterate 5 (exact rfl)); exact hP; exact rfl)
      | refine al_nil ?_ | refine q_then_n ?_ | refine q_then_r ?_ | refine aw_seq ?_ | refine aw_reg ?_
      | refine aw_true rfl ?_ | refine aw_false rfl ?_ | refine aw_skip ?_ | refine aw_ret ?_)
    exact q_ret rfl ⟨rfl, rfl⟩
  · obtain ⟨j, rfl⟩ : ∃ j : Nat, x = j := ⟨x.toNat, by omega⟩
    by_cases h1 : W.handles.length ≤ j
    · have hw : W.wrong j = 4 := by unfold AW.wrong; rw [if_pos (.inr (by omega))]
      rw [hw]
      repeat' (first
      | refine s_op rfl ?_ | (apply s_skip; exact rfl) | (apply s_move; (iterate 4 (exact rfl))) | (apply s_fa_p tab_ok; (iterate 5 (exact rfl))) | (apply s_fa_f tab_ok; (iterate 6 (exact rfl)))
      | (apply s_ld_p tab_ok; (iterate 7 (exact rfl))) | (apply s_ld_f tab_ok; (iterate 6 (exact rfl))) | (apply s_ld_w tab_ok; (iterate 5 (exact rfl)); (first | exact patD_len _ | exact valD_len _)) | (apply s_assign; (iterate 4 (exact rfl))) | (apply s_pick_t; (iterate 5 (exact rfl)))
      | (apply s_pick_f; (iterate 5 (exact rfl))) | (apply s_len tab_ok; (iterate 5 (exact rfl))) | (apply s_lens str_ok; (iterate 4 (exact rfl))) | (apply s_idx tab_ok; (iterate 7 (exact rfl)); (first | exact patR_get (by assumption) | exact valR_get (by assumption) | exact row_map (by assumption) | assumption)) | (apply s_nilc; (iterate 5 (exact rfl)))
      | (apply s_lss_t; (iterate 5 (exact rfl)); omega) | (apply s_lss_f; (iterate 5 (exact rfl)); omega) | (apply s_geq_t; (iterate 5 (exact rfl)); omega) | (apply s_geq_f; (iterate 5 (exact rfl)); omega)
      | (apply s_ldF tab_ok; (iterate 5 (exact rfl)); exact hP; exact rfl)
      | refine al_nil ?_ | refine q_then_n ?_ | refine q_then_r ?_ | refine aw_seq ?_ | refine aw_reg ?_
      | refine aw_true rfl ?_ | refine aw_false rfl ?_ | refine aw_skip ?_ | refine aw_ret ?_)
      exact q_ret rfl ⟨rfl, rfl⟩
    · obtain ⟨y, hy⟩ : ∃ y, W.handles[j]? = some y := ⟨_, List.getElem?_eq_getElem (by omega)⟩
      have hw : W.wrong j = if y.shut then 220 else 0 := by
        unfold AW.wrong
        rw [if_neg (by omega), Int.toNat_natCast, hy]
      have hyr := map_get (f := hD) hy
      rw [hw]
      cases hs : y.shut
      · simp only [hD, hs, Bool.false_eq_true, if_false] at hyr ⊢
        repeat' (first
      | refine s_op rfl ?_ | (apply s_skip; exact rfl) | (apply s_move; (iterate 4 (exact rfl))) | (apply s_fa_p tab_ok; (iterate 5 (exact rfl))) | (apply s_fa_f tab_ok; (iterate 6 (exact rfl)))
      | (apply s_ld_p tab_ok; (iterate 7 (exact rfl))) | (apply s_ld_f tab_ok; (iterate 6 (exact rfl))) | (apply s_ld_w tab_ok; (iterate 5 (exact rfl)); (first | exact patD_len _ | exact valD_len _)) | (apply s_assign; (iterate 4 (exact rfl))) | (apply s_pick_t; (iterate 5 (exact rfl)))
      | (apply s_pick_f; (iterate 5 (exact rfl))) | (apply s_len tab_ok; (iterate 5 (exact rfl))) | (apply s_lens str_ok; (iterate 4 (exact rfl))) | (apply s_idx tab_ok; (iterate 7 (exact rfl)); (first | exact patR_get (by assumption) | exact valR_get (by assumption) | exact row_map (by assumption) | assumption)) | (apply s_nilc; (iterate 5 (exact rfl)))
      | (apply s_lss_t; (iterate 5 (exact rfl)); omega) | (apply s_lss_f; (iterate 5 (exact rfl)); omega) | (apply s_geq_t; (iterate 5 (exact rfl)); omega) | (apply s_geq_f; (iterate 5 (exact rfl)); omega)
      | (apply s_ldF tab_ok; (iterate 5 (exact rfl)); exact hP; exact rfl)
      | (apply s_idxO _ tab_ok; (iterate 7 (exact rfl)); exact hH; exact ⟨by omega, rfl⟩)
      | (apply s_ldA j 0 tab_ok (r := [.v (.int .i64 (y.file : Int)), .v (.int .i64 (y.pos : Int))]); (iterate 5 (exact rfl)); exact hH; exact hyr; omega; exact rfl)
      | refine al_nil ?_ | refine q_then_n ?_ | refine q_then_r ?_ | refine aw_seq ?_ | refine aw_reg ?_
      | refine aw_true rfl ?_ | refine aw_false rfl ?_ | refine aw_skip ?_ | refine aw_ret ?_)
        exact q_ret rfl ⟨rfl, rfl⟩
      · simp only [hD, hs, if_true] at hyr ⊢
        repeat' (first
      | refine s_op rfl ?_ | (apply s_skip; exact rfl) | (apply s_move; (iterate 4 (exact rfl))) | (apply s_fa_p tab_ok; (iterate 5 (exact rfl))) | (apply s_fa_f tab_ok; (iterate 6 (exact rfl)))
      | (apply s_ld_p tab_ok; (iterate 7 (exact rfl))) | (apply s_ld_f tab_ok; (iterate 6 (exact rfl))) | (apply s_ld_w tab_ok; (iterate 5 (exact rfl)); (first | exact patD_len _ | exact valD_len _)) | (apply s_assign; (iterate 4 (exact rfl))) | (apply s_pick_t; (iterate 5 (exact rfl)))
      | (apply s_pick_f; (iterate 5 (exact rfl))) | (apply s_len tab_ok; (iterate 5 (exact rfl))) | (apply s_lens str_ok; (iterate 4 (exact rfl))) | (apply s_idx tab_ok; (iterate 7 (exact rfl)); (first | exact patR_get (by assumption) | exact valR_get (by assumption) | exact row_map (by assumption) | assumption)) | (apply s_nilc; (iterate 5 (exact rfl)))
      | (apply s_lss_t; (iterate 5 (exact rfl)); omega) | (apply s_lss_f; (iterate 5 (exact rfl)); omega) | (apply s_geq_t; (iterate 5 (exact rfl)); omega) | (apply s_geq_f; (iterate 5 (exact rfl)); omega)
      | (apply s_ldF tab_ok; (iterate 5 (exact rfl)); exact hP; exact rfl)
      | (apply s_idxO _ tab_ok; (iterate 7 (exact rfl)); exact hH; exact ⟨by omega, rfl⟩)
      | (apply s_ldA j 0 tab_ok (r := [.v (.int .i64 (-1)), .v (.int .i64 (y.pos : Int))]); (iterate 5 (exact rfl)); exact hH; exact hyr; omega; exact rfl)
      | refine al_nil ?_ | refine q_then_n ?_ | refine q_then_r ?_ | refine aw_seq ?_ | refine aw_reg ?_
      | refine aw_true rfl ?_ | refine aw_false rfl ?_ | refine aw_skip ?_ | refine aw_ret ?_)
        exact q_ret rfl ⟨rfl, rfl⟩
end
end Go.Proofs.Ytlpgekodoiioaaa
