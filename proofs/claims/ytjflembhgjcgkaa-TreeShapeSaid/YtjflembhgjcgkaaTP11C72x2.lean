/- C72: walk, whole. -/
import Derived.Test.YtjflembhgjcgkaaTP11C70
import Derived.Test.YtjflembhgjcgkaaTP11XC40C41
import Derived.Test.YtjflembhgjcgkaaTP11C22
import Derived.Test.YtjflembhgjcgkaaTP11XLdLzx2
import Derived.Test.YtjflembhgjcgkaaTP11C10
import Derived.Test.YtjflembhgjcgkaaTP11C58x2
import Derived.Test.YtjflembhgjcgkaaTP11XM6C17C18
set_option linter.unusedSimpArgs false
set_option linter.unusedVariables false
namespace Go.Proofs.Ytjflembhgjcgkaa
open Go.RowKit
section
variable {bk bn bi n : Int} {bs : ByteArray} {p : List Int} {c e : List TreeT} {seen : List (List Int)} {M : List (Int × AV)} {σ : List AObj} {locM : Nat}
set_option maxRecDepth 100000 in
set_option maxHeartbeats 8000000 in
theorem walk_other {k : Int} (hk1 : k ≠ 1) (hk2 : k ≠ 2) (hsl : seen.length ≤ 1000000000) (hel : e.length ≤ 1000000000) (hcl : c.length ≤ 1000000000) (hpl : p.length ≤ 9223372036854775807) (hseen : ∀ x ∈ seen, x.length ≤ 9223372036854775807)
    (hkid : ∀ u ∈ e ++ c, ∀ (M : List (Int × AV)) (σ : List AObj), σ[locM]? = some (.map (entsV (Value.int .i64) M)) → Runs Try.prog 45 [.d (.agg (treeD u)), .d (pathsD (seen ++ [p])), .mp locM] σ (WalkR locM (noneT u) (downT u (seen ++ [p])) (putsM M (armsT u))))
    (hM : σ[locM]? = some (.map (entsV (Value.int .i64) M))) :
    Runs Try.prog 45 [.d (.agg (treeD (.mk bk bn bi bs k n p c e))), .d (pathsD seen), .mp locM] σ (WalkR locM (noneL (e ++ c)) (stepDn k p seen && downL (e ++ c) (seen ++ [p])) (putsM M (armsL (e ++ c)))) := by
  have h1 := has83_c seen p.dropLast (by omega) hseen (by rw [List.length_dropLast]; omega)
  have h2 := has83_c seen p (by omega) hseen hpl
  refine enterB 106 tab_ok Try.func45 rfl (by kernel_rfl) rfl rfl rfl ?_
  repeat' (first
      | refine s_op rfl ?_ | (apply s_skipV; (iterate 2 (exact rfl))) | (apply s_skipU; (iterate 3 (exact rfl))) | (apply s_move; (iterate 4 (exact rfl))) | (apply s_fa_p tab_ok; (iterate 5 (exact rfl)))
      | (apply s_fa_f tab_ok; (iterate 6 (exact rfl))) | (apply s_ld_p tab_ok; (iterate 7 (exact rfl))) | (apply s_ld_f tab_ok; (iterate 6 (exact rfl))) | (apply s_ld_w tab_ok; (iterate 5 (exact rfl)); (first | exact patD_len _ | exact valD_len _ | exact brD_len _ | exact treeD_len _)) | (apply s_assign; (iterate 4 (exact rfl)))
      | (apply s_pick_t; (iterate 5 (exact rfl))) | (apply s_pick_f; (iterate 5 (exact rfl))) | (apply s_len tab_ok; (iterate 5 (exact rfl))) | (apply s_lens str_ok; (iterate 4 (exact rfl))) | (apply s_idx tab_ok; (iterate 7 (exact rfl)); (first | exact patR_get (by assumption) | exact valR_get (by assumption) | exact row_map (by assumption) | exact brR_get (by assumption) | exact treeR_get (by assumption) | assumption))
      | (apply s_slice tab_ok; (iterate 8 (exact rfl)); (simp; omega)) | (apply s_ext; (iterate 5 (exact rfl))) | (apply s_alloc tabZ_ok; (iterate 7 (exact rfl))) | (apply s_boxZ; (iterate 5 (exact rfl)); first | exact rfl | exact allD_mapd _) | (apply s_store tab_ok; (iterate 10 (exact rfl)))
      | (apply s_lit tab_ok tabZ_ok; (iterate 10 (exact rfl))) | (apply s_lit1 tab_ok tabZ_ok; (iterate 9 (exact rfl)); (first | exact patD_len _ | exact valD_len _ | exact brD_len _ | exact treeD_len _)) | (apply s_app tab_ok tabZ_ok; (iterate 13 (exact rfl)); (first | (simp; done) | (simp; omega))) | (apply s_not_t; (iterate 4 (exact rfl))) | (apply s_not_f; (iterate 4 (exact rfl)))
      | (apply s_not; (iterate 4 (exact rfl))) | (apply s_eql_t; (iterate 5 (exact rfl)); omega) | (apply s_eql_f; (iterate 5 (exact rfl)); omega) | (apply s_lss_t; (iterate 5 (exact rfl)); omega) | (apply s_lss_f; (iterate 5 (exact rfl)); omega)
      | (apply s_add64; (iterate 5 (exact rfl)); omega) | (apply s_sub64; (iterate 5 (exact rfl)); omega)
      | (refine w_keep [1, 2, 3, 6, 7] rfl rfl ?_; exact walk_step (bk := bk) (bn := bn) (bi := bi) (bs := bs) hsl hpl List.length_eq_zero_iff h1 h2 (fun X hX => walk_rest (bk := bk) (bn := bn) (bi := bi) (bs := bs) hsl hel hcl hkid hM hX) rfl)
      | refine al_nil ?_ | refine q_then_n ?_ | refine q_blk_n ?_ | refine q_blk_r ?_ | refine q_blk_e ?_
      | refine q_blk_o rfl ?_ | refine q_then_e ?_ | refine aw_block ?_ | refine aw_exit ?_ | refine q_then_r ?_
      | refine aw_seq ?_ | refine aw_reg ?_ | refine aw_true rfl ?_ | refine aw_false rfl ?_ | refine aw_skip ?_
      | refine aw_ret ?_ | refine al_fork ?_ ?_ | refine al_fork3 ?_ ?_ ?_
      | refine aw_draws (id := 8) (trO [1, 3] (.fork 0 (.fork 2 (trO [4, 5, 6, 7] .nil) 4 (.fork 2 (trO [5, 6, 7] .nil) 5 (trO [2, 6, 7] .nil))) 4 (.fork 0 (.fork 2 (trO [5, 6, 7] .nil) 5 (trO [2, 6, 7] .nil)) 5 (trO [0, 2, 6, 7] .nil)))) [0, 2, 4, 5, 6] [2, 6] mixed_ok (by kernel_rfl) ?_)
end
theorem walk_c {locM : Nat} : ∀ (t : TreeT), t.small → ∀ (seen : List (List Int)), seen.length + htT t ≤ 1000000000 → (∀ x ∈ seen, x.length ≤ 9223372036854775807) → ∀ (M : List (Int × AV)) (σ : List AObj), σ[locM]? = some (.map (entsV (Value.int .i64) M)) → Runs Try.prog 45 [.d (.agg (treeD t)), .d (pathsD seen), .mp locM] σ (WalkR locM (noneT t) (downT t seen) (putsM M (armsT t))) := by
  refine rec_tree fun bk bn bi bs k n p c e ihc ihe ht seen hsn hseen M σ hM => ?_
  obtain ⟨hp, hc, he, h1, h2⟩ := ht
  have hlc := htL_len c
  have hle := htL_len e
  simp only [htT] at hsn
  by_cases hk2 : k = 2
  · subst hk2
    exact walk_arm hM
  by_cases hk1 : k = 1
  · subst hk1
    exact walk_none hM
  have hs2 : ∀ x ∈ seen ++ [p], x.length ≤ 9223372036854775807 := fun x hx => by
    rcases List.mem_append.1 hx with h | h
    · exact hseen x h
    · rw [List.mem_singleton.1 h]; exact hp
  have hw := walk_other (bk := bk) (bn := bn) (bi := bi) (bs := bs) (n := n) (M := M) hk1 hk2 (seen := seen) (e := e) (c := c) (p := p) (by omega) (by omega) (by omega) hp hseen (fun u hu M σ hM => by
    rcases List.mem_append.1 hu with h | h
    · have := htL_mem h
      exact ihe u h (TreeT.smallL_mem h2 u h) (seen ++ [p]) (by simp only [List.length_append, List.length_cons, List.length_nil]; omega) hs2 M σ hM
    · have := htL_mem h
      exact ihc u h (TreeT.smallL_mem h1 u h) (seen ++ [p]) (by simp only [List.length_append, List.length_cons, List.length_nil]; omega) hs2 M σ hM) hM
  rw [noneL_append, downL_append, armsL_append] at hw
  simp only [noneT, downT, armsT, if_neg hk1, if_neg hk2, Bool.and_assoc]
  exact hw
end Go.Proofs.Ytjflembhgjcgkaa
/- C23, C25: in one. -/
set_option linter.unusedSimpArgs false
set_option linter.unusedVariables false
/- C23: useful, whole. -/
namespace Go.Proofs.Ytjflembhgjcgkaa
open Go.RowKit

theorem headsL_val {g : Sg} {m A B : Nat} {rows : List (List Pat)} {v : List Pat} (u : UOk g m A B rows v) : ∀ h ∈ headsL rows, (h.kind = 3 ∨ h.kind = 4 ∨ (h.kind = 5 ∧ 0 ≤ h.n ∧ h.n < g.cons.length)) ∧ ∃ p, asksH p = some h := fun h hh => by
  obtain ⟨p, rest, h1, h2⟩ := headsL_mem hh
  exact ⟨(head_of h2 (u.wf _ h1 p (List.mem_cons_self ..)).alone).2.2, p, h2⟩

theorem useful_c {g : Sg} (hs : g.Small) (hsv : Serves g) {m A : Nat} (hm : m ≤ 1000000) (hAm : A ≤ m) (hA : ∀ c ∈ g.cons, c.fields.length ≤ A) : ∀ (f : Nat) (rows : List (List Pat)) (v : List Pat) (B : Nat), UOk g m A B rows v → mu A rows v ≤ m → mu A rows v < f → RunsP Try.prog 63 [.agg (sigD g), rowsD rows, patsD v] (fun x => x = resW (usefulF g f rows v))
  | 0, rows, v, B, u, hB, hf => absurd hf (Nat.not_lt_zero _)
  | f + 1, rows, [], B, u, hB, hf => useful_nil (by omega) (UOk.rowsB (A := A) (B := 0) ⟨u.len, u.wid, Nat.le_refl _, u.small, u.vsmall, u.wf, u.vwf⟩ (by omega))
  | f + 1, rows, v0 :: vs, B, u, hB, hf => by
    have hwd : (v0 :: vs).length ≤ m := Nat.le_trans (by unfold mu; omega) hB
    replace u : UOk g m A (v0 :: vs).length rows (v0 :: vs) := ⟨u.len, u.wid, Nat.le_refl _, u.small, u.vsmall, u.wf, u.vwf⟩
    have hr := u.rowsB hwd
    have hne : ∀ r ∈ rows, r ≠ [] := fun r hr e => by have := u.wid r hr; rw [e] at this; simp at this
    simp only [List.length_cons] at hwd
    have hvl : vs.length ≤ 1000000 := by omega
    cases ha : asksH v0 with
    | some h =>
      have hl : v0.l.length = arityH g h := wf_len ha (u.vwf v0 (List.mem_cons_self ..))
      have hk : v0.l.length ≤ A := by rw [hl]; exact arity_le hA h
      have hmu : mu A (belowL rows h v0.l.length) (v0.l ++ vs) < mu A rows (v0 :: vs) := mu_con ha hk
      have u' := u.below (h := h) (kids := v0.l) hk (fun p hp hw => by rw [hl]; exact wf_len hp hw) (small_kids (u.vsmall v0 (List.mem_cons_self ..))).each (u.vwf v0 (List.mem_cons_self ..)).kids
      have ih := useful_c hs hsv hm hAm hA f _ _ _ u' (by omega) (by omega)
      refine useful_asks hvl ha (o := withF (usefulF g f) rows vs h v0 v0.l) ?_ (by simp only [usefulF]; rw [ha])
      obtain ⟨k, n, i, s, a, b, c, l⟩ := v0
      exact with_c g m (by omega) rows _ vs l k n i s a b c l h ha hr hne (by simp only [Pat.l] at hk; omega) (by omega) (usefulF g f (belowL rows h l.length) (l ++ vs)) (fun w hw => by rw [usefulF_len g f _ _ _ hw, List.length_append]) ih
    | none =>
      have ho := none_open ha (u.vwf v0 (List.mem_cons_self ..)).alone
      have hval := headsL_val u
      have hfr := fresh_c g hs hsv (headsL rows) (Nat.le_trans (headsL_len rows) (by have := u.len; omega)) fun h hh => (hval h hh).1
      have hall : ∀ h ∈ headsL rows, (h.kind = 3 ∨ h.kind = 4 ∨ (h.kind = 5 ∧ 0 ≤ h.n ∧ h.n < g.cons.length)) ∧ RunsP Try.prog 90 [.agg (patD (patH h)), patsD (anysL (arityH g h)), .fptr (sigD g), .fptr [rowsD rows], .fptr [patsD (v0 :: vs)]] (fun x => x = resW (trialR g f rows vs h)) := fun h hh => by
        refine ⟨(hval h hh).1, ?_⟩
        obtain ⟨p, hp⟩ := (hval h hh).2
        have hk : (anysL (arityH g h)).length ≤ A := by simp [anysL]; exact arity_le hA h
        have hmu : mu A (belowL rows h (anysL (arityH g h)).length) (anysL (arityH g h) ++ vs) < mu A rows (v0 :: vs) := mu_head hh (arity_le hA h)
        have u' := u.below (h := h) (kids := anysL (arityH g h)) hk (fun p hp hw => by rw [show (anysL (arityH g h)).length = arityH g h by simp [anysL]]; exact wf_len hp hw) (small_anys m _) (wf_anys g _)
        have ih := useful_c hs hsv hm hAm hA f _ _ _ u' (by omega) (by omega)
        exact with_c g m (by omega) rows v0 vs (anysL (arityH g h)) h.kind h.n h.i h.s 0 0 0 [] h (asks_patH (g := g) hp) hr hne (by omega) (by omega) (usefulF g f (belowL rows h (anysL (arityH g h)).length) (anysL (arityH g h) ++ vs)) (fun w hw => by rw [usefulF_len g f _ _ _ hw, List.length_append]) ih
      have hmo : mu A (othersL rows) vs < mu A rows (v0 :: vs) := mu_others
      have iho := useful_c hs hsv hm hAm hA f (othersL rows) vs _ u.others (by omega) (by omega)
      have hun : usefulF g (f + 1) rows (v0 :: vs) = match freshP g (headsL rows), usefulF g f (othersL rows) vs with
        | some p, some w => some (p :: w)
        | _, _ => (headsL rows).findSome? (trialR g f rows vs) := by simp only [usefulF]; rw [ha]; rfl
      rw [hun]
      cases hp : freshP g (headsL rows) with
      | none => exact useful_loop2 hs (by omega) hr hne hvl ho hfr hp hall
      | some p =>
        cases hw : usefulF g f (othersL rows) vs with
        | none =>
          rw [hw] at iho
          exact useful_loop1 hs (by omega) hr hne hvl ho hfr hp iho hall
        | some w =>
          rw [hw] at iho
          exact useful_found hs (by omega) hr hne hvl ho hfr hp (by rw [usefulF_len g f _ _ _ hw]; omega) iho
end Go.Proofs.Ytjflembhgjcgkaa

/- C25: May, Check, of the program; the document's Witness. -/
namespace Go.Proofs.Ytjflembhgjcgkaa
open Go.RowKit

def zeroP : Pat := .mk 0 0 0 ⟨#[]⟩ 0 0 0 []
def resC (p : Pat) (n e : Int) : DV := .tup [.agg (patD p), .v (.int .i64 n), .v (.int .i64 e)]
theorem wk_resC (n e : Int) : Wk (.tup [.agg [.v (.int .u8 0), .v (.int .i64 0), .v (.int .i64 0), .v (.string ⟨#[]⟩), .v (.int .i64 0), .v (.int .i64 0), .v (.int .i64 0), .nil], .v (.int .i64 n), .v (.int .i64 e)]) (resC zeroP n e) :=
  Wk.tup (.cons (Wk.agg (wkL_patnil (Wk.nil 8))) (.cons (.refl _) (.cons (.refl _) .nil)))

section
variable {g : Sg} {l : List Pat}
set_option maxRecDepth 100000 in
theorem check_bad (hmay : RunsP Try.prog 24 [.agg (sigD g), patsD l] (fun v => v = .v (.int .i64 2))) : RunsP Try.prog 22 [.agg (sigD g), patsD l] (fun v => v = resC zeroP 0 2) := by
  refine RunsP.weak ?_
  refine enterPB 57 tab_ok Try.func22 rfl (by kernel_rfl) rfl rfl rfl ?_
  repeat' (first | refine s_op rfl ?_ | (apply s_move; (iterate 4 (exact rfl))) | (apply s_ld_f tab_ok; (iterate 6 (exact rfl))) | (apply s_assign; (iterate 4 (exact rfl))) | (apply s_build tabZ_ok; (iterate 5 (exact rfl))) | (apply s_alloc tabZ_ok; (iterate 7 (exact rfl))) | (apply s_boxZ; (iterate 5 (exact rfl)); first | exact rfl | exact allD_mapd _) | (apply s_store tab_ok; (iterate 10 (exact rfl))) | (apply s_neq_t; (iterate 5 (exact rfl)); omega) | (apply s_call; (iterate 6 (exact rfl)); first | (exact hmay; rintro _ rfl)) | refine al_nil ?_ | refine q_then_n ?_ | refine q_then_r ?_ | refine aw_seq ?_ | refine aw_reg ?_ | refine aw_true rfl ?_ | refine aw_ret ?_)
  all_goals exact q_retB (resB_3 rfl (resV_c (t := 41) rfl rfl rfl rfl) (resV_t rfl) (resV_t rfl) rfl) ⟨_, rfl, wk_resC 0 2⟩

set_option maxRecDepth 100000 in
set_option maxHeartbeats 4000000 in
theorem check_miss (hmay : RunsP Try.prog 24 [.agg (sigD g), patsD l] (fun v => v = .v (.int .i64 0))) (hl : l.length ≤ 10000000) {p : Pat} (hu : RunsP Try.prog 63 [.agg (sigD g), rowsD (onesL l), patsD (anysL 1)] (fun v => v = resW (some [p]))) : RunsP Try.prog 22 [.agg (sigD g), patsD l] (fun v => v = resC p 0 150) := by
  have hr := rows_c l hl
  have ha := anys_c 1 (by omega)
  obtain ⟨pk, pn, pi, ps, pa, pb, pc, pl⟩ := p
  have h0 : [Pat.mk pk pn pi ps pa pb pc pl][0]? = some (Pat.mk pk pn pi ps pa pb pc pl) := rfl
  refine enterPB 57 tab_ok Try.func22 rfl (by kernel_rfl) rfl rfl rfl ?_
  repeat' (first | refine s_op rfl ?_ | (apply s_move; (iterate 4 (exact rfl))) | (apply s_ld_f tab_ok; (iterate 6 (exact rfl))) | (apply s_assign; (iterate 4 (exact rfl))) | (apply s_idx tab_ok; (iterate 7 (exact rfl)); (first | exact patR_get (by assumption) | exact valR_get (by assumption) | exact row_map (by assumption) | assumption)) | (apply s_ext; (iterate 5 (exact rfl))) | (apply s_alloc tabZ_ok; (iterate 7 (exact rfl))) | (apply s_boxZ; (iterate 5 (exact rfl)); first | exact rfl | exact allD_mapd _) | (apply s_store tab_ok; (iterate 10 (exact rfl))) | (apply s_neq_f; (iterate 5 (exact rfl)); omega) | (apply s_call; (iterate 6 (exact rfl)); first | (exact hmay; rintro _ rfl) | (exact hr; rintro _ rfl) | (exact ha; rintro _ rfl) | (exact hu; rintro _ rfl)) | refine al_nil ?_ | refine q_then_n ?_ | refine q_then_r ?_ | refine aw_seq ?_ | refine aw_reg ?_ | refine aw_true rfl ?_ | refine aw_false rfl ?_ | refine aw_skip ?_ | refine aw_ret ?_ | refine aw_draws (id := 4) (trO [0, 1, 2, 3, 4, 5, 6, 7, 8, 9] .nil) [2, 3, 4] [] mixed_ok (by kernel_rfl) ?_)
  all_goals exact q_retB (resB_3 rfl (resV_c (t := 41) rfl rfl rfl rfl) (resV_t rfl) (resV_t rfl) rfl) ⟨_, rfl, rfl⟩

/-- The first one that is useless. -/
def firstB (u : Nat → Bool) (n : Nat) : Option Nat := (List.range n).find? fun i => !u i
theorem firstB_none {u : Nat → Bool} {n : Nat} (h : ∀ i, i < n → u i = true) : firstB u n = none := by
  unfold firstB
  rw [List.find?_eq_none]
  intro i hi
  simp [h i (List.mem_range.1 hi)]
theorem firstB_at {u : Nat → Bool} {n k : Nat} (h : ∀ i, i < k → u i = true) (hk : k < n) (hu : u k = false) : firstB u n = some k := by
  unfold firstB
  rw [List.find?_eq_some_iff_getElem]
  refine ⟨by simp [hu], k, by simpa using hk, by simp, fun j hj => ?_⟩
  simp [h j hj]
def doneC (u : Nat → Bool) (n : Nat) : DV := match firstB u n with | some k => resC zeroP k 151 | none => resC zeroP 0 0

set_option maxRecDepth 100000 in
set_option maxHeartbeats 8000000 in
theorem check_loop (hmay : RunsP Try.prog 24 [.agg (sigD g), patsD l] (fun v => v = .v (.int .i64 0))) (hl : l.length ≤ 10000000) (hu : RunsP Try.prog 63 [.agg (sigD g), rowsD (onesL l), patsD (anysL 1)] (fun v => v = resW none))
    {o : Nat → Option (List Pat)} (hk : ∀ k p, l[k]? = some p → RunsP Try.prog 63 [.agg (sigD g), rowsD (onesL (l.take k)), patsD [p]] (fun v => v = resW (o k))) : RunsP Try.prog 22 [.agg (sigD g), patsD l] (fun v => v = doneC (fun i => (o i).isSome) l.length) := by
  refine RunsP.weak ?_
  have hr := rows_c l hl
  have ha := anys_c 1 (by omega)
  have e1 := patR_len l
  refine enterPB 57 tab_ok Try.func22 rfl (by kernel_rfl) rfl rfl rfl ?_
  repeat' (first | refine s_op rfl ?_ | (apply s_move; (iterate 4 (exact rfl))) | (apply s_ld_f tab_ok; (iterate 6 (exact rfl))) | (apply s_assign; (iterate 4 (exact rfl))) | (apply s_len tab_ok; (iterate 5 (exact rfl))) | (apply s_ext; (iterate 5 (exact rfl))) | (apply s_boxZ; (iterate 5 (exact rfl)); first | exact rfl | exact allD_mapd _) | (apply s_neq_f; (iterate 5 (exact rfl)); omega) | (apply s_allocF tabZ_ok (t := 41); (iterate 6 (exact rfl)); intro locH σ hc; have hH := hc.at'; clear hc) | (apply s_call; (iterate 6 (exact rfl)); first | (exact hmay; rintro _ rfl) | (exact hr; rintro _ rfl) | (exact ha; rintro _ rfl) | (exact hu; rintro _ rfl)) | refine al_nil ?_ | refine q_then_n ?_ | refine aw_block ?_ | refine aw_seq ?_ | refine aw_reg ?_ | refine aw_false rfl ?_ | refine aw_skip ?_ | refine aw_draws (id := 4) (trO [0, 1, 2, 3, 4, 5, 6, 7, 8, 9] .nil) [2, 3, 4] [] mixed_ok (by kernel_rfl) ?_)
  clear hr
  refine w_loop [1, 2, 4, 33, 34, 35] (fun n' vs σ => ∃ k : Nat, vs = [.d (patsD l), .d (.fptr (sigD g)), .ptr locH 0 0, .d (patsD l), .d (.v (.int .i64 ((patR l).length : Int))), .d (.v (.int .i64 (k : Int)))] ∧ σ[locH]? = some (.row 41 ([.v (.int .u8 0), .v (.int .i64 0), .v (.int .i64 0), .v (.string ⟨#[]⟩), .v (.int .i64 0), .v (.int .i64 0), .v (.int .i64 0), .nil].map .d)) ∧ k ≤ l.length ∧ n' = l.length - k ∧ ∀ i, i < k → (o i).isSome = true) rfl ⟨0, rfl, hH, by omega, rfl, fun i hi => absurd hi (Nat.not_lt_zero i)⟩ ?_
  clear hH
  rintro n' vs σ ⟨k, rfl, hH, hkl, rfl, hdone⟩ fr hfr2
  cases hfr2
  by_cases hlt : k < l.length
  · obtain ⟨p, hp⟩ := getS hlt
    have hk' := hk k p hp
    have hr := rows_c (l.take k) (by rw [List.length_take]; omega)
    obtain ⟨pk, pn, pi, ps, pa, pb, pc, pl⟩ := p
    cases ho : o k with
    | some w =>
      rw [ho] at hk'
      repeat' (first | refine s_op rfl ?_ | (apply s_move; (iterate 4 (exact rfl))) | (apply s_ld_f tab_ok; (iterate 6 (exact rfl))) | (apply s_assign; (iterate 4 (exact rfl))) | (apply s_idx tab_ok; (iterate 7 (exact rfl)); (first | exact patR_get (by assumption) | exact valR_get (by assumption) | exact row_map (by assumption) | assumption)) | (apply s_ext; (iterate 5 (exact rfl))) | (apply s_lit tab_ok tabZ_ok; (iterate 10 (exact rfl))) | (apply s_not_t; (iterate 4 (exact rfl))) | (apply s_lss_t; (iterate 5 (exact rfl)); omega) | (apply s_add64; (iterate 5 (exact rfl)); omega) | (apply s_allocF tabZ_ok (t := 41); (iterate 6 (exact rfl)); intro locX σ hc; have hX := hc.at'; have nHX := hc.ne hH; replace hH := hc.keep hH; clear hc) | (apply s_storeF tab_ok; (iterate 7 (exact rfl)); exact hX; (iterate 2 (exact rfl)); intro σ hc; replace hH := hc.keep nHX hH; replace hX := hc.at'; clear hc) | (apply s_ldF tab_ok; (iterate 5 (exact rfl)); exact hX; exact rfl) | (apply s_sliceE tab_ok (rows := patR l) (lw := none) (rows' := patR (l.take k)); (iterate 8 (exact rfl)); (simp; omega); exact (by rw [patR_take]; simp)) | (apply s_call; (iterate 6 (exact rfl)); first | (exact hr; rintro _ rfl) | (exact hk'; rintro _ rfl)) | refine al_nil ?_ | refine q_then_n ?_ | refine q_blk_n ?_ | refine aw_block ?_ | refine aw_seq ?_ | refine aw_reg ?_ | refine aw_true rfl ?_ | refine aw_false rfl ?_ | refine aw_skip ?_ | refine al_fork ?_ ?_ | refine aw_draws (id := 10) (trO [0, 1, 2, 3, 5] (.fork 4 (trO [6, 7, 8, 9, 10, 11, 12] .nil) 6 (trO [4, 7, 8, 9, 10, 11, 12] .nil))) [4, 6, 7] [] mixed_ok (by kernel_rfl) ?_)
      all_goals exact ⟨_, _, rfl, by omega, k + 1, rfl, hH, by omega, rfl, fun i hi => by
        by_cases e : i = k
        · rw [e, ho]; rfl
        · exact hdone i (by omega)⟩
    | none =>
      rw [ho] at hk'
      have hf : firstB (fun i => (o i).isSome) l.length = some k := firstB_at (u := fun i => (o i).isSome) hdone hlt (by simp [ho])
      unfold doneC
      rw [hf]
      repeat' (first | refine s_op rfl ?_ | (apply s_move; (iterate 4 (exact rfl))) | (apply s_ld_f tab_ok; (iterate 6 (exact rfl))) | (apply s_assign; (iterate 4 (exact rfl))) | (apply s_idx tab_ok; (iterate 7 (exact rfl)); (first | exact patR_get (by assumption) | exact valR_get (by assumption) | exact row_map (by assumption) | assumption)) | (apply s_ext; (iterate 5 (exact rfl))) | (apply s_build tabZ_ok; (iterate 5 (exact rfl))) | (apply s_lit tab_ok tabZ_ok; (iterate 10 (exact rfl))) | (apply s_not_f; (iterate 4 (exact rfl))) | (apply s_lss_t; (iterate 5 (exact rfl)); omega) | (apply s_allocF tabZ_ok (t := 41); (iterate 6 (exact rfl)); intro locX σ hc; have hX := hc.at'; have nHX := hc.ne hH; replace hH := hc.keep hH; clear hc) | (apply s_storeF tab_ok; (iterate 7 (exact rfl)); exact hX; (iterate 2 (exact rfl)); intro σ hc; replace hH := hc.keep nHX hH; replace hX := hc.at'; clear hc) | (apply s_ldF tab_ok; (iterate 5 (exact rfl)); exact hX; exact rfl) | (apply s_storeF tab_ok; (iterate 7 (exact rfl)); exact hH; (iterate 2 (exact rfl)); intro σ hc; replace hH := hc.at'; clear hc) | (apply s_sliceE tab_ok (rows := patR l) (lw := none) (rows' := patR (l.take k)); (iterate 8 (exact rfl)); (simp; omega); exact (by rw [patR_take]; simp)) | (apply s_call; (iterate 6 (exact rfl)); first | (exact hr; rintro _ rfl) | (exact hk'; rintro _ rfl)) | refine al_nil ?_ | refine q_then_n ?_ | refine q_blk_r ?_ | refine aw_block ?_ | refine q_then_r ?_ | refine aw_seq ?_ | refine aw_reg ?_ | refine aw_true rfl ?_ | refine aw_skip ?_ | refine aw_ret ?_ | refine al_fork ?_ ?_ | refine aw_draws (id := 10) (trO [0, 1, 2, 3, 5] (.fork 4 (trO [6, 7, 8, 9, 10, 11, 12] .nil) 6 (trO [4, 7, 8, 9, 10, 11, 12] .nil))) [4, 6, 7] [] mixed_ok (by kernel_rfl) ?_)
      all_goals exact q_retB (resB_3 rfl (resV_c (t := 41) rfl rfl hH rfl) (resV_t rfl) (resV_t rfl) rfl) ⟨_, rfl, wk_resC k 151⟩
  · have hf : firstB (fun i => (o i).isSome) l.length = none := firstB_none (u := fun i => (o i).isSome) fun i hi => hdone i (by omega)
    unfold doneC
    rw [hf]
    repeat' (first | refine s_op rfl ?_ | (apply s_assign; (iterate 4 (exact rfl))) | (apply s_build tabZ_ok; (iterate 5 (exact rfl))) | (apply s_lss_f; (iterate 5 (exact rfl)); omega) | (apply s_storeF tab_ok; (iterate 7 (exact rfl)); exact hH; (iterate 2 (exact rfl)); intro σ hc; replace hH := hc.at'; clear hc) | refine al_nil ?_ | refine q_then_n ?_ | refine q_blk_e ?_ | refine q_then_e ?_ | refine aw_exit ?_ | refine aw_seq ?_ | refine aw_reg ?_ | refine aw_false rfl ?_ | refine aw_ret ?_)
    all_goals exact q_retB (resB_3 rfl (resV_c (t := 41) rfl rfl hH rfl) (resV_t rfl) (resV_t rfl) rfl) ⟨_, rfl, wk_resC 0 0⟩
end
end Go.Proofs.Ytjflembhgjcgkaa
