/- C22: fresh, useful, of the program. -/
import Derived.Test.YtjflembhgjcgkaaTP11XM8C21
import Derived.Test.YtjflembhgjcgkaaTP11C9
set_option linter.unusedSimpArgs false
set_option linter.unusedVariables false
namespace Go.Proofs.Ytjflembhgjcgkaa
open Go.RowKit

theorem asks_open : ∀ {p : Pat} {h : Head}, asksH p = some h → openB p = false
  | .mk k n i s a b c l, h, e => decide_eq_false (by
    show ¬ (k = 1 ∨ k = 2)
    rcases asks_cases k n i s a b c l with ⟨q, _⟩ | ⟨q, _⟩ | ⟨q, _⟩ | ⟨_, _, _, q⟩
    · omega
    · omega
    · omega
    · rw [q] at e; cases e)
theorem none_open {g : Sg} : ∀ {p : Pat}, asksH p = none → aloneB g p = true → openB p = true
  | .mk k n i s a b c l, e, h => by
    rcases asks_cases k n i s a b c l with ⟨_, q⟩ | ⟨_, q⟩ | ⟨_, q⟩ | ⟨h3, h4, h5, _⟩
    · rw [q] at e; cases e
    · rw [q] at e; cases e
    · rw [q] at e; cases e
    · refine decide_eq_true ?_
      show k = 1 ∨ k = 2
      by_cases h1 : k = 1
      · exact .inl h1
      by_cases h2 : k = 2
      · exact .inr h2
      simp [aloneB, h1, h2, h3, h4, h5] at h
/-- What a head says of a pattern that may be. -/
theorem head_of {g : Sg} : ∀ {p : Pat} {h : Head}, asksH p = some h → aloneB g p = true → h.kind = p.kind ∧ p.l.length = arityH g h ∧ (h.kind = 3 ∨ h.kind = 4 ∨ (h.kind = 5 ∧ 0 ≤ h.n ∧ h.n < g.cons.length))
  | .mk k n i s a b c l, h, e, ha => by
    unfold arityH
    rcases asks_cases k n i s a b c l with ⟨q, e'⟩ | ⟨q, e'⟩ | ⟨q, e'⟩ | ⟨_, _, _, e'⟩ <;> rw [e'] at e
    · injection e with e; subst e
      exact ⟨q.symm, by rw [if_neg (show ¬ (3 : Int) = 5 by decide), alone_leaf ha (by simp only [Pat.kind]; omega)]; rfl, .inl rfl⟩
    · injection e with e; subst e
      exact ⟨q.symm, by rw [if_neg (show ¬ (4 : Int) = 5 by decide), alone_leaf ha (by simp only [Pat.kind]; omega)]; rfl, .inr (.inl rfl)⟩
    · injection e with e; subst e
      obtain ⟨c1, c2, c3⟩ := alone_con ha q
      exact ⟨q.symm, by rw [if_pos rfl]; exact c3, .inr (.inr ⟨rfl, c1, c2⟩)⟩
    · cases e
theorem wf_len {g : Sg} {p : Pat} {h : Head} (e : asksH p = some h) (w : Wf g p) : p.l.length = arityH g h := (head_of e w.alone).2.1
theorem asks_patH {g : Sg} {p : Pat} {h : Head} (e : asksH p = some h) : asksH (patH h) = some h := by
  obtain ⟨k, n, i, s, a, b, c, l⟩ := p
  rcases asks_cases k n i s a b c l with ⟨q, e'⟩ | ⟨q, e'⟩ | ⟨q, e'⟩ | ⟨_, _, _, e'⟩ <;> rw [e'] at e
  · injection e with e; subst e; simp [patH, asksH]
  · injection e with e; subst e; simp [patH, asksH]
  · injection e with e; subst e; simp [patH, asksH]
  · cases e
theorem arity_le {g : Sg} {A : Nat} (hA : ∀ c ∈ g.cons, c.fields.length ≤ A) (h : Head) : arityH g h ≤ A := by
  unfold arityH
  split
  · unfold Sg.arity
    split
    · rename_i c hc
      obtain ⟨m, _, hm⟩ := con_nat hc
      exact hA c (List.mem_of_getElem? hm)
    · exact Nat.zero_le _
  · exact Nat.zero_le _

def freshQ (g : Sg) (l : List Head) (v : DV) : Prop := match freshP g l with
  | some p => v = .tup [.agg (patD p), .v (.bool true)]
  | none => ∃ z : Int, v = .tup [.agg [.v (.int .u8 5), .v (.int .i64 z), .v (.int .i64 0), .v (.string ⟨#[]⟩), .v (.int .i64 0), .v (.int .i64 0), .v (.int .i64 0), .nil], .v (.bool false)]
theorem fresh_c (g : Sg) (hs : g.Small) (hsv : Serves g) (l : List Head) (hl : l.length ≤ 10000000) (hv : ∀ h ∈ l, h.kind = 3 ∨ h.kind = 4 ∨ (h.kind = 5 ∧ 0 ≤ h.n ∧ h.n < g.cons.length)) : RunsP Try.prog 94 [.agg (sigD g), headsD l] (freshQ g l) := by
  unfold freshQ
  cases l with
  | nil => exact fresh_nil g
  | cons h0 t =>
    obtain ⟨k, n, i, s⟩ := h0
    have := hv _ (List.mem_cons_self ..)
    simp only at this
    simp only [freshP]
    by_cases h3 : k = 3
    · rw [if_pos h3]; subst h3; exact fresh_int g n i s t hl
    rw [if_neg h3]
    by_cases h4 : k = 4
    · rw [if_pos h4]; subst h4; exact fresh_str g n i s t hl
    rw [if_neg h4]
    obtain ⟨h5, h6, h7⟩ : k = 5 ∧ 0 ≤ n ∧ n < g.cons.length := by omega
    subst h5
    obtain ⟨m0, rfl⟩ : ∃ m0 : Nat, n = m0 := ⟨n.toNat, by omega⟩
    refine (fresh_con g hs hsv m0 i s t hl (by omega)).mono fun v h => ?_
    cases hf : (g.consOf (g.dataOf m0)).find? fun c => decide (headC c ∉ (⟨5, (m0 : Int), i, s⟩ :: t : List Head)) with
    | none => rw [hf] at h; exact h
    | some c => rw [hf] at h; exact h

theorem findSome_here {α β : Type} {f : α → Option β} : ∀ {l : List α} {k : Nat} {x : α} {y : β}, (∀ j z, j < k → l[j]? = some z → f z = none) → l[k]? = some x → f x = some y → l.findSome? f = some y
  | [], _, _, _, _, h, _ => by simp at h
  | a :: l, 0, x, y, _, h, hp => by simp at h; subst h; simp [hp]
  | a :: l, k + 1, x, y, h1, h, hp => by
    have ha := h1 0 a (by omega) rfl
    rw [List.findSome?_cons, ha]
    exact findSome_here (k := k) (fun j z hj hz => h1 (j + 1) z (by omega) (by simpa using hz)) (by simpa using h) hp
theorem findSome_not {α β : Type} {f : α → Option β} {l : List α} (h : ∀ (j : Nat) (z : α), l[j]? = some z → f z = none) : l.findSome? f = none := by
  rw [List.findSome?_eq_none_iff]
  intro x hx
  obtain ⟨j, hj⟩ := List.getElem?_of_mem hx
  exact h j x hj

/-- What is handed to the loop over the heads. -/
def trialR (g : Sg) (f : Nat) (rows : List (List Pat)) (vs : List Pat) (h : Head) : Option (List Pat) := withF (usefulF g f) rows vs h (patH h) (anysL (arityH g h))

section
variable {g : Sg} {m f : Nat} {rows : List (List Pat)} {v0 : Pat} {vs : List Pat}

set_option maxRecDepth 100000 in
set_option maxHeartbeats 4000000 in
theorem useful_nil (hm : m ≤ 10000000) (hr : RowsB m rows) : RunsP Try.prog 63 [.agg (sigD g), rowsD rows, patsD []] (fun x => x = resW (usefulF g (f + 1) rows [])) := by
  refine RunsP.weak ?_
  have e0 : (patR []).length = 0 := rfl
  have e1 := rowsD_len rows
  have l1 := hr.len
  refine enterPB 104 tab_ok Try.func63 rfl (by kernel_rfl) rfl rfl rfl ?_
  cases rows with
  | nil =>
    have e2 : (([] : List (List Pat)).map rowD).length = 0 := rfl
    repeat' (first | refine s_op rfl ?_ | (apply s_ld_f tab_ok; (iterate 6 (exact rfl))) | (apply s_assign; (iterate 4 (exact rfl))) | (apply s_len tab_ok; (iterate 5 (exact rfl))) | (apply s_boxZ; (iterate 5 (exact rfl)); first | exact rfl | exact allD_mapd _) | (apply s_eql_t; (iterate 5 (exact rfl)); omega) | refine al_nil ?_ | refine q_then_n ?_ | refine q_then_r ?_ | refine aw_seq ?_ | refine aw_reg ?_ | refine aw_true rfl ?_ | refine aw_ret ?_ | refine aw_draws (id := 2) (trO [0, 1, 2, 3, 4] .nil) [] [] mixed_ok (by kernel_rfl) ?_)
    all_goals exact q_retB (resB_2 rfl (resV_t rfl) (resV_t rfl) rfl) ⟨_, rfl, Wk.tup (.cons (Wk.nil 8) (.cons (.refl _) .nil))⟩
  | cons r rows =>
    have e2 : ((r :: rows).map rowD).length = rows.length + 1 := by simp
    repeat' (first | refine s_op rfl ?_ | (apply s_ld_f tab_ok; (iterate 6 (exact rfl))) | (apply s_assign; (iterate 4 (exact rfl))) | (apply s_len tab_ok; (iterate 5 (exact rfl))) | (apply s_boxZ; (iterate 5 (exact rfl)); first | exact rfl | exact allD_mapd _) | (apply s_eql_t; (iterate 5 (exact rfl)); omega) | (apply s_eql_f; (iterate 5 (exact rfl)); omega) | refine al_nil ?_ | refine q_then_n ?_ | refine q_then_r ?_ | refine aw_seq ?_ | refine aw_reg ?_ | refine aw_true rfl ?_ | refine aw_ret ?_ | refine aw_draws (id := 2) (trO [0, 1, 2, 3, 4] .nil) [] [] mixed_ok (by kernel_rfl) ?_)
    all_goals exact q_retB (resB_2 rfl (resV_t rfl) (resV_t rfl) rfl) ⟨_, rfl, Wk.refl _⟩

set_option maxRecDepth 100000 in
set_option maxHeartbeats 4000000 in
theorem useful_asks (hvl : vs.length ≤ 1000000) {h : Head} (ha : asksH v0 = some h) {o : Option (List Pat)} (hw : RunsP Try.prog 90 [.agg (patD v0), patsD v0.l, .fptr (sigD g), .fptr [rowsD rows], .fptr [patsD (v0 :: vs)]] (fun x => x = resW o)) (ho : usefulF g (f + 1) rows (v0 :: vs) = o) : RunsP Try.prog 63 [.agg (sigD g), rowsD rows, patsD (v0 :: vs)] (fun x => x = resW (usefulF g (f + 1) rows (v0 :: vs))) := by
  rw [ho]
  have hop := popen_c v0
  rw [asks_open ha] at hop
  obtain ⟨k, n, i, s, a, b, c, l⟩ := v0
  have h0 : (Pat.mk k n i s a b c l :: vs)[0]? = some (Pat.mk k n i s a b c l) := rfl
  have e4 : (patR (Pat.mk k n i s a b c l :: vs)).length = vs.length + 1 := by simp [patR_len]
  simp only [Pat.l] at hw
  cases o with
  | none =>
    refine enterPB 104 tab_ok Try.func63 rfl (by kernel_rfl) rfl rfl rfl ?_
    repeat' (first | refine s_op rfl ?_ | (apply s_move; (iterate 4 (exact rfl))) | (apply s_fa_f tab_ok; (iterate 6 (exact rfl))) | (apply s_ld_f tab_ok; (iterate 6 (exact rfl))) | (apply s_assign; (iterate 4 (exact rfl))) | (apply s_len tab_ok; (iterate 5 (exact rfl))) | (apply s_idx tab_ok; (iterate 7 (exact rfl)); (first | exact patR_get (by assumption) | exact valR_get (by assumption) | exact row_map (by assumption) | assumption)) | (apply s_ext; (iterate 5 (exact rfl))) | (apply s_mkf; (iterate 4 (exact rfl))) | (apply s_boxZ; (iterate 5 (exact rfl)); first | exact rfl | exact allD_mapd _) | (apply s_not_f; (iterate 4 (exact rfl))) | (apply s_eql_f; (iterate 5 (exact rfl)); omega) | (apply s_call; (iterate 6 (exact rfl)); first | (exact hop; rintro _ rfl) | (exact hw; rintro _ rfl)) | refine al_nil ?_ | refine q_then_n ?_ | refine q_then_r ?_ | refine aw_seq ?_ | refine aw_reg ?_ | refine aw_true rfl ?_ | refine aw_false rfl ?_ | refine aw_skip ?_ | refine aw_ret ?_ | refine aw_draws (id := 5) (trO [0, 1, 2, 3, 4, 5, 6, 7, 8, 9, 10, 11, 12] .nil) [8] [] mixed_ok (by kernel_rfl) ?_)
    all_goals exact q_retB (resB_2 rfl (resV_t rfl) (resV_t rfl) rfl) ⟨_, rfl, rfl⟩
  | some w =>
    refine enterPB 104 tab_ok Try.func63 rfl (by kernel_rfl) rfl rfl rfl ?_
    repeat' (first | refine s_op rfl ?_ | (apply s_move; (iterate 4 (exact rfl))) | (apply s_fa_f tab_ok; (iterate 6 (exact rfl))) | (apply s_ld_f tab_ok; (iterate 6 (exact rfl))) | (apply s_assign; (iterate 4 (exact rfl))) | (apply s_len tab_ok; (iterate 5 (exact rfl))) | (apply s_idx tab_ok; (iterate 7 (exact rfl)); (first | exact patR_get (by assumption) | exact valR_get (by assumption) | exact row_map (by assumption) | assumption)) | (apply s_ext; (iterate 5 (exact rfl))) | (apply s_mkf; (iterate 4 (exact rfl))) | (apply s_boxZ; (iterate 5 (exact rfl)); first | exact rfl | exact allD_mapd _) | (apply s_not_f; (iterate 4 (exact rfl))) | (apply s_eql_f; (iterate 5 (exact rfl)); omega) | (apply s_call; (iterate 6 (exact rfl)); first | (exact hop; rintro _ rfl) | (exact hw; rintro _ rfl)) | refine al_nil ?_ | refine q_then_n ?_ | refine q_then_r ?_ | refine aw_seq ?_ | refine aw_reg ?_ | refine aw_true rfl ?_ | refine aw_false rfl ?_ | refine aw_skip ?_ | refine aw_ret ?_ | refine aw_draws (id := 5) (trO [0, 1, 2, 3, 4, 5, 6, 7, 8, 9, 10, 11, 12] .nil) [8] [] mixed_ok (by kernel_rfl) ?_)
    all_goals exact q_retB (resB_2 rfl (resV_t rfl) (resV_t rfl) rfl) ⟨_, rfl, rfl⟩

set_option maxRecDepth 100000 in
set_option maxHeartbeats 8000000 in
theorem useful_found (hs : g.Small) (hm : m ≤ 10000000) (hr : RowsB m rows) (hne : ∀ r ∈ rows, r ≠ []) (hvl : vs.length ≤ 1000000) (ho : openB v0 = true)
    (hfr : RunsP Try.prog 94 [.agg (sigD g), headsD (headsL rows)] (freshQ g (headsL rows))) {p : Pat} (hp : freshP g (headsL rows) = some p) {w : List Pat} (hwl : w.length ≤ 1000000) (hrec : RunsP Try.prog 63 [.agg (sigD g), rowsD (othersL rows), patsD vs] (fun x => x = resW (some w))) :
    RunsP Try.prog 63 [.agg (sigD g), rowsD rows, patsD (v0 :: vs)] (fun x => x = resW (some (p :: w))) := by
  have hop := popen_c v0
  rw [ho] at hop
  have hh := heads_c hm hr hne
  have hot := others_c hm hr hne
  unfold freshQ at hfr
  rw [hp] at hfr
  simp only at hfr
  have lL := Nat.le_trans (headsL_len rows) hr.len
  have eL : ((headsL rows).map headD).length = (headsL rows).length := by simp
  obtain ⟨k, n, i, s, a, b, c, l⟩ := v0
  have h0 : (Pat.mk k n i s a b c l :: vs)[0]? = some (Pat.mk k n i s a b c l) := rfl
  have e4 : (patR (Pat.mk k n i s a b c l :: vs)).length = vs.length + 1 := by simp [patR_len]
  have hcc := concatP_c [patD p] (patR w) (by simp) (by rw [patR_len]; omega)
  obtain ⟨pk, pn, pi, ps, pa, pb, pc, pl⟩ := p
  refine enterPB 104 tab_ok Try.func63 rfl (by kernel_rfl) rfl rfl rfl ?_
  repeat' (first | refine s_op rfl ?_ | (apply s_move; (iterate 4 (exact rfl))) | (apply s_ld_p tab_ok; (iterate 7 (exact rfl))) | (apply s_ld_f tab_ok; (iterate 6 (exact rfl))) | (apply s_assign; (iterate 4 (exact rfl))) | (apply s_len tab_ok; (iterate 5 (exact rfl))) | (apply s_idx tab_ok; (iterate 7 (exact rfl)); (first | exact patR_get (by assumption) | exact valR_get (by assumption) | exact row_map (by assumption) | assumption)) | (apply s_ext; (iterate 5 (exact rfl))) | (apply s_mkf; (iterate 4 (exact rfl))) | (apply s_alloc tabZ_ok; (iterate 7 (exact rfl))) | (apply s_boxZ; (iterate 5 (exact rfl)); first | exact rfl | exact allD_mapd _) | (apply s_store tab_ok; (iterate 10 (exact rfl))) | (apply s_lit tab_ok tabZ_ok; (iterate 10 (exact rfl))) | (apply s_not_t; (iterate 4 (exact rfl))) | (apply s_eql_f; (iterate 5 (exact rfl)); omega) | (apply s_sliceE tab_ok (rows := patR (Pat.mk k n i s a b c l :: vs)) (rows' := patR vs); (iterate 8 (exact rfl)); (simp; omega); exact (by simp [patR])) | (apply s_call; (iterate 6 (exact rfl)); first | (exact hop; rintro _ rfl) | (exact hh; rintro _ rfl) | (exact hot; rintro _ rfl) | (exact hfr; rintro _ rfl) | (exact hrec; rintro _ rfl) | (exact hcc; rintro _ rfl)) | refine al_nil ?_ | refine q_then_n ?_ | refine q_then_r ?_ | refine aw_seq ?_ | refine aw_reg ?_ | refine aw_true rfl ?_ | refine aw_false rfl ?_ | refine aw_skip ?_ | refine aw_ret ?_ | refine aw_draws (id := 9) (trO [0, 1, 3, 4, 2, 5, 6, 7, 8, 9, 10] .nil) [2, 5] [] mixed_ok (by kernel_rfl) ?_)
  all_goals exact q_retB (resB_2 rfl (resV_t rfl) (resV_t rfl) rfl) ⟨_, rfl, rfl⟩

set_option maxRecDepth 100000 in
set_option maxHeartbeats 8000000 in
theorem useful_loop1 (hs : g.Small) (hm : m ≤ 10000000) (hr : RowsB m rows) (hne : ∀ r ∈ rows, r ≠ []) (hvl : vs.length ≤ 1000000) (ho : openB v0 = true)
    (hfr : RunsP Try.prog 94 [.agg (sigD g), headsD (headsL rows)] (freshQ g (headsL rows))) {p : Pat} (hp : freshP g (headsL rows) = some p) (hrec : RunsP Try.prog 63 [.agg (sigD g), rowsD (othersL rows), patsD vs] (fun x => x = resW none))
    (hall : ∀ h ∈ headsL rows, (h.kind = 3 ∨ h.kind = 4 ∨ (h.kind = 5 ∧ 0 ≤ h.n ∧ h.n < g.cons.length)) ∧ RunsP Try.prog 90 [.agg (patD (patH h)), patsD (anysL (arityH g h)), .fptr (sigD g), .fptr [rowsD rows], .fptr [patsD (v0 :: vs)]] (fun x => x = resW (trialR g f rows vs h))) :
    RunsP Try.prog 63 [.agg (sigD g), rowsD rows, patsD (v0 :: vs)] (fun x => x = resW ((headsL rows).findSome? (trialR g f rows vs))) := by
  have hop := popen_c v0
  rw [ho] at hop
  have hh := heads_c hm hr hne
  have hot := others_c hm hr hne
  unfold freshQ at hfr
  rw [hp] at hfr
  simp only at hfr
  have lL := Nat.le_trans (headsL_len rows) hr.len
  have eL : ((headsL rows).map headD).length = (headsL rows).length := by simp
  obtain ⟨k, n, i, s, a, b, c, l⟩ := v0
  have h0 : (Pat.mk k n i s a b c l :: vs)[0]? = some (Pat.mk k n i s a b c l) := rfl
  have e4 : (patR (Pat.mk k n i s a b c l :: vs)).length = vs.length + 1 := by simp [patR_len]
  obtain ⟨pk, pn, pi, ps, pa, pb, pc, pl⟩ := p
  refine enterPB 104 tab_ok Try.func63 rfl (by kernel_rfl) rfl rfl rfl ?_
  repeat' (first | refine s_op rfl ?_ | (apply s_move; (iterate 4 (exact rfl))) | (apply s_ld_f tab_ok; (iterate 6 (exact rfl))) | (apply s_assign; (iterate 4 (exact rfl))) | (apply s_len tab_ok; (iterate 5 (exact rfl))) | (apply s_idx tab_ok; (iterate 7 (exact rfl)); (first | exact patR_get (by assumption) | exact valR_get (by assumption) | exact row_map (by assumption) | assumption)) | (apply s_ext; (iterate 5 (exact rfl))) | (apply s_mkf; (iterate 4 (exact rfl))) | (apply s_alloc tabZ_ok; (iterate 7 (exact rfl))) | (apply s_boxZ; (iterate 5 (exact rfl)); first | exact rfl | exact allD_mapd _) | (apply s_store tab_ok; (iterate 10 (exact rfl))) | (apply s_not_t; (iterate 4 (exact rfl))) | (apply s_eql_f; (iterate 5 (exact rfl)); omega) | (apply s_sliceE tab_ok (rows := patR (Pat.mk k n i s a b c l :: vs)) (rows' := patR vs); (iterate 8 (exact rfl)); (simp; omega); exact (by simp [patR])) | (apply s_call; (iterate 6 (exact rfl)); first | (exact hop; rintro _ rfl) | (exact hh; rintro _ rfl) | (exact hot; rintro _ rfl) | (exact hfr; rintro _ rfl) | (exact hrec; rintro _ rfl)) | refine al_nil ?_ | refine q_then_n ?_ | refine aw_block ?_ | refine aw_seq ?_ | refine aw_reg ?_ | refine aw_true rfl ?_ | refine aw_false rfl ?_ | refine aw_skip ?_ | refine aw_draws (id := 9) (trO [0, 1, 3, 4, 2, 5, 6, 7, 8, 9, 10] .nil) [2, 5] [] mixed_ok (by kernel_rfl) ?_)
  refine w_loop [3, 8, 67, 68, 69] (fun n' vs' σ => ∃ j : Nat, vs' = [.d (.fptr (sigD g)), .d (.clo (.func 90) [] [.fptr (sigD g), .fptr [rowsD rows], .fptr [patsD (Pat.mk k n i s a b c l :: vs)]]), .d (headsD (headsL rows)), .d (.v (.int .i64 (((headsL rows).map headD).length : Int))), .d (.v (.int .i64 (j : Int)))] ∧ j ≤ (headsL rows).length ∧ n' = (headsL rows).length - j ∧ ∀ j' h, j' < j → (headsL rows)[j']? = some h → trialR g f rows vs h = none) rfl ⟨0, rfl, by omega, rfl, fun j' h hj => absurd hj (Nat.not_lt_zero j')⟩ ?_
  rintro n' vs' σ ⟨j, rfl, hj, rfl, hdone⟩ fr hfr2
  cases hfr2
  by_cases hlt : j < (headsL rows).length
  · obtain ⟨⟨hk, hn, hi, hst⟩, hq⟩ := getS hlt
    obtain ⟨hval, hw⟩ := hall _ (List.mem_of_getElem? hq)
    have hw' := hw.wkA (args' := [.agg [.v (.int .u8 hk), .v (.int .i64 hn), .v (.int .i64 hi), .v (.string hst), .v (.int .i64 0), .v (.int .i64 0), .v (.int .i64 0), .nil], patsD (anysL (arityH g ⟨hk, hn, hi, hst⟩)), .fptr (sigD g), .fptr [rowsD rows], .fptr [patsD (Pat.mk k n i s a b c l :: vs)]]) (.cons (Wk.agg (wkL_patnil (Wk.nil 8))) (.cons (.refl _) (.cons (.refl _) (.cons (.refl _) (.cons (.refl _) .nil)))))
    clear hw
    simp only at hval
    by_cases h5 : hk = 5
    · subst h5
      obtain ⟨mh, rfl⟩ : ∃ mh : Nat, hn = mh := ⟨hn.toNat, by omega⟩
      obtain ⟨⟨nm, dt, fs0, ms⟩, hcn⟩ : ∃ c, g.cons[mh]? = some c := getS (by omega)
      have hfl : fs0.length ≤ 1000000000 := hs.fields _ (List.mem_of_getElem? hcn)
      have har : arityH g ⟨5, (mh : Int), hi, hst⟩ = fs0.length := by unfold arityH; rw [if_pos rfl]; exact arity_at hcn
      rw [har] at hw'
      have han := anys_c fs0.length (by omega)
      cases ht : trialR g f rows vs ⟨5, (mh : Int), hi, hst⟩ with
      | none =>
        rw [ht] at hw'
        repeat' (first | refine s_op rfl ?_ | (apply s_move; (iterate 4 (exact rfl))) | (apply s_fa_p tab_ok; (iterate 5 (exact rfl))) | (apply s_fa_f tab_ok; (iterate 6 (exact rfl))) | (apply s_ld_f tab_ok; (iterate 6 (exact rfl))) | (apply s_assign; (iterate 4 (exact rfl))) | (apply s_len tab_ok; (iterate 5 (exact rfl))) | (apply s_ext; (iterate 5 (exact rfl))) | (apply s_build tabZ_ok; (iterate 5 (exact rfl))) | (apply s_eql_t; (iterate 5 (exact rfl)); omega) | (apply s_lss_t; (iterate 5 (exact rfl)); omega) | (apply s_add64; (iterate 5 (exact rfl)); omega) | (apply s_idx tab_ok (row := [.v (.int .u8 5), .v (.int .i64 (mh : Int)), .v (.int .i64 hi), .v (.string hst)]); (iterate 7 (exact rfl)); exact row_map hq) | (apply s_idx tab_ok; (iterate 7 (exact rfl)); exact row_map (by assumption)) | (apply s_allocF tabZ_ok (t := 127); (iterate 6 (exact rfl)); intro locH σ hc; have hH := hc.at'; clear hc) | (apply s_allocF tabZ_ok (t := 41); (iterate 6 (exact rfl)); intro locX σ hc; have hX := hc.at'; have nHX := hc.ne hH; replace hH := hc.keep hH; clear hc) | (apply s_storeF tab_ok; (iterate 7 (exact rfl)); exact hH; (iterate 2 (exact rfl)); intro σ hc; replace hH := hc.at'; clear hc) | (apply s_storeF tab_ok; (iterate 7 (exact rfl)); exact hX; (iterate 2 (exact rfl)); intro σ hc; replace hH := hc.keep nHX hH; replace hX := hc.at'; clear hc) | (apply s_ldF tab_ok; (iterate 5 (exact rfl)); exact hH; exact rfl) | (apply s_ldF tab_ok; (iterate 5 (exact rfl)); exact hX; exact rfl) | (apply s_call; (iterate 6 (exact rfl)); first | (exact hw'; rintro _ rfl) | (exact han; rintro _ rfl)) | refine al_nil ?_ | refine q_then_n ?_ | refine q_blk_n ?_ | refine aw_block ?_ | refine aw_seq ?_ | refine aw_reg ?_ | refine aw_true rfl ?_ | refine aw_false rfl ?_ | refine aw_skip ?_ | refine aw_draws (id := 19) (trO [0, 1, 2, 3, 4, 5, 6, 7, 8, 9] .nil) [3, 4] [] mixed_ok (by kernel_rfl) ?_)
        all_goals exact ⟨_, _, rfl, by omega, j + 1, rfl, by omega, rfl, fun j' h hj' hh' => by
          by_cases e : j' = j
          · rw [e, hq] at hh'; injection hh' with hh'; rw [← hh']; exact ht
          · exact hdone j' h (by omega) hh'⟩
      | some w =>
        rw [ht] at hw'
        rw [findSome_here (f := trialR g f rows vs) hdone hq ht]
        repeat' (first | refine s_op rfl ?_ | (apply s_move; (iterate 4 (exact rfl))) | (apply s_fa_p tab_ok; (iterate 5 (exact rfl))) | (apply s_fa_f tab_ok; (iterate 6 (exact rfl))) | (apply s_ld_f tab_ok; (iterate 6 (exact rfl))) | (apply s_assign; (iterate 4 (exact rfl))) | (apply s_len tab_ok; (iterate 5 (exact rfl))) | (apply s_ext; (iterate 5 (exact rfl))) | (apply s_build tabZ_ok; (iterate 5 (exact rfl))) | (apply s_eql_t; (iterate 5 (exact rfl)); omega) | (apply s_lss_t; (iterate 5 (exact rfl)); omega) | (apply s_idx tab_ok (row := [.v (.int .u8 5), .v (.int .i64 (mh : Int)), .v (.int .i64 hi), .v (.string hst)]); (iterate 7 (exact rfl)); exact row_map hq) | (apply s_idx tab_ok; (iterate 7 (exact rfl)); exact row_map (by assumption)) | (apply s_allocF tabZ_ok (t := 127); (iterate 6 (exact rfl)); intro locH σ hc; have hH := hc.at'; clear hc) | (apply s_allocF tabZ_ok (t := 41); (iterate 6 (exact rfl)); intro locX σ hc; have hX := hc.at'; have nHX := hc.ne hH; replace hH := hc.keep hH; clear hc) | (apply s_storeF tab_ok; (iterate 7 (exact rfl)); exact hH; (iterate 2 (exact rfl)); intro σ hc; replace hH := hc.at'; clear hc) | (apply s_storeF tab_ok; (iterate 7 (exact rfl)); exact hX; (iterate 2 (exact rfl)); intro σ hc; replace hH := hc.keep nHX hH; replace hX := hc.at'; clear hc) | (apply s_ldF tab_ok; (iterate 5 (exact rfl)); exact hH; exact rfl) | (apply s_ldF tab_ok; (iterate 5 (exact rfl)); exact hX; exact rfl) | (apply s_call; (iterate 6 (exact rfl)); first | (exact hw'; rintro _ rfl) | (exact han; rintro _ rfl)) | refine al_nil ?_ | refine q_then_n ?_ | refine q_blk_r ?_ | refine aw_block ?_ | refine q_then_r ?_ | refine aw_seq ?_ | refine aw_reg ?_ | refine aw_true rfl ?_ | refine aw_skip ?_ | refine aw_ret ?_ | refine aw_draws (id := 19) (trO [0, 1, 2, 3, 4, 5, 6, 7, 8, 9] .nil) [3, 4] [] mixed_ok (by kernel_rfl) ?_)
        all_goals exact q_retB (resB_2 rfl (resV_t rfl) (resV_t rfl) rfl) ⟨_, rfl, rfl⟩
    · have har : arityH g ⟨hk, hn, hi, hst⟩ = 0 := by unfold arityH; rw [if_neg h5]
      rw [har] at hw'
      have han := anys_c 0 (by omega)
      cases ht : trialR g f rows vs ⟨hk, hn, hi, hst⟩ with
      | none =>
        rw [ht] at hw'
        repeat' (first | refine s_op rfl ?_ | (apply s_move; (iterate 4 (exact rfl))) | (apply s_fa_p tab_ok; (iterate 5 (exact rfl))) | (apply s_ld_f tab_ok; (iterate 6 (exact rfl))) | (apply s_assign; (iterate 4 (exact rfl))) | (apply s_ext; (iterate 5 (exact rfl))) | (apply s_build tabZ_ok; (iterate 5 (exact rfl))) | (apply s_eql_f; (iterate 5 (exact rfl)); omega) | (apply s_lss_t; (iterate 5 (exact rfl)); omega) | (apply s_add64; (iterate 5 (exact rfl)); omega) | (apply s_idx tab_ok (row := [.v (.int .u8 hk), .v (.int .i64 hn), .v (.int .i64 hi), .v (.string hst)]); (iterate 7 (exact rfl)); exact row_map hq) | (apply s_allocF tabZ_ok (t := 127); (iterate 6 (exact rfl)); intro locH σ hc; have hH := hc.at'; clear hc) | (apply s_allocF tabZ_ok (t := 41); (iterate 6 (exact rfl)); intro locX σ hc; have hX := hc.at'; have nHX := hc.ne hH; replace hH := hc.keep hH; clear hc) | (apply s_storeF tab_ok; (iterate 7 (exact rfl)); exact hH; (iterate 2 (exact rfl)); intro σ hc; replace hH := hc.at'; clear hc) | (apply s_storeF tab_ok; (iterate 7 (exact rfl)); exact hX; (iterate 2 (exact rfl)); intro σ hc; replace hH := hc.keep nHX hH; replace hX := hc.at'; clear hc) | (apply s_ldF tab_ok; (iterate 5 (exact rfl)); exact hH; exact rfl) | (apply s_ldF tab_ok; (iterate 5 (exact rfl)); exact hX; exact rfl) | (apply s_call; (iterate 6 (exact rfl)); first | (exact hw'; rintro _ rfl) | (exact han; rintro _ rfl)) | refine al_nil ?_ | refine q_then_n ?_ | refine q_blk_n ?_ | refine aw_block ?_ | refine aw_seq ?_ | refine aw_reg ?_ | refine aw_true rfl ?_ | refine aw_false rfl ?_ | refine aw_skip ?_ | refine aw_draws (id := 19) (trO [0, 1, 2, 3, 4, 5, 6, 7, 8, 9] .nil) [3, 4] [] mixed_ok (by kernel_rfl) ?_)
        all_goals exact ⟨_, _, rfl, by omega, j + 1, rfl, by omega, rfl, fun j' h hj' hh' => by
          by_cases e : j' = j
          · rw [e, hq] at hh'; injection hh' with hh'; rw [← hh']; exact ht
          · exact hdone j' h (by omega) hh'⟩
      | some w =>
        rw [ht] at hw'
        rw [findSome_here (f := trialR g f rows vs) hdone hq ht]
        repeat' (first | refine s_op rfl ?_ | (apply s_move; (iterate 4 (exact rfl))) | (apply s_fa_p tab_ok; (iterate 5 (exact rfl))) | (apply s_ld_f tab_ok; (iterate 6 (exact rfl))) | (apply s_assign; (iterate 4 (exact rfl))) | (apply s_ext; (iterate 5 (exact rfl))) | (apply s_build tabZ_ok; (iterate 5 (exact rfl))) | (apply s_eql_f; (iterate 5 (exact rfl)); omega) | (apply s_lss_t; (iterate 5 (exact rfl)); omega) | (apply s_idx tab_ok (row := [.v (.int .u8 hk), .v (.int .i64 hn), .v (.int .i64 hi), .v (.string hst)]); (iterate 7 (exact rfl)); exact row_map hq) | (apply s_allocF tabZ_ok (t := 127); (iterate 6 (exact rfl)); intro locH σ hc; have hH := hc.at'; clear hc) | (apply s_allocF tabZ_ok (t := 41); (iterate 6 (exact rfl)); intro locX σ hc; have hX := hc.at'; have nHX := hc.ne hH; replace hH := hc.keep hH; clear hc) | (apply s_storeF tab_ok; (iterate 7 (exact rfl)); exact hH; (iterate 2 (exact rfl)); intro σ hc; replace hH := hc.at'; clear hc) | (apply s_storeF tab_ok; (iterate 7 (exact rfl)); exact hX; (iterate 2 (exact rfl)); intro σ hc; replace hH := hc.keep nHX hH; replace hX := hc.at'; clear hc) | (apply s_ldF tab_ok; (iterate 5 (exact rfl)); exact hH; exact rfl) | (apply s_ldF tab_ok; (iterate 5 (exact rfl)); exact hX; exact rfl) | (apply s_call; (iterate 6 (exact rfl)); first | (exact hw'; rintro _ rfl) | (exact han; rintro _ rfl)) | refine al_nil ?_ | refine q_then_n ?_ | refine q_blk_r ?_ | refine aw_block ?_ | refine q_then_r ?_ | refine aw_seq ?_ | refine aw_reg ?_ | refine aw_true rfl ?_ | refine aw_false rfl ?_ | refine aw_skip ?_ | refine aw_ret ?_ | refine aw_draws (id := 19) (trO [0, 1, 2, 3, 4, 5, 6, 7, 8, 9] .nil) [3, 4] [] mixed_ok (by kernel_rfl) ?_)
        all_goals exact q_retB (resB_2 rfl (resV_t rfl) (resV_t rfl) rfl) ⟨_, rfl, rfl⟩
  · rw [findSome_not (f := trialR g f rows vs) fun j' h hh' => hdone j' h (by have := (List.getElem?_eq_some_iff.1 hh').1; omega) hh']
    repeat' (first | refine s_op rfl ?_ | (apply s_assign; (iterate 4 (exact rfl))) | (apply s_lss_f; (iterate 5 (exact rfl)); omega) | refine al_nil ?_ | refine q_then_n ?_ | refine q_blk_e ?_ | refine q_then_e ?_ | refine aw_exit ?_ | refine aw_seq ?_ | refine aw_reg ?_ | refine aw_false rfl ?_ | refine aw_ret ?_)
    all_goals exact q_retB (resB_2 rfl (resV_t rfl) (resV_t rfl) rfl) ⟨_, rfl, rfl⟩

set_option maxRecDepth 100000 in
set_option maxHeartbeats 8000000 in
theorem useful_loop2 (hs : g.Small) (hm : m ≤ 10000000) (hr : RowsB m rows) (hne : ∀ r ∈ rows, r ≠ []) (hvl : vs.length ≤ 1000000) (ho : openB v0 = true)
    (hfr : RunsP Try.prog 94 [.agg (sigD g), headsD (headsL rows)] (freshQ g (headsL rows))) (hp : freshP g (headsL rows) = none)
    (hall : ∀ h ∈ headsL rows, (h.kind = 3 ∨ h.kind = 4 ∨ (h.kind = 5 ∧ 0 ≤ h.n ∧ h.n < g.cons.length)) ∧ RunsP Try.prog 90 [.agg (patD (patH h)), patsD (anysL (arityH g h)), .fptr (sigD g), .fptr [rowsD rows], .fptr [patsD (v0 :: vs)]] (fun x => x = resW (trialR g f rows vs h))) :
    RunsP Try.prog 63 [.agg (sigD g), rowsD rows, patsD (v0 :: vs)] (fun x => x = resW ((headsL rows).findSome? (trialR g f rows vs))) := by
  have hop := popen_c v0
  rw [ho] at hop
  have hh := heads_c hm hr hne
  have hot := others_c hm hr hne
  unfold freshQ at hfr
  rw [hp] at hfr
  simp only at hfr
  have lL := Nat.le_trans (headsL_len rows) hr.len
  have eL : ((headsL rows).map headD).length = (headsL rows).length := by simp
  obtain ⟨k, n, i, s, a, b, c, l⟩ := v0
  have h0 : (Pat.mk k n i s a b c l :: vs)[0]? = some (Pat.mk k n i s a b c l) := rfl
  have e4 : (patR (Pat.mk k n i s a b c l :: vs)).length = vs.length + 1 := by simp [patR_len]
  refine enterPB 104 tab_ok Try.func63 rfl (by kernel_rfl) rfl rfl rfl ?_
  repeat' (first | refine s_op rfl ?_ | (apply s_move; (iterate 4 (exact rfl))) | (apply s_ld_f tab_ok; (iterate 6 (exact rfl))) | (apply s_assign; (iterate 4 (exact rfl))) | (apply s_len tab_ok; (iterate 5 (exact rfl))) | (apply s_idx tab_ok; (iterate 7 (exact rfl)); (first | exact patR_get (by assumption) | exact valR_get (by assumption) | exact row_map (by assumption) | assumption)) | (apply s_ext; (iterate 5 (exact rfl))) | (apply s_mkf; (iterate 4 (exact rfl))) | (apply s_alloc tabZ_ok; (iterate 7 (exact rfl))) | (apply s_boxZ; (iterate 5 (exact rfl)); first | exact rfl | exact allD_mapd _) | (apply s_store tab_ok; (iterate 10 (exact rfl))) | (apply s_not_t; (iterate 4 (exact rfl))) | (apply s_eql_f; (iterate 5 (exact rfl)); omega) | (apply s_call; (iterate 6 (exact rfl)); exact hfr; rintro _ ⟨z, rfl⟩) | (apply s_call; (iterate 6 (exact rfl)); first | (exact hop; rintro _ rfl) | (exact hh; rintro _ rfl) | (exact hot; rintro _ rfl)) | refine al_nil ?_ | refine q_then_n ?_ | refine aw_block ?_ | refine aw_seq ?_ | refine aw_reg ?_ | refine aw_false rfl ?_ | refine aw_skip ?_)
  refine w_loop [3, 8, 67, 68, 69] (fun n' vs' σ => ∃ j : Nat, vs' = [.d (.fptr (sigD g)), .d (.clo (.func 90) [] [.fptr (sigD g), .fptr [rowsD rows], .fptr [patsD (Pat.mk k n i s a b c l :: vs)]]), .d (headsD (headsL rows)), .d (.v (.int .i64 (((headsL rows).map headD).length : Int))), .d (.v (.int .i64 (j : Int)))] ∧ j ≤ (headsL rows).length ∧ n' = (headsL rows).length - j ∧ ∀ j' h, j' < j → (headsL rows)[j']? = some h → trialR g f rows vs h = none) rfl ⟨0, rfl, by omega, rfl, fun j' h hj => absurd hj (Nat.not_lt_zero j')⟩ ?_
  rintro n' vs' σ ⟨j, rfl, hj, rfl, hdone⟩ fr hfr2
  cases hfr2
  by_cases hlt : j < (headsL rows).length
  · obtain ⟨⟨hk, hn, hi, hst⟩, hq⟩ := getS hlt
    obtain ⟨hval, hw⟩ := hall _ (List.mem_of_getElem? hq)
    have hw' := hw.wkA (args' := [.agg [.v (.int .u8 hk), .v (.int .i64 hn), .v (.int .i64 hi), .v (.string hst), .v (.int .i64 0), .v (.int .i64 0), .v (.int .i64 0), .nil], patsD (anysL (arityH g ⟨hk, hn, hi, hst⟩)), .fptr (sigD g), .fptr [rowsD rows], .fptr [patsD (Pat.mk k n i s a b c l :: vs)]]) (.cons (Wk.agg (wkL_patnil (Wk.nil 8))) (.cons (.refl _) (.cons (.refl _) (.cons (.refl _) (.cons (.refl _) .nil)))))
    clear hw
    simp only at hval
    by_cases h5 : hk = 5
    · subst h5
      obtain ⟨mh, rfl⟩ : ∃ mh : Nat, hn = mh := ⟨hn.toNat, by omega⟩
      obtain ⟨⟨nm, dt, fs0, ms⟩, hcn⟩ : ∃ c, g.cons[mh]? = some c := getS (by omega)
      have hfl : fs0.length ≤ 1000000000 := hs.fields _ (List.mem_of_getElem? hcn)
      have har : arityH g ⟨5, (mh : Int), hi, hst⟩ = fs0.length := by unfold arityH; rw [if_pos rfl]; exact arity_at hcn
      rw [har] at hw'
      have han := anys_c fs0.length (by omega)
      cases ht : trialR g f rows vs ⟨5, (mh : Int), hi, hst⟩ with
      | none =>
        rw [ht] at hw'
        repeat' (first | refine s_op rfl ?_ | (apply s_move; (iterate 4 (exact rfl))) | (apply s_fa_p tab_ok; (iterate 5 (exact rfl))) | (apply s_fa_f tab_ok; (iterate 6 (exact rfl))) | (apply s_ld_f tab_ok; (iterate 6 (exact rfl))) | (apply s_assign; (iterate 4 (exact rfl))) | (apply s_len tab_ok; (iterate 5 (exact rfl))) | (apply s_ext; (iterate 5 (exact rfl))) | (apply s_build tabZ_ok; (iterate 5 (exact rfl))) | (apply s_eql_t; (iterate 5 (exact rfl)); omega) | (apply s_lss_t; (iterate 5 (exact rfl)); omega) | (apply s_add64; (iterate 5 (exact rfl)); omega) | (apply s_idx tab_ok (row := [.v (.int .u8 5), .v (.int .i64 (mh : Int)), .v (.int .i64 hi), .v (.string hst)]); (iterate 7 (exact rfl)); exact row_map hq) | (apply s_idx tab_ok; (iterate 7 (exact rfl)); exact row_map (by assumption)) | (apply s_allocF tabZ_ok (t := 127); (iterate 6 (exact rfl)); intro locH σ hc; have hH := hc.at'; clear hc) | (apply s_allocF tabZ_ok (t := 41); (iterate 6 (exact rfl)); intro locX σ hc; have hX := hc.at'; have nHX := hc.ne hH; replace hH := hc.keep hH; clear hc) | (apply s_storeF tab_ok; (iterate 7 (exact rfl)); exact hH; (iterate 2 (exact rfl)); intro σ hc; replace hH := hc.at'; clear hc) | (apply s_storeF tab_ok; (iterate 7 (exact rfl)); exact hX; (iterate 2 (exact rfl)); intro σ hc; replace hH := hc.keep nHX hH; replace hX := hc.at'; clear hc) | (apply s_ldF tab_ok; (iterate 5 (exact rfl)); exact hH; exact rfl) | (apply s_ldF tab_ok; (iterate 5 (exact rfl)); exact hX; exact rfl) | (apply s_call; (iterate 6 (exact rfl)); first | (exact hw'; rintro _ rfl) | (exact han; rintro _ rfl)) | refine al_nil ?_ | refine q_then_n ?_ | refine q_blk_n ?_ | refine aw_block ?_ | refine aw_seq ?_ | refine aw_reg ?_ | refine aw_true rfl ?_ | refine aw_false rfl ?_ | refine aw_skip ?_ | refine aw_draws (id := 19) (trO [0, 1, 2, 3, 4, 5, 6, 7, 8, 9] .nil) [3, 4] [] mixed_ok (by kernel_rfl) ?_)
        all_goals exact ⟨_, _, rfl, by omega, j + 1, rfl, by omega, rfl, fun j' h hj' hh' => by
          by_cases e : j' = j
          · rw [e, hq] at hh'; injection hh' with hh'; rw [← hh']; exact ht
          · exact hdone j' h (by omega) hh'⟩
      | some w =>
        rw [ht] at hw'
        rw [findSome_here (f := trialR g f rows vs) hdone hq ht]
        repeat' (first | refine s_op rfl ?_ | (apply s_move; (iterate 4 (exact rfl))) | (apply s_fa_p tab_ok; (iterate 5 (exact rfl))) | (apply s_fa_f tab_ok; (iterate 6 (exact rfl))) | (apply s_ld_f tab_ok; (iterate 6 (exact rfl))) | (apply s_assign; (iterate 4 (exact rfl))) | (apply s_len tab_ok; (iterate 5 (exact rfl))) | (apply s_ext; (iterate 5 (exact rfl))) | (apply s_build tabZ_ok; (iterate 5 (exact rfl))) | (apply s_eql_t; (iterate 5 (exact rfl)); omega) | (apply s_lss_t; (iterate 5 (exact rfl)); omega) | (apply s_idx tab_ok (row := [.v (.int .u8 5), .v (.int .i64 (mh : Int)), .v (.int .i64 hi), .v (.string hst)]); (iterate 7 (exact rfl)); exact row_map hq) | (apply s_idx tab_ok; (iterate 7 (exact rfl)); exact row_map (by assumption)) | (apply s_allocF tabZ_ok (t := 127); (iterate 6 (exact rfl)); intro locH σ hc; have hH := hc.at'; clear hc) | (apply s_allocF tabZ_ok (t := 41); (iterate 6 (exact rfl)); intro locX σ hc; have hX := hc.at'; have nHX := hc.ne hH; replace hH := hc.keep hH; clear hc) | (apply s_storeF tab_ok; (iterate 7 (exact rfl)); exact hH; (iterate 2 (exact rfl)); intro σ hc; replace hH := hc.at'; clear hc) | (apply s_storeF tab_ok; (iterate 7 (exact rfl)); exact hX; (iterate 2 (exact rfl)); intro σ hc; replace hH := hc.keep nHX hH; replace hX := hc.at'; clear hc) | (apply s_ldF tab_ok; (iterate 5 (exact rfl)); exact hH; exact rfl) | (apply s_ldF tab_ok; (iterate 5 (exact rfl)); exact hX; exact rfl) | (apply s_call; (iterate 6 (exact rfl)); first | (exact hw'; rintro _ rfl) | (exact han; rintro _ rfl)) | refine al_nil ?_ | refine q_then_n ?_ | refine q_blk_r ?_ | refine aw_block ?_ | refine q_then_r ?_ | refine aw_seq ?_ | refine aw_reg ?_ | refine aw_true rfl ?_ | refine aw_skip ?_ | refine aw_ret ?_ | refine aw_draws (id := 19) (trO [0, 1, 2, 3, 4, 5, 6, 7, 8, 9] .nil) [3, 4] [] mixed_ok (by kernel_rfl) ?_)
        all_goals exact q_retB (resB_2 rfl (resV_t rfl) (resV_t rfl) rfl) ⟨_, rfl, rfl⟩
    · have har : arityH g ⟨hk, hn, hi, hst⟩ = 0 := by unfold arityH; rw [if_neg h5]
      rw [har] at hw'
      have han := anys_c 0 (by omega)
      cases ht : trialR g f rows vs ⟨hk, hn, hi, hst⟩ with
      | none =>
        rw [ht] at hw'
        repeat' (first | refine s_op rfl ?_ | (apply s_move; (iterate 4 (exact rfl))) | (apply s_fa_p tab_ok; (iterate 5 (exact rfl))) | (apply s_ld_f tab_ok; (iterate 6 (exact rfl))) | (apply s_assign; (iterate 4 (exact rfl))) | (apply s_ext; (iterate 5 (exact rfl))) | (apply s_build tabZ_ok; (iterate 5 (exact rfl))) | (apply s_eql_f; (iterate 5 (exact rfl)); omega) | (apply s_lss_t; (iterate 5 (exact rfl)); omega) | (apply s_add64; (iterate 5 (exact rfl)); omega) | (apply s_idx tab_ok (row := [.v (.int .u8 hk), .v (.int .i64 hn), .v (.int .i64 hi), .v (.string hst)]); (iterate 7 (exact rfl)); exact row_map hq) | (apply s_allocF tabZ_ok (t := 127); (iterate 6 (exact rfl)); intro locH σ hc; have hH := hc.at'; clear hc) | (apply s_allocF tabZ_ok (t := 41); (iterate 6 (exact rfl)); intro locX σ hc; have hX := hc.at'; have nHX := hc.ne hH; replace hH := hc.keep hH; clear hc) | (apply s_storeF tab_ok; (iterate 7 (exact rfl)); exact hH; (iterate 2 (exact rfl)); intro σ hc; replace hH := hc.at'; clear hc) | (apply s_storeF tab_ok; (iterate 7 (exact rfl)); exact hX; (iterate 2 (exact rfl)); intro σ hc; replace hH := hc.keep nHX hH; replace hX := hc.at'; clear hc) | (apply s_ldF tab_ok; (iterate 5 (exact rfl)); exact hH; exact rfl) | (apply s_ldF tab_ok; (iterate 5 (exact rfl)); exact hX; exact rfl) | (apply s_call; (iterate 6 (exact rfl)); first | (exact hw'; rintro _ rfl) | (exact han; rintro _ rfl)) | refine al_nil ?_ | refine q_then_n ?_ | refine q_blk_n ?_ | refine aw_block ?_ | refine aw_seq ?_ | refine aw_reg ?_ | refine aw_true rfl ?_ | refine aw_false rfl ?_ | refine aw_skip ?_ | refine aw_draws (id := 19) (trO [0, 1, 2, 3, 4, 5, 6, 7, 8, 9] .nil) [3, 4] [] mixed_ok (by kernel_rfl) ?_)
        all_goals exact ⟨_, _, rfl, by omega, j + 1, rfl, by omega, rfl, fun j' h hj' hh' => by
          by_cases e : j' = j
          · rw [e, hq] at hh'; injection hh' with hh'; rw [← hh']; exact ht
          · exact hdone j' h (by omega) hh'⟩
      | some w =>
        rw [ht] at hw'
        rw [findSome_here (f := trialR g f rows vs) hdone hq ht]
        repeat' (first | refine s_op rfl ?_ | (apply s_move; (iterate 4 (exact rfl))) | (apply s_fa_p tab_ok; (iterate 5 (exact rfl))) | (apply s_ld_f tab_ok; (iterate 6 (exact rfl))) | (apply s_assign; (iterate 4 (exact rfl))) | (apply s_ext; (iterate 5 (exact rfl))) | (apply s_build tabZ_ok; (iterate 5 (exact rfl))) | (apply s_eql_f; (iterate 5 (exact rfl)); omega) | (apply s_lss_t; (iterate 5 (exact rfl)); omega) | (apply s_idx tab_ok (row := [.v (.int .u8 hk), .v (.int .i64 hn), .v (.int .i64 hi), .v (.string hst)]); (iterate 7 (exact rfl)); exact row_map hq) | (apply s_allocF tabZ_ok (t := 127); (iterate 6 (exact rfl)); intro locH σ hc; have hH := hc.at'; clear hc) | (apply s_allocF tabZ_ok (t := 41); (iterate 6 (exact rfl)); intro locX σ hc; have hX := hc.at'; have nHX := hc.ne hH; replace hH := hc.keep hH; clear hc) | (apply s_storeF tab_ok; (iterate 7 (exact rfl)); exact hH; (iterate 2 (exact rfl)); intro σ hc; replace hH := hc.at'; clear hc) | (apply s_storeF tab_ok; (iterate 7 (exact rfl)); exact hX; (iterate 2 (exact rfl)); intro σ hc; replace hH := hc.keep nHX hH; replace hX := hc.at'; clear hc) | (apply s_ldF tab_ok; (iterate 5 (exact rfl)); exact hH; exact rfl) | (apply s_ldF tab_ok; (iterate 5 (exact rfl)); exact hX; exact rfl) | (apply s_call; (iterate 6 (exact rfl)); first | (exact hw'; rintro _ rfl) | (exact han; rintro _ rfl)) | refine al_nil ?_ | refine q_then_n ?_ | refine q_blk_r ?_ | refine aw_block ?_ | refine q_then_r ?_ | refine aw_seq ?_ | refine aw_reg ?_ | refine aw_true rfl ?_ | refine aw_false rfl ?_ | refine aw_skip ?_ | refine aw_ret ?_ | refine aw_draws (id := 19) (trO [0, 1, 2, 3, 4, 5, 6, 7, 8, 9] .nil) [3, 4] [] mixed_ok (by kernel_rfl) ?_)
        all_goals exact q_retB (resB_2 rfl (resV_t rfl) (resV_t rfl) rfl) ⟨_, rfl, rfl⟩
  · rw [findSome_not (f := trialR g f rows vs) fun j' h hh' => hdone j' h (by have := (List.getElem?_eq_some_iff.1 hh').1; omega) hh']
    repeat' (first | refine s_op rfl ?_ | (apply s_assign; (iterate 4 (exact rfl))) | (apply s_lss_f; (iterate 5 (exact rfl)); omega) | refine al_nil ?_ | refine q_then_n ?_ | refine q_blk_e ?_ | refine q_then_e ?_ | refine aw_exit ?_ | refine aw_seq ?_ | refine aw_reg ?_ | refine aw_false rfl ?_ | refine aw_ret ?_)
    all_goals exact q_retB (resB_2 rfl (resV_t rfl) (resV_t rfl) rfl) ⟨_, rfl, rfl⟩
end
end Go.Proofs.Ytjflembhgjcgkaa
