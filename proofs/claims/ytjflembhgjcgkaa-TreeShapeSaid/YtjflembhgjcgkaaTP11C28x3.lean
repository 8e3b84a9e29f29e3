/- C28: Check, as a function. -/
import Derived.Test.YtjflembhgjcgkaaTP11C72x2
import Derived.Test.YtjflembhgjcgkaaTP11C39x3
import Derived.Test.YtjflembhgjcgkaaTP11M16x3
import Derived.Test.YtjflembhgjcgkaaTP11C13x2
import Derived.Test.YtjflembhgjcgkaaTP11M18
import Derived.Test.YtjflembhgjcgkaaTP11XC3C4
import Derived.Test.YtjflembhgjcgkaaTP11C58x2
import Derived.Test.YtjflembhgjcgkaaTP11XM3C12
set_option linter.unusedSimpArgs false
set_option linter.unusedVariables false
namespace Go.Proofs.Ytjflembhgjcgkaa
open Go.RowKit

def useK (g : Sg) (f : Nat) (l : List Pat) (k : Nat) : Option (List Pat) := match l[k]? with | some p => usefulF g f (onesL (l.take k)) [p] | none => none
def checkD (g : Sg) (f : Nat) (l : List Pat) : DV :=
  if mayZ g l = 0 then match usefulF g f (onesL l) (anysL 1) with
    | some w => match w with | p :: _ => resC p 0 150 | [] => resC zeroP 0 0
    | none => doneC (fun i => (useK g f l i).isSome) l.length
  else resC zeroP 0 2
theorem sumAc_ones : ∀ l : List Pat, sumAc (onesL l) = acL l
  | [] => rfl
  | p :: l => by
    have := sumAc_ones l
    show sumAc ([p] :: onesL l) = _
    rw [sumAc_cons, this]; simp [acL]
theorem acL_get {l : List Pat} {k : Nat} {p : Pat} (h : l[k]? = some p) : acL (l.take k) + acP p ≤ acL l := by
  have h1 := acL_append (l.take k) (l.drop k)
  rw [List.take_append_drop, drop_get h] at h1
  simp only [acL] at h1
  omega
theorem uok_ones {g : Sg} {m A : Nat} {l : List Pat} (h : SmallP m l) (hw : ∀ p ∈ l, Wf g p) {p : Pat} (hp : p.small m) (hpw : Wf g p) : UOk g m A 1 (onesL l) [p] := by
  have key : ∀ r ∈ onesL l, ∃ q ∈ l, r = [q] := fun r hr => by
    obtain ⟨q, hq, e⟩ := List.mem_map.1 hr
    exact ⟨q, hq, e.symm⟩
  refine ⟨by simp [onesL]; exact h.len, fun r hr => ?_, by simp, fun r hr q hq => ?_, fun q hq => ?_, fun r hr q hq => ?_, fun q hq => ?_⟩
  · obtain ⟨q, _, rfl⟩ := key r hr; rfl
  · obtain ⟨q', hq', rfl⟩ := key r hr; rw [List.mem_singleton.1 hq]; exact h.each _ hq'
  · rw [List.mem_singleton.1 hq]; exact hp
  · obtain ⟨q', hq', rfl⟩ := key r hr; rw [List.mem_singleton.1 hq]; exact hw _ hq'
  · rw [List.mem_singleton.1 hq]; exact hpw

theorem check_c {g : Sg} (hs : g.Small) {m A : Nat} (hm : m ≤ 1000000) (hAm : A ≤ m) (hA : ∀ c ∈ g.cons, c.fields.length ≤ A) {l : List Pat} (hl : SmallP m l) (f : Nat) (hf : acL l * (A + 1) + 1 ≤ m) (hmu : acL l * (A + 1) + 1 < f) :
    RunsP Try.prog 22 [.agg (sigD g), patsD l] (fun v => v = checkD g f l) := by
  have hmay := may24_c hs (by omega : m ≤ 1000000000) hl
  have hll := hl.len
  unfold checkD
  unfold mayZ at hmay ⊢
  by_cases hok : servesB g = true ∧ togB g l = true
  · rw [if_pos hok] at hmay
    rw [if_pos hok, if_pos rfl]
    have hsv := (servesB_iff g).1 hok.1
    have hw := tog_wf (togB_iff.1 hok.2)
    have u0 : UOk g m A 1 (onesL l) (anysL 1) := uok_ones hl hw (small_any m) (wf_any g)
    have m0 : mu A (onesL l) (anysL 1) = acL l * (A + 1) + 1 := by
      unfold mu
      rw [sumAc_ones, acL_anys]
      simp [anysL]
    have h0 := useful_c hs hsv hm hAm hA f _ _ 1 u0 (by omega) (by omega)
    cases e : usefulF g f (onesL l) (anysL 1) with
    | some w =>
      rw [e] at h0
      have := usefulF_len g f _ _ _ e
      match w, this with
      | [p], _ => exact check_miss hmay (by omega) h0
    | none =>
      rw [e] at h0
      refine check_loop hmay (by omega) h0 (o := useK g f l) fun k p hk => ?_
      have hp := List.mem_of_getElem? hk
      have u1 : UOk g m A 1 (onesL (l.take k)) [p] := uok_ones (hl.sub (fun q hq => List.mem_of_mem_take hq) (by rw [List.length_take]; omega)) (fun q hq => hw q (List.mem_of_mem_take hq)) (hl.each p hp) (hw p hp)
      have m1 : mu A (onesL (l.take k)) [p] ≤ acL l * (A + 1) + 1 := by
        unfold mu
        rw [sumAc_ones]
        have h1 := acL_get hk
        have h2 : (acL (l.take k) + acL [p]) * (A + 1) ≤ acL l * (A + 1) := Nat.mul_le_mul_right _ (by simp only [acL]; omega)
        simp only [List.length_cons, List.length_nil]
        omega
      have h1 := useful_c hs hsv hm hAm hA f _ _ 1 u1 (by omega) (by omega)
      unfold useK
      rw [hk]
      exact h1
  · rw [if_neg hok] at hmay
    rw [if_neg hok, if_neg (by decide)]
    exact check_bad hmay
end Go.Proofs.Ytjflembhgjcgkaa
/- XC64C65M24: C64, C65, M24 in one. -/
set_option linter.unusedSimpArgs false
set_option linter.unusedVariables false
/- C64: All, Check, Covers, of the document. -/
namespace Go.Proofs.Ytjflembhgjcgkaa
open Go.RowKit

section
variable {g : Sg} {l : List Pat}
end
end Go.Proofs.Ytjflembhgjcgkaa

/- C65: Check, Covers, of the document. -/
namespace Go.Proofs.Ytjflembhgjcgkaa
open Go.RowKit

section
variable {g : Sg} {l : List Pat}
end
end Go.Proofs.Ytjflembhgjcgkaa

/- M24: the document's answer and the program's agree; what is told is small. No program in sight. -/
namespace Go.Proofs.Ytjflembhgjcgkaa
open Go.RowKit

theorem ones_eq (l : List Pat) : onesL l = onesL' l := rfl
/-- What Look says is what useful says. -/
theorem agree {g : Sg} (hsv : Serves g) {l : List Pat} (ha : All2 g l) {A : Nat} (hA : ∀ c ∈ g.cons, c.fields.length ≤ A) {f n : Nat} (hf : acL l * (A + 1) + 1 < f) (hn : acL l < n) :
    ((usefulF g f (onesL l) (anysL 1)).isSome = true ↔ (lookF (roomOf g l) n anyP (startF l)).missing.kind ≠ 0) ∧ (lookF (roomOf g l) n anyP (startF l)).come.length = l.length ∧ ∀ i p, l[i]? = some p → (usefulF g f (onesL (l.take i)) [p]).isSome = (lookF (roomOf g l) n anyP (startF l)).come.getD i false := by
  obtain ⟨h1, h2, h3⟩ := all_sem hsv ha hn
  refine ⟨by rw [h1]; exact miss_useful hsv ha hA hf, h2, fun i p hp => ?_⟩
  have hc := come_useful hsv ha hA hf hp
  have h3 := h3 i
  rw [List.getD_eq_getElem?_getD]
  obtain ⟨b, hb⟩ := getS (l := (lookF (roomOf g l) n anyP (startF l)).come) (k := i) (by rw [h2]; exact (List.getElem?_eq_some_iff.1 hp).1)
  rw [hb] at h3 ⊢
  show _ = b
  cases b with
  | true => exact hc.2 (h3.1 rfl)
  | false =>
    cases hu : (usefulF g f (onesL (l.take i)) [p]).isSome with
    | false => rfl
    | true => have := h3.2 (hc.1 hu); injection this with this; cases this
end Go.Proofs.Ytjflembhgjcgkaa
/- XC31C66: C31, C66 in one. -/
set_option linter.unusedSimpArgs false
set_option linter.unusedVariables false
/- C31: Covers, of the program. -/
namespace Go.Proofs.Ytjflembhgjcgkaa
open Go.RowKit

section
variable {g : Sg} {l : List Pat} {p : Pat}
set_option maxRecDepth 100000 in
set_option maxHeartbeats 4000000 in
theorem covers_bad (hl : l.length ≤ 10000000) (hmay : RunsP Try.prog 24 [.agg (sigD g), patsD (l ++ [p])] (fun v => v = .v (.int .i64 2))) : RunsP Try.prog 28 [.agg (sigD g), patsD l, .agg (patD p)] (fun v => v = .tup [.v (.bool false), .v (.int .i64 2)]) := by
  have hcl := fun σ => cloneP_o (patR l) σ (by rw [patR_len]; omega)
  have e1 := patR_len l
  unfold patsD at hmay
  rw [patR_append] at hmay
  obtain ⟨wk, wn, wi, ws, wa, wb, wc, wl⟩ := p
  refine enterPB 32 tab_ok Try.func28 rfl (by kernel_rfl) rfl rfl rfl ?_
  repeat' (first | refine s_op rfl ?_ | (apply s_move; (iterate 4 (exact rfl))) | (apply s_ld_f tab_ok; (iterate 6 (exact rfl))) | (apply s_assign; (iterate 4 (exact rfl))) | (apply s_boxZ; (iterate 5 (exact rfl)); first | exact rfl | exact allD_mapd _) | (apply s_lit tab_ok tabZ_ok; (iterate 10 (exact rfl))) | (apply s_neq_t; (iterate 5 (exact rfl)); omega) | (apply s_callS; (iterate 6 (exact rfl)); exact hcl _; rintro _ σ ⟨loc, ver, rfl, hc⟩) | (apply s_appF tab_ok tabZ_ok (rows2 := [patD (.mk wk wn wi ws wa wb wc wl)]) (rows3 := patR l ++ [patD (.mk wk wn wi ws wa wb wc wl)]) (m := (patR l).length + 1); (iterate 10 (exact rfl)); exact hc.at'; exact src_of (Tab.slIs tab_ok (t := 26) rfl) (rows_d rfl); exact rfl; (refine ⟨rfl, ?_, rfl⟩; simp only [List.length_cons, List.length_nil]; omega); intro σ hc4; have hc5 := fresh_chg hc hc4; clear hc hc4) | (refine o_freezeF 16 rfl hc5.at' (by simp) ?_; intro σ hc6; clear hc5) | (apply s_call; (iterate 6 (exact rfl)); first | (exact hmay; rintro _ rfl)) | refine al_nil ?_ | refine q_then_n ?_ | refine q_then_r ?_ | refine aw_seq ?_ | refine aw_reg ?_ | refine aw_true rfl ?_ | refine aw_ret ?_ | refine al_fork ?_ ?_ | refine al_fork3 ?_ ?_ ?_ | refine aw_draws (id := 1) (trO [1] (.fork3 0 (.fork 2 (trO [3, 4, 5, 6, 7] .nil) 3 (.fork 2 (trO [4, 5, 6, 7] .nil) 4 (trO [2, 5, 6, 7] .nil))) 2 (.fork 0 (trO [3, 4, 5, 6, 7] .nil) 3 (.fork 0 (trO [4, 5, 6, 7] .nil) 4 (.fork 0 (trO [5, 6, 7] .nil) 5 (trO [0, 6, 7] .nil)))) 3 (.fork3 0 (.fork 2 (trO [4, 5, 6, 7] .nil) 4 (trO [2, 5, 6, 7] .nil)) 2 (.fork 0 (trO [4, 5, 6, 7] .nil) 4 (.fork 0 (trO [5, 6, 7] .nil) 5 (trO [0, 6, 7] .nil))) 4 (.fork 0 (trO [2, 5, 6, 7] .nil) 2 (.fork 0 (trO [5, 6, 7] .nil) 5 (trO [0, 6, 7] .nil)))))) [0, 2, 3, 4, 5, 6] [2, 5] mixed_ok (by kernel_rfl) ?_)
  all_goals exact q_retB (resB_2 rfl (resV_t rfl) (resV_t rfl) rfl) ⟨_, rfl, rfl⟩
set_option maxRecDepth 100000 in
set_option maxHeartbeats 4000000 in
theorem covers_ok (hl : l.length ≤ 10000000) (hmay : RunsP Try.prog 24 [.agg (sigD g), patsD (l ++ [p])] (fun v => v = .v (.int .i64 0))) {o : Option (List Pat)} (hu : RunsP Try.prog 63 [.agg (sigD g), rowsD (onesL l), patsD [p]] (fun v => v = resW o)) : RunsP Try.prog 28 [.agg (sigD g), patsD l, .agg (patD p)] (fun v => v = .tup [.v (.bool (!o.isSome)), .v (.int .i64 0)]) := by
  have hcl := fun σ => cloneP_o (patR l) σ (by rw [patR_len]; omega)
  have e1 := patR_len l
  have hr := rows_c l hl
  unfold patsD at hmay
  rw [patR_append] at hmay
  obtain ⟨wk, wn, wi, ws, wa, wb, wc, wl⟩ := p
  refine enterPB 32 tab_ok Try.func28 rfl (by kernel_rfl) rfl rfl rfl ?_
  refine w_mid2 (fun fr _ => getO [1, 3, 5, 8] fr = some [.d (patsD l), .d (.fptr (sigD g)), .d (.fptr (patD (.mk wk wn wi ws wa wb wc wl))), .d (.v (.int .i64 0))]) ?_ ?_
  · repeat' (first | refine s_op rfl ?_ | (apply s_move; (iterate 4 (exact rfl))) | (apply s_ld_f tab_ok; (iterate 6 (exact rfl))) | (apply s_assign; (iterate 4 (exact rfl))) | (apply s_boxZ; (iterate 5 (exact rfl)); first | exact rfl | exact allD_mapd _) | (apply s_lit tab_ok tabZ_ok; (iterate 10 (exact rfl))) | (apply s_neq_f; (iterate 5 (exact rfl)); omega) | (apply s_callS; (iterate 6 (exact rfl)); exact hcl _; rintro _ σ ⟨loc, ver, rfl, hc⟩) | (apply s_appF tab_ok tabZ_ok (rows2 := [patD (.mk wk wn wi ws wa wb wc wl)]) (rows3 := patR l ++ [patD (.mk wk wn wi ws wa wb wc wl)]) (m := (patR l).length + 1); (iterate 10 (exact rfl)); exact hc.at'; exact src_of (Tab.slIs tab_ok (t := 26) rfl) (rows_d rfl); exact rfl; (refine ⟨rfl, ?_, rfl⟩; simp only [List.length_cons, List.length_nil]; omega); intro σ hc4; have hc5 := fresh_chg hc hc4; clear hc hc4) | (refine o_freezeF 16 rfl hc5.at' (by simp) ?_; intro σ hc6; clear hc5) | (apply s_call; (iterate 6 (exact rfl)); first | (exact hmay; rintro _ rfl)) | refine al_nil ?_ | refine q_then_n ?_ | refine aw_seq ?_ | refine aw_reg ?_ | refine aw_false rfl ?_ | refine aw_skip ?_ | refine al_fork ?_ ?_ | refine al_fork3 ?_ ?_ ?_ | refine aw_draws (id := 1) (trO [1] (.fork3 0 (.fork 2 (trO [3, 4, 5, 6, 7] .nil) 3 (.fork 2 (trO [4, 5, 6, 7] .nil) 4 (trO [2, 5, 6, 7] .nil))) 2 (.fork 0 (trO [3, 4, 5, 6, 7] .nil) 3 (.fork 0 (trO [4, 5, 6, 7] .nil) 4 (.fork 0 (trO [5, 6, 7] .nil) 5 (trO [0, 6, 7] .nil)))) 3 (.fork3 0 (.fork 2 (trO [4, 5, 6, 7] .nil) 4 (trO [2, 5, 6, 7] .nil)) 2 (.fork 0 (trO [4, 5, 6, 7] .nil) 4 (.fork 0 (trO [5, 6, 7] .nil) 5 (trO [0, 6, 7] .nil))) 4 (.fork 0 (trO [2, 5, 6, 7] .nil) 2 (.fork 0 (trO [5, 6, 7] .nil) 5 (trO [0, 6, 7] .nil)))))) [0, 2, 3, 4, 5, 6] [2, 5] mixed_ok (by kernel_rfl) ?_)
    all_goals exact ⟨rfl, rfl⟩
  clear hmay hcl
  intro fr σ hv
  refine w_keep [1, 3, 5, 8] hv rfl ?_
  clear hv
  cases o with
  | none =>
    repeat' (first | refine s_op rfl ?_ | (apply s_move; (iterate 4 (exact rfl))) | (apply s_ld_f tab_ok; (iterate 6 (exact rfl))) | (apply s_assign; (iterate 4 (exact rfl))) | (apply s_ext; (iterate 5 (exact rfl))) | (apply s_lit tab_ok tabZ_ok; (iterate 10 (exact rfl))) | (apply s_not_f; (iterate 4 (exact rfl))) | (apply s_call; (iterate 6 (exact rfl)); first | (exact hr; rintro _ rfl) | (exact hu; rintro _ rfl)) | refine al_nil ?_ | refine q_then_n ?_ | refine aw_seq ?_ | refine aw_reg ?_ | refine aw_ret ?_ | refine al_fork ?_ ?_ | refine aw_draws (id := 4) (trO [0, 1, 3] (.fork 2 (trO [4, 5, 6, 7, 8, 9, 10] .nil) 4 (trO [2, 5, 6, 7, 8, 9, 10] .nil))) [2, 4, 5] [] mixed_ok (by kernel_rfl) ?_)
    all_goals exact q_retB (resB_2 rfl (resV_t rfl) (resV_t rfl) rfl) ⟨_, rfl, rfl⟩
  | some w =>
    repeat' (first | refine s_op rfl ?_ | (apply s_move; (iterate 4 (exact rfl))) | (apply s_ld_f tab_ok; (iterate 6 (exact rfl))) | (apply s_assign; (iterate 4 (exact rfl))) | (apply s_ext; (iterate 5 (exact rfl))) | (apply s_lit tab_ok tabZ_ok; (iterate 10 (exact rfl))) | (apply s_not_t; (iterate 4 (exact rfl))) | (apply s_call; (iterate 6 (exact rfl)); first | (exact hr; rintro _ rfl) | (exact hu; rintro _ rfl)) | refine al_nil ?_ | refine q_then_n ?_ | refine aw_seq ?_ | refine aw_reg ?_ | refine aw_ret ?_ | refine al_fork ?_ ?_ | refine aw_draws (id := 4) (trO [0, 1, 3] (.fork 2 (trO [4, 5, 6, 7, 8, 9, 10] .nil) 4 (trO [2, 5, 6, 7, 8, 9, 10] .nil))) [2, 4, 5] [] mixed_ok (by kernel_rfl) ?_)
    all_goals exact q_retB (resB_2 rfl (resV_t rfl) (resV_t rfl) rfl) ⟨_, rfl, rfl⟩
end
end Go.Proofs.Ytjflembhgjcgkaa

/- C66: Covers, of the document and of the program. -/
namespace Go.Proofs.Ytjflembhgjcgkaa
open Go.RowKit

section
variable {g : Sg} {l : List Pat} {p : Pat}
end
/-- Of the program, in one. -/
def coversD (g : Sg) (f : Nat) (l : List Pat) (p : Pat) : DV := if mayZ g (l ++ [p]) = 0 then .tup [.v (.bool (!(usefulF g f (onesL l) [p]).isSome)), .v (.int .i64 0)] else .tup [.v (.bool false), .v (.int .i64 2)]
theorem covers_c {g : Sg} (hs : g.Small) {m A : Nat} (hm : m ≤ 1000000) (hAm : A ≤ m) (hA : ∀ c ∈ g.cons, c.fields.length ≤ A) {l : List Pat} {p : Pat} (hl : SmallP m (l ++ [p])) (f : Nat) (hf : acL (l ++ [p]) * (A + 1) + 1 ≤ m) (hmu : acL (l ++ [p]) * (A + 1) + 1 < f) :
    RunsP Try.prog 28 [.agg (sigD g), patsD l, .agg (patD p)] (fun v => v = coversD g f l p) := by
  have hmay := may24_c hs (by omega : m ≤ 1000000000) hl
  have hll := hl.len
  have hl1 : SmallP m l := ⟨fun q hq => hl.each q (List.mem_append.2 (.inl hq)), by rw [List.length_append] at hll; omega⟩
  unfold coversD
  unfold mayZ at hmay ⊢
  by_cases hok : servesB g = true ∧ togB g (l ++ [p]) = true
  · rw [if_pos hok] at hmay
    rw [if_pos hok, if_pos rfl]
    have hsv := (servesB_iff g).1 hok.1
    have hw := tog_wf (togB_iff.1 hok.2)
    have u1 : UOk g m A 1 (onesL l) [p] := uok_ones hl1 (fun q hq => hw q (List.mem_append.2 (.inl hq))) (hl.each p (by simp)) (hw p (by simp))
    have m1 : mu A (onesL l) [p] ≤ acL (l ++ [p]) * (A + 1) + 1 := by
      unfold mu
      rw [sumAc_ones]
      have h1 := acL_append l [p]
      have h2 : (acL l + acL [p]) * (A + 1) ≤ acL (l ++ [p]) * (A + 1) := Nat.mul_le_mul_right _ (by omega)
      simp only [List.length_cons, List.length_nil]
      omega
    exact covers_ok (Nat.le_trans hl1.len (by omega)) hmay (useful_c hs hsv hm hAm hA f _ _ 1 u1 (by omega) (by omega))
  · rw [if_neg hok] at hmay
    rw [if_neg hok, if_neg (by decide)]
    exact covers_bad (Nat.le_trans hl1.len (by omega)) hmay
end Go.Proofs.Ytjflembhgjcgkaa
