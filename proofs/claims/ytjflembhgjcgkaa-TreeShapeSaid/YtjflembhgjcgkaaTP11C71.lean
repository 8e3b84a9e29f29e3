/- C71: the law's walk: TreeShape. -/
import Derived.Test.YtjflembhgjcgkaaTP11C72x2
import Derived.Test.YtjflembhgjcgkaaTP11M25x3
import Derived.Test.YtjflembhgjcgkaaTP11C58x2
import Derived.Test.YtjflembhgjcgkaaTP11XC32C47
set_option linter.unusedSimpArgs false
set_option linter.unusedVariables false
namespace Go.Proofs.Ytjflembhgjcgkaa
open Go.RowKit

theorem ht_at (t : TreeT) (k n i : Int) (s : ByteArray) : htT (t.at k n i s) = htT t := by cases t; rfl
theorem branches_ht {F : Int → Option Pat → TreeT × Int} (hF : ∀ l s, (htT (F l s).1 : Int) + (F l s).2 ≤ l) : ∀ (cs : List Pat) (left : Int), (htL (branchesF F cs left).1 : Int) + (branchesF F cs left).2 ≤ left
  | [], left => by simp [branchesF, htL]
  | q :: cs, left => by
    have h1 := branches_ht hF cs (F left (some q)).2
    have h2 := hF left (some q)
    simp only [branchesF, htL, ht_at]
    omega
theorem build_ht {g : Sg} : ∀ (f : Nat) (left : Int) (rows : List RowT), (htT (buildF g f left rows).1 : Int) + (buildF g f left rows).2 ≤ left
  | 0, left, rows => by simp [buildF, bare, htT, htL]; omega
  | f + 1, left, [] => by unfold buildF; split <;> simp [bare, htT, htL] <;> omega
  | f + 1, left, r :: rows => by
    unfold buildF
    split
    · simp [bare, htT, htL]; omega
    · simp only
      match hra : r.asks with
      | [] => simp [bare, htT, htL]; omega
      | a :: asks =>
        simp only
        have hb := branches_ht (F := fun left p => buildF g f left (narrowF (r :: rows) a.path p)) (fun l s => build_ht f l _) (casesF g (r :: rows) a.path a.p) (left - 1)
        split
        · simp only [bare, htT, htL]; omega
        · have he := build_ht (g := g) f (branchesF (fun left p => buildF g f left (narrowF (r :: rows) a.path p)) (casesF g (r :: rows) a.path a.p) (left - 1)).2 (narrowF (r :: rows) a.path none)
          simp only [bare, htT, htL]
          omega
theorem come_take {g : Sg} {l : List Pat} (ha : All2 g l) {i : Nat} {p : Pat} (hp : l[i]? = some p) : Come g (l.take i ++ [p]) (l.take i).length ↔ Come g l i := by
  have hil := (List.getElem?_eq_some_iff.1 hp).1
  have hlen : (l.take i).length = i := by rw [List.length_take]; omega
  have hm : ∀ q ∈ l.take i ++ [p], q ∈ l := fun q hq => (List.mem_append.1 hq).elim List.mem_of_mem_take fun h => by rw [List.mem_singleton.1 h]; exact List.mem_of_getElem? hp
  have hget : ∀ j, j ≤ i → (l.take i ++ [p])[j]? = l[j]? := fun j hj => by
    by_cases e : j = i
    · subst e
      rw [List.getElem?_append_right (by omega), hlen, Nat.sub_self, hp]; rfl
    · rw [List.getElem?_append_left (by omega), List.getElem?_take_of_lt (by omega)]
  rw [hlen]
  constructor
  · rintro ⟨v, hv, q, hq, hf, hb⟩
    obtain ⟨v', h1, h2⟩ := come_sub ha hm hv
    rw [hget i (Nat.le_refl _), hp] at hq
    injection hq with hq
    subst hq
    refine ⟨v', h1, p, hp, ?_, fun j q hj hq => ?_⟩
    · rw [h2 p (by simp)]; exact hf
    · have : (l.take i ++ [p])[j]? = some q := by rw [hget j (by omega)]; exact hq
      rw [h2 q (List.mem_of_getElem? this)]
      exact hb j q hj this
  · rintro ⟨v, hv, q, hq, hf, hb⟩
    refine ⟨v, fun q hq => hv q (hm q hq), q, by rw [hget i (Nat.le_refl _)]; exact hq, hf, fun j q' hj hq' => hb j q' hj (by rw [← hget j (by omega)]; exact hq')⟩
theorem getA_put (n a : Int) (v : AV) : ∀ M : List (Int × AV), getA n (putA a v M) = if n = a then some v else getA n M
  | [] => by by_cases h : n = a <;> simp [putA, getA, h]
  | p :: M => by
    have ih := getA_put n a v M
    by_cases h1 : a = p.1
    · by_cases h2 : n = a
      · have h3 : n = p.1 := h2.trans h1
        simp [putA, getA, h1, h2]
      · have h3 : ¬ n = p.1 := fun h => h2 (h.trans h1.symm)
        simp only [putA, if_pos h1, getA, if_neg h2, if_neg h3]
    · by_cases h3 : n = p.1
      · have h2 : ¬ n = a := fun h => h1 (h.symm.trans h3)
        simp only [putA, if_neg h1, getA, if_pos h3, if_neg h2]
      · simp only [putA, if_neg h1, getA, if_neg h3, ih]
theorem getA_puts (n : Int) : ∀ (A : List Int) (M : List (Int × AV)), getA n (putsM M A) = if n ∈ A then some (.d (.v (.bool true))) else getA n M
  | [], M => by simp [putsM]
  | a :: A, M => by
    have h := getA_puts n A (putA a (.d (.v (.bool true))) M)
    have e : putsM M (a :: A) = putsM (putA a (.d (.v (.bool true))) M) A := rfl
    rw [e, h, getA_put]
    by_cases h1 : n ∈ A
    · rw [if_pos h1, if_pos (by simp [h1])]
    · by_cases h2 : n = a
      · rw [if_neg h1, if_pos h2, if_pos (by simp [h2])]
      · rw [if_neg h1, if_neg h2, if_neg (by simp [h1, h2])]
theorem keys_put (a : Int) (v : AV) : ∀ (M : List (Int × AV)) (p : Int × AV), p ∈ putA a v M → p.1 = a ∨ p ∈ M
  | [], p, h => by unfold putA at h; left; rw [List.mem_singleton.1 h]
  | q :: M, p, h => by
    unfold putA at h
    split at h
    · rcases List.mem_cons.1 h with h | h
      · left; rw [h]
      · right; exact List.mem_cons_of_mem _ h
    · rcases List.mem_cons.1 h with h | h
      · right; rw [h]; exact List.mem_cons_self
      · exact (keys_put a v M p h).imp id (List.mem_cons_of_mem _)
theorem keys_puts : ∀ (A : List Int) (M : List (Int × AV)) (p : Int × AV), p ∈ putsM M A → p.1 ∈ A ∨ p ∈ M
  | [], M, p, h => .inr h
  | a :: A, M, p, h => by
    have e : putsM M (a :: A) = putsM (putA a (.d (.v (.bool true))) M) A := rfl
    rw [e] at h
    rcases keys_puts A _ p h with h | h
    · left; exact List.mem_cons_of_mem _ h
    · rcases keys_put _ _ _ _ h with h | h
      · left; rw [h]; exact List.mem_cons_self
      · exact .inr h

noncomputable def s13 : Option Code := match Try.f11.body with
  | some c => findW 13 c
  | none => none
noncomputable def s20 : Option Code := match Try.f11.body with
  | some c => findW 20 c
  | none => none
def boolZ : AV := .d (.v (.bool false))
theorem boolZ_ok : ∃ u, (∀ w : World, (zeroValue 4).run Try.prog w = .ok u w) ∧ ∀ x : Ctx, ARep x boolZ u := ⟨.bool false, fun w => by kernel_rfl, fun x => ⟨rfl, rfl⟩⟩
section
variable {g : Sg} {l : List Pat} {locM : Nat} {σ : List AObj} {A : List Int} {f : Int}
abbrev TrueQ : AV → List AObj → Prop := fun v _ => ∃ d, v = .d d ∧ d = .v (.bool true)
set_option maxRecDepth 100000 in
set_option maxHeartbeats 8000000 in
theorem shape_keys (hA : ∀ n ∈ A, 0 ≤ n ∧ n < l.length) (hM : σ[locM]? = some (.map (entsV (Value.int .i64) (putsM [] A)))) {X : Code} (hX : s20 = some X) :
    AWk Try.prog 99 X (retQB tab Try.f11 TrueQ) [(1, .d (patsD l)), (10, .mp locM)] σ := by
  have e1 := patR_len l
  cases hX
  repeat' (first
      | refine s_op rfl ?_ | (apply s_skipV; (iterate 2 (exact rfl))) | (apply s_skipU; (iterate 3 (exact rfl))) | (apply s_move; (iterate 4 (exact rfl))) | (apply s_ld_p tab_ok; (iterate 7 (exact rfl)))
      | (apply s_ld_f tab_ok; (iterate 6 (exact rfl))) | (apply s_ld_w tab_ok; (iterate 5 (exact rfl)); (first | exact patD_len _ | exact valD_len _ | exact brD_len _ | exact treeD_len _)) | (apply s_assign; (iterate 4 (exact rfl))) | (apply s_pick_t; (iterate 5 (exact rfl))) | (apply s_pick_f; (iterate 5 (exact rfl)))
      | (apply s_len tab_ok; (iterate 5 (exact rfl))) | (apply s_lens str_ok; (iterate 4 (exact rfl))) | (apply s_idx tab_ok; (iterate 7 (exact rfl)); (first | exact patR_get (by assumption) | exact valR_get (by assumption) | exact row_map (by assumption) | exact brR_get (by assumption) | exact treeR_get (by assumption) | assumption)) | (apply s_slice tab_ok; (iterate 8 (exact rfl)); (simp; omega)) | (apply s_ext; (iterate 5 (exact rfl)))
      | (apply s_alloc tabZ_ok; (iterate 7 (exact rfl))) | (apply s_boxZ; (iterate 5 (exact rfl)); first | exact rfl | exact allD_mapd _) | (apply s_store tab_ok; (iterate 10 (exact rfl))) | (apply s_not_t; (iterate 4 (exact rfl))) | (apply s_not_f; (iterate 4 (exact rfl)))
      | (apply s_not; (iterate 4 (exact rfl))) | (apply s_eql_t; (iterate 5 (exact rfl)); omega) | (apply s_eql_f; (iterate 5 (exact rfl)); omega) | (apply s_neq_t; (iterate 5 (exact rfl)); omega) | (apply s_neq_f; (iterate 5 (exact rfl)); omega)
      | (apply s_lss_t; (iterate 5 (exact rfl)); omega) | (apply s_lss_f; (iterate 5 (exact rfl)); omega) | (apply s_geq_t; (iterate 5 (exact rfl)); omega) | (apply s_geq_f; (iterate 5 (exact rfl)); omega) | (apply s_add64; (iterate 5 (exact rfl)); omega)
      | (apply s_booleq bool_ok; (iterate 5 (exact rfl))) | (apply s_boolne bool_ok; (iterate 5 (exact rfl)))
      | (apply s_rangeF armP_ok; (iterate 5 (exact rfl)); exact hM; intro locI σ hc; have hI := hc.at'; replace hM := hc.keep hM; clear hc)
      | refine al_nil ?_ | refine q_then_n ?_ | refine q_blk_n ?_ | refine q_blk_r ?_ | refine q_blk_e ?_
      | refine q_blk_o rfl ?_ | refine q_then_e ?_ | refine aw_block ?_ | refine aw_exit ?_ | refine q_then_r ?_
      | refine aw_seq ?_ | refine aw_reg ?_ | refine aw_true rfl ?_ | refine aw_false rfl ?_ | refine aw_skip ?_
      | refine aw_ret ?_ | refine al_fork ?_ ?_ | refine al_fork3 ?_ ?_ ?_
      | refine aw_draws (id := 16) (trO [0, 1, 2, 3, 4, 5, 6, 7, 8, 9, 10, 11, 12, 13] .nil) [8] [] mixed_ok (by kernel_rfl) ?_)
  refine w_loop [1, 86] (fun n0 vs σ => ∃ seen : List Nat, vs = [.d (patsD l), .ptr locI 0 0] ∧ σ[locM]? = some (.map (entsV (Value.int .i64) (putsM [] A))) ∧ σ[locI]? = some (.iter locM (entsV (Value.int .i64) (putsM [] A)).length seen) ∧ seen.Nodup ∧ (∀ x ∈ seen, x < (entsV (Value.int .i64) (putsM [] A)).length) ∧ n0 = (entsV (Value.int .i64) (putsM [] A)).length - seen.length) rfl ⟨[], rfl, hM, hI, List.nodup_nil, by simp, rfl⟩ ?_
  clear hM hI
  rintro n0 vs σ ⟨seen, rfl, hM, hI, hnd, hlt2, rfl⟩ fr hfr
  cases hfr
  repeat' (first | refine s_op rfl ?_ | (apply s_ext; (iterate 5 (exact rfl))) | (apply s_nextF (loc := locM); (iterate 5 (exact rfl)); exact hI; exact hM; all_goals first | (intro j p hj hp σ hc) | (intro hdone)) | refine al_nil ?_ | refine q_then_n ?_ | refine q_then_e ?_ | refine aw_block ?_ | refine aw_exit ?_ | refine aw_seq ?_ | refine aw_reg ?_ | refine aw_true rfl ?_ | refine aw_false rfl ?_ | refine aw_skip ?_ | refine q_blk_e ?_)
  · repeat' (first
      | refine s_op rfl ?_ | (apply s_skipV; (iterate 2 (exact rfl))) | (apply s_skipU; (iterate 3 (exact rfl))) | (apply s_move; (iterate 4 (exact rfl))) | (apply s_ld_p tab_ok; (iterate 7 (exact rfl)))
      | (apply s_ld_f tab_ok; (iterate 6 (exact rfl))) | (apply s_ld_w tab_ok; (iterate 5 (exact rfl)); (first | exact patD_len _ | exact valD_len _ | exact brD_len _ | exact treeD_len _)) | (apply s_assign; (iterate 4 (exact rfl))) | (apply s_pick_t; (iterate 5 (exact rfl))) | (apply s_pick_f; (iterate 5 (exact rfl)))
      | (apply s_len tab_ok; (iterate 5 (exact rfl))) | (apply s_lens str_ok; (iterate 4 (exact rfl))) | (apply s_idx tab_ok; (iterate 7 (exact rfl)); (first | exact patR_get (by assumption) | exact valR_get (by assumption) | exact row_map (by assumption) | exact brR_get (by assumption) | exact treeR_get (by assumption) | assumption)) | (apply s_slice tab_ok; (iterate 8 (exact rfl)); (simp; omega)) | (apply s_ext; (iterate 5 (exact rfl)))
      | (apply s_alloc tabZ_ok; (iterate 7 (exact rfl))) | (apply s_boxZ; (iterate 5 (exact rfl)); first | exact rfl | exact allD_mapd _) | (apply s_store tab_ok; (iterate 10 (exact rfl))) | (apply s_not_t; (iterate 4 (exact rfl))) | (apply s_not_f; (iterate 4 (exact rfl)))
      | (apply s_not; (iterate 4 (exact rfl))) | (apply s_eql_t; (iterate 5 (exact rfl)); omega) | (apply s_eql_f; (iterate 5 (exact rfl)); omega) | (apply s_neq_t; (iterate 5 (exact rfl)); omega) | (apply s_neq_f; (iterate 5 (exact rfl)); omega)
      | (apply s_lss_t; (iterate 5 (exact rfl)); omega) | (apply s_lss_f; (iterate 5 (exact rfl)); omega) | (apply s_geq_t; (iterate 5 (exact rfl)); omega) | (apply s_geq_f; (iterate 5 (exact rfl)); omega) | (apply s_add64; (iterate 5 (exact rfl)); omega)
      | (apply s_booleq bool_ok; (iterate 5 (exact rfl))) | (apply s_boolne bool_ok; (iterate 5 (exact rfl)))
      | refine al_nil ?_ | refine q_then_n ?_ | refine q_blk_n ?_ | refine q_blk_r ?_ | refine q_blk_e ?_
      | refine q_blk_o rfl ?_ | refine q_then_e ?_ | refine aw_block ?_ | refine aw_exit ?_ | refine q_then_r ?_
      | refine aw_seq ?_ | refine aw_reg ?_ | refine aw_true rfl ?_ | refine aw_false rfl ?_ | refine aw_skip ?_
      | refine aw_ret ?_ | refine al_fork ?_ ?_ | refine al_fork3 ?_ ?_ ?_
      | refine aw_draws (id := 16) (trO [0, 1, 2, 3, 4, 5, 6, 7, 8, 9, 10, 11, 12, 13] .nil) [8] [] mixed_ok (by kernel_rfl) ?_)
    all_goals exact q_retB (resB_1 rfl (resV_t rfl)) ⟨_, rfl, rfl⟩
  obtain ⟨kx, vx⟩ := p
  obtain ⟨⟨n, y⟩, hn, he⟩ : ∃ q, (putsM [] A)[j]? = some q ∧ (Value.int .i64 q.1, q.2) = (kx, vx) := by
    unfold entsV at hp
    rw [List.getElem?_map] at hp
    cases hq : (putsM [] A)[j]? with
    | none => rw [hq] at hp; cases hp
    | some q => rw [hq] at hp; exact ⟨q, rfl, by simpa using hp⟩
  simp only [Prod.mk.injEq] at he
  obtain ⟨rfl, rfl⟩ := he
  have hmem : n ∈ A := by
    rcases keys_puts A [] _ (List.mem_of_getElem? hn) with h | h
    · exact h
    · cases h
  obtain ⟨hn0, hn1⟩ := hA n hmem
  have hjl : j < (entsV (Value.int .i64) (putsM [] A)).length := (List.getElem?_eq_some_iff.1 hp).1
  have hnd' : (seen ++ [j]).Nodup := by rw [List.nodup_append]; exact ⟨hnd, by simp, fun a ha b hb => by simp at hb; subst hb; exact fun e => hj (e ▸ ha)⟩
  have hlt' : ∀ x ∈ seen ++ [j], x < (entsV (Value.int .i64) (putsM [] A)).length := fun x hx => (List.mem_append.1 hx).elim (hlt2 x) fun q => by simp at q; omega
  have hle := nodup_len _ _ hnd' hlt'
  simp only [List.length_append, List.length_cons, List.length_nil] at hle
  have hne : locM ≠ locI := fun e => by rw [e, hI] at hM; cases hM
  replace hM := hc.keep hne hM
  have hI' := hc.at'
  clear hI hc
  repeat' (first
      | refine s_op rfl ?_ | (apply s_skipV; (iterate 2 (exact rfl))) | (apply s_skipU; (iterate 3 (exact rfl))) | (apply s_move; (iterate 4 (exact rfl))) | (apply s_ld_p tab_ok; (iterate 7 (exact rfl)))
      | (apply s_ld_f tab_ok; (iterate 6 (exact rfl))) | (apply s_ld_w tab_ok; (iterate 5 (exact rfl)); (first | exact patD_len _ | exact valD_len _ | exact brD_len _ | exact treeD_len _)) | (apply s_assign; (iterate 4 (exact rfl))) | (apply s_pick_t; (iterate 5 (exact rfl))) | (apply s_pick_f; (iterate 5 (exact rfl)))
      | (apply s_len tab_ok; (iterate 5 (exact rfl))) | (apply s_lens str_ok; (iterate 4 (exact rfl))) | (apply s_idx tab_ok; (iterate 7 (exact rfl)); (first | exact patR_get (by assumption) | exact valR_get (by assumption) | exact row_map (by assumption) | exact brR_get (by assumption) | exact treeR_get (by assumption) | assumption)) | (apply s_slice tab_ok; (iterate 8 (exact rfl)); (simp; omega)) | (apply s_ext; (iterate 5 (exact rfl)))
      | (apply s_alloc tabZ_ok; (iterate 7 (exact rfl))) | (apply s_boxZ; (iterate 5 (exact rfl)); first | exact rfl | exact allD_mapd _) | (apply s_store tab_ok; (iterate 10 (exact rfl))) | (apply s_not_t; (iterate 4 (exact rfl))) | (apply s_not_f; (iterate 4 (exact rfl)))
      | (apply s_not; (iterate 4 (exact rfl))) | (apply s_eql_t; (iterate 5 (exact rfl)); omega) | (apply s_eql_f; (iterate 5 (exact rfl)); omega) | (apply s_neq_t; (iterate 5 (exact rfl)); omega) | (apply s_neq_f; (iterate 5 (exact rfl)); omega)
      | (apply s_lss_t; (iterate 5 (exact rfl)); omega) | (apply s_lss_f; (iterate 5 (exact rfl)); omega) | (apply s_geq_t; (iterate 5 (exact rfl)); omega) | (apply s_geq_f; (iterate 5 (exact rfl)); omega) | (apply s_add64; (iterate 5 (exact rfl)); omega)
      | (apply s_booleq bool_ok; (iterate 5 (exact rfl))) | (apply s_boolne bool_ok; (iterate 5 (exact rfl)))
      | (apply s_entry (loc := locM) (j := j); (iterate 4 (exact rfl)); exact hI'; exact hM; exact hp; exact rfl)
      | refine al_nil ?_ | refine q_then_n ?_ | refine q_blk_n ?_ | refine q_blk_r ?_ | refine q_blk_e ?_
      | refine q_blk_o rfl ?_ | refine q_then_e ?_ | refine aw_block ?_ | refine aw_exit ?_ | refine q_then_r ?_
      | refine aw_seq ?_ | refine aw_reg ?_ | refine aw_true rfl ?_ | refine aw_false rfl ?_ | refine aw_skip ?_
      | refine aw_ret ?_ | refine al_fork ?_ ?_ | refine al_fork3 ?_ ?_ ?_
      | refine aw_draws (id := 16) (trO [0, 1, 2, 3, 4, 5, 6, 7, 8, 9, 10, 11, 12, 13] .nil) [8] [] mixed_ok (by kernel_rfl) ?_)
  all_goals exact ⟨_, _, rfl, by (simp only [List.length_append, List.length_cons, List.length_nil]; omega), seen ++ [j], rfl, hM, hI', hnd', hlt', rfl⟩
set_option maxRecDepth 100000 in
set_option maxHeartbeats 8000000 in
theorem shape_arms (hll : l.length ≤ 140737488355328) (hA : ∀ n ∈ A, 0 ≤ n ∧ n < l.length)
    (hcov : ∀ (i : Nat) p, l[i]? = some p → RunsP Try.prog 28 [.agg (sigD g), patsD (l.take i), .agg (patD p)] (fun v => v = .tup [.v (.bool (!decide ((i : Int) ∈ A))), .v (.int .i64 0)]))
    (hM : σ[locM]? = some (.map (entsV (Value.int .i64) (putsM [] A)))) {X : Code} (hX : s13 = some X) :
    AWk Try.prog 99 X (retQB tab Try.f11 TrueQ) [(1, .d (patsD l)), (2, .d (.fptr (sigD g))), (10, .mp locM)] σ := by
  have e1 := patR_len l
  cases hX
  repeat' (first
      | refine s_op rfl ?_ | (apply s_skipV; (iterate 2 (exact rfl))) | (apply s_skipU; (iterate 3 (exact rfl))) | (apply s_move; (iterate 4 (exact rfl))) | (apply s_ld_p tab_ok; (iterate 7 (exact rfl)))
      | (apply s_ld_f tab_ok; (iterate 6 (exact rfl))) | (apply s_ld_w tab_ok; (iterate 5 (exact rfl)); (first | exact patD_len _ | exact valD_len _ | exact brD_len _ | exact treeD_len _)) | (apply s_assign; (iterate 4 (exact rfl))) | (apply s_pick_t; (iterate 5 (exact rfl))) | (apply s_pick_f; (iterate 5 (exact rfl)))
      | (apply s_len tab_ok; (iterate 5 (exact rfl))) | (apply s_lens str_ok; (iterate 4 (exact rfl))) | (apply s_idx tab_ok; (iterate 7 (exact rfl)); (first | exact patR_get (by assumption) | exact valR_get (by assumption) | exact row_map (by assumption) | exact brR_get (by assumption) | exact treeR_get (by assumption) | assumption)) | (apply s_slice tab_ok; (iterate 8 (exact rfl)); (simp; omega)) | (apply s_ext; (iterate 5 (exact rfl)))
      | (apply s_alloc tabZ_ok; (iterate 7 (exact rfl))) | (apply s_boxZ; (iterate 5 (exact rfl)); first | exact rfl | exact allD_mapd _) | (apply s_store tab_ok; (iterate 10 (exact rfl))) | (apply s_not_t; (iterate 4 (exact rfl))) | (apply s_not_f; (iterate 4 (exact rfl)))
      | (apply s_not; (iterate 4 (exact rfl))) | (apply s_eql_t; (iterate 5 (exact rfl)); omega) | (apply s_eql_f; (iterate 5 (exact rfl)); omega) | (apply s_neq_t; (iterate 5 (exact rfl)); omega) | (apply s_neq_f; (iterate 5 (exact rfl)); omega)
      | (apply s_lss_t; (iterate 5 (exact rfl)); omega) | (apply s_lss_f; (iterate 5 (exact rfl)); omega) | (apply s_geq_t; (iterate 5 (exact rfl)); omega) | (apply s_geq_f; (iterate 5 (exact rfl)); omega) | (apply s_add64; (iterate 5 (exact rfl)); omega)
      | (apply s_booleq bool_ok; (iterate 5 (exact rfl))) | (apply s_boolne bool_ok; (iterate 5 (exact rfl)))
      | refine al_nil ?_ | refine q_then_n ?_ | refine q_blk_n ?_ | refine q_blk_r ?_ | refine q_blk_e ?_
      | refine q_blk_o rfl ?_ | refine q_then_e ?_ | refine aw_block ?_ | refine aw_exit ?_ | refine q_then_r ?_
      | refine aw_seq ?_ | refine aw_reg ?_ | refine aw_true rfl ?_ | refine aw_false rfl ?_ | refine aw_skip ?_
      | refine aw_ret ?_ | refine al_fork ?_ ?_ | refine al_fork3 ?_ ?_ ?_
      | refine aw_draws (id := 16) (trO [0, 1, 2, 3, 4, 5, 6, 7, 8, 9, 10, 11, 12, 13] .nil) [8] [] mixed_ok (by kernel_rfl) ?_)
  refine w_loop [1, 2, 10, 59, 60] (fun n0 vs σ => ∃ i : Nat, vs = [.d (patsD l), .d (.fptr (sigD g)), .mp locM, .d (.v (.int .i64 ((patR l).length : Int))), .d (.v (.int .i64 (i : Int)))] ∧ σ[locM]? = some (.map (entsV (Value.int .i64) (putsM [] A))) ∧ i ≤ l.length ∧ n0 = l.length - i) rfl ⟨0, rfl, hM, by omega, rfl⟩ ?_
  clear hM
  rintro n0 vs σ ⟨i, rfl, hM, hi, rfl⟩ fr hfr
  cases hfr
  by_cases hil : i < l.length
  · obtain ⟨⟨pk, pn, pi, ps, pa, pb, pc, pl⟩, hp⟩ := getS hil
    have hc := hcov i _ hp
    have hg : (getA (i : Int) (putsM [] A)).getD boolZ = .d (.v (.bool (decide ((i : Int) ∈ A)))) := by
      rw [getA_puts]
      by_cases h : (i : Int) ∈ A
      · rw [if_pos h, decide_eq_true h]; rfl
      · rw [if_neg h, decide_eq_false h]; rfl
    generalize decide ((i : Int) ∈ A) = b at hc hg
    clear hcov hA
    cases b
    all_goals
      simp only [Bool.not_true, Bool.not_false] at hc
      repeat' (first
      | refine s_op rfl ?_ | (apply s_skipV; (iterate 2 (exact rfl))) | (apply s_skipU; (iterate 3 (exact rfl))) | (apply s_move; (iterate 4 (exact rfl))) | (apply s_ld_p tab_ok; (iterate 7 (exact rfl)))
      | (apply s_ld_f tab_ok; (iterate 6 (exact rfl))) | (apply s_ld_w tab_ok; (iterate 5 (exact rfl)); (first | exact patD_len _ | exact valD_len _ | exact brD_len _ | exact treeD_len _)) | (apply s_assign; (iterate 4 (exact rfl))) | (apply s_pick_t; (iterate 5 (exact rfl))) | (apply s_pick_f; (iterate 5 (exact rfl)))
      | (apply s_len tab_ok; (iterate 5 (exact rfl))) | (apply s_lens str_ok; (iterate 4 (exact rfl))) | (apply s_idx tab_ok; (iterate 7 (exact rfl)); (first | exact patR_get (by assumption) | exact valR_get (by assumption) | exact row_map (by assumption) | exact brR_get (by assumption) | exact treeR_get (by assumption) | assumption)) | (apply s_ext; (iterate 5 (exact rfl))) | (apply s_alloc tabZ_ok; (iterate 7 (exact rfl)))
      | (apply s_boxZ; (iterate 5 (exact rfl)); first | exact rfl | exact allD_mapd _) | (apply s_store tab_ok; (iterate 10 (exact rfl))) | (apply s_not_t; (iterate 4 (exact rfl))) | (apply s_not_f; (iterate 4 (exact rfl))) | (apply s_not; (iterate 4 (exact rfl)))
      | (apply s_eql_t; (iterate 5 (exact rfl)); omega) | (apply s_eql_f; (iterate 5 (exact rfl)); omega) | (apply s_neq_t; (iterate 5 (exact rfl)); omega) | (apply s_neq_f; (iterate 5 (exact rfl)); omega) | (apply s_lss_t; (iterate 5 (exact rfl)); omega)
      | (apply s_lss_f; (iterate 5 (exact rfl)); omega) | (apply s_geq_t; (iterate 5 (exact rfl)); omega) | (apply s_geq_f; (iterate 5 (exact rfl)); omega) | (apply s_add64; (iterate 5 (exact rfl)); omega) | (apply s_booleq bool_ok; (iterate 5 (exact rfl)))
      | (apply s_boolne bool_ok; (iterate 5 (exact rfl)))
      | (apply s_sliceE tab_ok (d := 67) (rows' := patR (l.take i)); (iterate 8 (exact rfl)); (refine ⟨?_, ?_, ?_⟩ <;> (simp only [Option.getD_some, Option.getD_none] <;> omega)); (simp only [Option.getD_some, Option.getD_none]; rw [patR_take]; simp))
      | (apply s_lookup1 armK armP_ok boolZ_ok (i : Int) (putsM [] A) (.d (.v (.bool _))); (iterate 4 (exact rfl)); exact hM; exact rfl; exact hg)
      | (apply s_call; (iterate 6 (exact rfl)); first | (exact hc; rintro _ rfl))
      | refine al_nil ?_ | refine q_then_n ?_ | refine q_blk_n ?_ | refine q_blk_r ?_ | refine q_blk_e ?_
      | refine q_blk_o rfl ?_ | refine q_then_e ?_ | refine aw_block ?_ | refine aw_exit ?_ | refine q_then_r ?_
      | refine aw_seq ?_ | refine aw_reg ?_ | refine aw_true rfl ?_ | refine aw_false rfl ?_ | refine aw_skip ?_
      | refine aw_ret ?_ | refine al_fork ?_ ?_ | refine al_fork3 ?_ ?_ ?_
      | refine aw_draws (id := 16) (trO [0, 1, 2, 3, 4, 5, 6, 7, 8, 9, 10, 11, 12, 13] .nil) [8] [] mixed_ok (by kernel_rfl) ?_)
      all_goals exact ⟨_, _, rfl, by omega, i + 1, rfl, hM, by omega, rfl⟩
  · repeat' (first
      | refine s_op rfl ?_ | (apply s_skipV; (iterate 2 (exact rfl))) | (apply s_skipU; (iterate 3 (exact rfl))) | (apply s_move; (iterate 4 (exact rfl))) | (apply s_ld_p tab_ok; (iterate 7 (exact rfl)))
      | (apply s_ld_f tab_ok; (iterate 6 (exact rfl))) | (apply s_ld_w tab_ok; (iterate 5 (exact rfl)); (first | exact patD_len _ | exact valD_len _ | exact brD_len _ | exact treeD_len _)) | (apply s_assign; (iterate 4 (exact rfl))) | (apply s_pick_t; (iterate 5 (exact rfl))) | (apply s_pick_f; (iterate 5 (exact rfl)))
      | (apply s_len tab_ok; (iterate 5 (exact rfl))) | (apply s_lens str_ok; (iterate 4 (exact rfl))) | (apply s_idx tab_ok; (iterate 7 (exact rfl)); (first | exact patR_get (by assumption) | exact valR_get (by assumption) | exact row_map (by assumption) | exact brR_get (by assumption) | exact treeR_get (by assumption) | assumption)) | (apply s_slice tab_ok; (iterate 8 (exact rfl)); (simp; omega)) | (apply s_ext; (iterate 5 (exact rfl)))
      | (apply s_alloc tabZ_ok; (iterate 7 (exact rfl))) | (apply s_boxZ; (iterate 5 (exact rfl)); first | exact rfl | exact allD_mapd _) | (apply s_store tab_ok; (iterate 10 (exact rfl))) | (apply s_not_t; (iterate 4 (exact rfl))) | (apply s_not_f; (iterate 4 (exact rfl)))
      | (apply s_not; (iterate 4 (exact rfl))) | (apply s_eql_t; (iterate 5 (exact rfl)); omega) | (apply s_eql_f; (iterate 5 (exact rfl)); omega) | (apply s_neq_t; (iterate 5 (exact rfl)); omega) | (apply s_neq_f; (iterate 5 (exact rfl)); omega)
      | (apply s_lss_t; (iterate 5 (exact rfl)); omega) | (apply s_lss_f; (iterate 5 (exact rfl)); omega) | (apply s_geq_t; (iterate 5 (exact rfl)); omega) | (apply s_geq_f; (iterate 5 (exact rfl)); omega) | (apply s_add64; (iterate 5 (exact rfl)); omega)
      | (apply s_booleq bool_ok; (iterate 5 (exact rfl))) | (apply s_boolne bool_ok; (iterate 5 (exact rfl)))
      | (refine w_keep [1, 10] rfl rfl ?_; exact shape_keys hA hM rfl)
      | refine al_nil ?_ | refine q_then_n ?_ | refine q_blk_n ?_ | refine q_blk_r ?_ | refine q_blk_e ?_
      | refine q_blk_o rfl ?_ | refine q_then_e ?_ | refine aw_block ?_ | refine aw_exit ?_ | refine q_then_r ?_
      | refine aw_seq ?_ | refine aw_reg ?_ | refine aw_true rfl ?_ | refine aw_false rfl ?_ | refine aw_skip ?_
      | refine aw_ret ?_ | refine al_fork ?_ ?_ | refine al_fork3 ?_ ?_ ?_
      | refine aw_draws (id := 16) (trO [0, 1, 2, 3, 4, 5, 6, 7, 8, 9, 10, 11, 12, 13] .nil) [8] [] mixed_ok (by kernel_rfl) ?_)
end
section
variable {g : Sg} {l : List Pat} {t : TreeT} {A : List Int} {f n : Int} {q : Pat} {K : Prop}
set_option maxRecDepth 100000 in
set_option maxHeartbeats 8000000 in
theorem shape_ok (hkn : RunsP Try.prog 12 [] (fun v => v = .v (.bool true))) (hgr : RunsP Try.prog 13 [.agg (sigD g), patsD l] (fun v => ∃ b : Bool, v = .v (.bool b) ∧ (b = false → K)))
    (b1 : RunsP Try.prog 14 [.agg (sigD g), patsD l] (fun v => v = builtD (t, 0))) (c1 : RunsP Try.prog 22 [.agg (sigD g), patsD l] (fun v => v = resC q n f)) {ms : Bool} (hms : ms = decide (f = 150))
    (w1 : ∀ (locM : Nat) (σ : List AObj), σ[locM]? = some (.map (entsV (Value.int .i64) [])) → Runs Try.prog 45 [.d (.agg (treeD t)), .d .nil, .mp locM] σ (WalkR locM ms true (putsM [] A)))
    (hnext : ∀ (locM : Nat) (σ : List AObj) (X : Code), σ[locM]? = some (.map (entsV (Value.int .i64) (putsM [] A))) → s13 = some X → AWk Try.prog 99 X (retQB tab Try.f11 TrueQ) [(1, .d (patsD l)), (2, .d (.fptr (sigD g))), (10, .mp locM)] σ) :
    RunsP Try.prog 11 [.agg (sigD g), patsD l] (fun r => r = .v (.bool true)) := by
  obtain ⟨qk, qn, qi, qs, qa, qb, qc, ql⟩ := q
  obtain ⟨bk, bn, bi, bs, k, tn, p, c, te⟩ := t
  refine enterPB 99 tab_ok Try.func11 rfl (by kernel_rfl) rfl rfl rfl ?_
  by_cases hf : f = 150
  · subst hf
    have : ms = true := hms
    subst this
    clear hms
    repeat' (first
      | refine s_op rfl ?_ | (apply s_skipV; (iterate 2 (exact rfl))) | (apply s_skipU; (iterate 3 (exact rfl))) | (apply s_move; (iterate 4 (exact rfl))) | (apply s_ld_p tab_ok; (iterate 7 (exact rfl)))
      | (apply s_ld_f tab_ok; (iterate 6 (exact rfl))) | (apply s_ld_w tab_ok; (iterate 5 (exact rfl)); (first | exact patD_len _ | exact valD_len _ | exact brD_len _ | exact treeD_len _)) | (apply s_assign; (iterate 4 (exact rfl))) | (apply s_pick_t; (iterate 5 (exact rfl))) | (apply s_pick_f; (iterate 5 (exact rfl)))
      | (apply s_len tab_ok; (iterate 5 (exact rfl))) | (apply s_lens str_ok; (iterate 4 (exact rfl))) | (apply s_idx tab_ok; (iterate 7 (exact rfl)); (first | exact patR_get (by assumption) | exact valR_get (by assumption) | exact row_map (by assumption) | exact brR_get (by assumption) | exact treeR_get (by assumption) | assumption)) | (apply s_slice tab_ok; (iterate 8 (exact rfl)); (simp; omega)) | (apply s_ext; (iterate 5 (exact rfl)))
      | (apply s_boxZ; (iterate 5 (exact rfl)); first | exact rfl | exact allD_mapd _) | (apply s_not_t; (iterate 4 (exact rfl))) | (apply s_not_f; (iterate 4 (exact rfl))) | (apply s_not; (iterate 4 (exact rfl))) | (apply s_eql_t; (iterate 5 (exact rfl)); omega)
      | (apply s_eql_f; (iterate 5 (exact rfl)); omega) | (apply s_neq_t; (iterate 5 (exact rfl)); omega) | (apply s_neq_f; (iterate 5 (exact rfl)); omega) | (apply s_lss_t; (iterate 5 (exact rfl)); omega) | (apply s_lss_f; (iterate 5 (exact rfl)); omega)
      | (apply s_geq_t; (iterate 5 (exact rfl)); omega) | (apply s_geq_f; (iterate 5 (exact rfl)); omega) | (apply s_add64; (iterate 5 (exact rfl)); omega) | (apply s_booleq bool_ok; (iterate 5 (exact rfl))) | (apply s_boolne bool_ok; (iterate 5 (exact rfl)))
      | (apply s_call; (iterate 6 (exact rfl)); exact hgr; rintro _ ⟨b, rfl, hb⟩; cases b)
      | (apply s_allocF tabZ_ok (d := 5); (iterate 6 (exact rfl)); intro locX σ hc; have hX := hc.at'; clear hc)
      | (apply s_storeF tab_ok; (iterate 7 (exact rfl)); exact hX; (iterate 2 (exact rfl)); intro σ hc; replace hX := hc.at'; clear hc; refine s_freezeP 5 rfl hX rfl ?_; intro σ hc; clear hc hX)
      | (apply s_allocF tabZ_ok (d := 7); (iterate 6 (exact rfl)); intro locY σ hc; have hY := hc.at'; clear hc)
      | (apply s_storeF tab_ok; (iterate 7 (exact rfl)); exact hY; (iterate 2 (exact rfl)); intro σ hc; clear hc hY)
      | (apply s_makeMapF (Value.int .i64 : Int → Value) (d := 43); (iterate 4 (exact rfl)); intro locM σ hc; have hM := hc.at'; clear hc)
      | (apply s_callS; (iterate 6 (exact rfl)); exact w1 _ _ hM; rintro _ σ3 ⟨rfl, hM3⟩; replace hM := hM3; clear hM3)
      | (refine w_keep [1, 2, 10] rfl rfl ?_; exact hnext _ _ _ hM rfl)
      | (apply s_call; (iterate 6 (exact rfl)); first | (exact hkn; rintro _ rfl) | (exact b1; rintro _ rfl) | (exact c1; rintro _ rfl))
      | refine al_nil ?_ | refine q_then_n ?_ | refine q_blk_n ?_ | refine q_blk_r ?_ | refine q_blk_e ?_
      | refine q_blk_o rfl ?_ | refine q_then_e ?_ | refine aw_block ?_ | refine aw_exit ?_ | refine q_then_r ?_
      | refine aw_seq ?_ | refine aw_reg ?_ | refine aw_true rfl ?_ | refine aw_false rfl ?_ | refine aw_skip ?_
      | refine aw_ret ?_ | refine al_fork ?_ ?_ | refine al_fork3 ?_ ?_ ?_
      | refine aw_draws (id := 16) (trO [0, 1, 2, 3, 4, 5, 6, 7, 8, 9, 10, 11, 12, 13] .nil) [8] [] mixed_ok (by kernel_rfl) ?_)
    all_goals exact q_retB (resB_1 rfl (resV_t rfl)) ⟨_, rfl, rfl⟩
  · have hd : ms = false := by rw [hms]; exact decide_eq_false hf
    subst hd
    clear hms
    repeat' (first
      | refine s_op rfl ?_ | (apply s_skipV; (iterate 2 (exact rfl))) | (apply s_skipU; (iterate 3 (exact rfl))) | (apply s_move; (iterate 4 (exact rfl))) | (apply s_ld_p tab_ok; (iterate 7 (exact rfl)))
      | (apply s_ld_f tab_ok; (iterate 6 (exact rfl))) | (apply s_ld_w tab_ok; (iterate 5 (exact rfl)); (first | exact patD_len _ | exact valD_len _ | exact brD_len _ | exact treeD_len _)) | (apply s_assign; (iterate 4 (exact rfl))) | (apply s_pick_t; (iterate 5 (exact rfl))) | (apply s_pick_f; (iterate 5 (exact rfl)))
      | (apply s_len tab_ok; (iterate 5 (exact rfl))) | (apply s_lens str_ok; (iterate 4 (exact rfl))) | (apply s_idx tab_ok; (iterate 7 (exact rfl)); (first | exact patR_get (by assumption) | exact valR_get (by assumption) | exact row_map (by assumption) | exact brR_get (by assumption) | exact treeR_get (by assumption) | assumption)) | (apply s_slice tab_ok; (iterate 8 (exact rfl)); (simp; omega)) | (apply s_ext; (iterate 5 (exact rfl)))
      | (apply s_boxZ; (iterate 5 (exact rfl)); first | exact rfl | exact allD_mapd _) | (apply s_not_t; (iterate 4 (exact rfl))) | (apply s_not_f; (iterate 4 (exact rfl))) | (apply s_not; (iterate 4 (exact rfl))) | (apply s_eql_t; (iterate 5 (exact rfl)); omega)
      | (apply s_eql_f; (iterate 5 (exact rfl)); omega) | (apply s_neq_t; (iterate 5 (exact rfl)); omega) | (apply s_neq_f; (iterate 5 (exact rfl)); omega) | (apply s_lss_t; (iterate 5 (exact rfl)); omega) | (apply s_lss_f; (iterate 5 (exact rfl)); omega)
      | (apply s_geq_t; (iterate 5 (exact rfl)); omega) | (apply s_geq_f; (iterate 5 (exact rfl)); omega) | (apply s_add64; (iterate 5 (exact rfl)); omega) | (apply s_booleq bool_ok; (iterate 5 (exact rfl))) | (apply s_boolne bool_ok; (iterate 5 (exact rfl)))
      | (apply s_call; (iterate 6 (exact rfl)); exact hgr; rintro _ ⟨b, rfl, hb⟩; cases b)
      | (apply s_allocF tabZ_ok (d := 5); (iterate 6 (exact rfl)); intro locX σ hc; have hX := hc.at'; clear hc)
      | (apply s_storeF tab_ok; (iterate 7 (exact rfl)); exact hX; (iterate 2 (exact rfl)); intro σ hc; replace hX := hc.at'; clear hc; refine s_freezeP 5 rfl hX rfl ?_; intro σ hc; clear hc hX)
      | (apply s_allocF tabZ_ok (d := 7); (iterate 6 (exact rfl)); intro locY σ hc; have hY := hc.at'; clear hc)
      | (apply s_storeF tab_ok; (iterate 7 (exact rfl)); exact hY; (iterate 2 (exact rfl)); intro σ hc; clear hc hY)
      | (apply s_makeMapF (Value.int .i64 : Int → Value) (d := 43); (iterate 4 (exact rfl)); intro locM σ hc; have hM := hc.at'; clear hc)
      | (apply s_callS; (iterate 6 (exact rfl)); exact w1 _ _ hM; rintro _ σ3 ⟨rfl, hM3⟩; replace hM := hM3; clear hM3)
      | (refine w_keep [1, 2, 10] rfl rfl ?_; exact hnext _ _ _ hM rfl)
      | (apply s_call; (iterate 6 (exact rfl)); first | (exact hkn; rintro _ rfl) | (exact b1; rintro _ rfl) | (exact c1; rintro _ rfl))
      | refine al_nil ?_ | refine q_then_n ?_ | refine q_blk_n ?_ | refine q_blk_r ?_ | refine q_blk_e ?_
      | refine q_blk_o rfl ?_ | refine q_then_e ?_ | refine aw_block ?_ | refine aw_exit ?_ | refine q_then_r ?_
      | refine aw_seq ?_ | refine aw_reg ?_ | refine aw_true rfl ?_ | refine aw_false rfl ?_ | refine aw_skip ?_
      | refine aw_ret ?_ | refine al_fork ?_ ?_ | refine al_fork3 ?_ ?_ ?_
      | refine aw_draws (id := 16) (trO [0, 1, 2, 3, 4, 5, 6, 7, 8, 9, 10, 11, 12, 13] .nil) [8] [] mixed_ok (by kernel_rfl) ?_)
    all_goals exact q_retB (resB_1 rfl (resV_t rfl)) ⟨_, rfl, rfl⟩
set_option maxRecDepth 100000 in
set_option maxHeartbeats 8000000 in
theorem shape_err {e : Int} (he : e ≠ 0) (hef : e = 160 ∨ f = 2) (hkn : RunsP Try.prog 12 [] (fun v => v = .v (.bool true))) (hgr : RunsP Try.prog 13 [.agg (sigD g), patsD l] (fun v => ∃ b : Bool, v = .v (.bool b) ∧ (b = false → K)))
    (b1 : RunsP Try.prog 14 [.agg (sigD g), patsD l] (fun v => v = builtD (t, e))) (c1 : RunsP Try.prog 22 [.agg (sigD g), patsD l] (fun v => v = resC q n f)) :
    RunsP Try.prog 11 [.agg (sigD g), patsD l] (fun r => r = .v (.bool true)) := by
  obtain ⟨qk, qn, qi, qs, qa, qb, qc, ql⟩ := q
  obtain ⟨bk, bn, bi, bs, k, tn, p, c, te⟩ := t
  refine enterPB 99 tab_ok Try.func11 rfl (by kernel_rfl) rfl rfl rfl ?_
  by_cases h160 : e = 160
  · subst h160
    repeat' (first
      | refine s_op rfl ?_ | (apply s_skipV; (iterate 2 (exact rfl))) | (apply s_skipU; (iterate 3 (exact rfl))) | (apply s_move; (iterate 4 (exact rfl))) | (apply s_ld_p tab_ok; (iterate 7 (exact rfl)))
      | (apply s_ld_f tab_ok; (iterate 6 (exact rfl))) | (apply s_ld_w tab_ok; (iterate 5 (exact rfl)); (first | exact patD_len _ | exact valD_len _ | exact brD_len _ | exact treeD_len _)) | (apply s_assign; (iterate 4 (exact rfl))) | (apply s_pick_t; (iterate 5 (exact rfl))) | (apply s_pick_f; (iterate 5 (exact rfl)))
      | (apply s_len tab_ok; (iterate 5 (exact rfl))) | (apply s_lens str_ok; (iterate 4 (exact rfl))) | (apply s_idx tab_ok; (iterate 7 (exact rfl)); (first | exact patR_get (by assumption) | exact valR_get (by assumption) | exact row_map (by assumption) | exact brR_get (by assumption) | exact treeR_get (by assumption) | assumption)) | (apply s_slice tab_ok; (iterate 8 (exact rfl)); (simp; omega)) | (apply s_ext; (iterate 5 (exact rfl)))
      | (apply s_boxZ; (iterate 5 (exact rfl)); first | exact rfl | exact allD_mapd _) | (apply s_not_t; (iterate 4 (exact rfl))) | (apply s_not_f; (iterate 4 (exact rfl))) | (apply s_not; (iterate 4 (exact rfl))) | (apply s_eql_t; (iterate 5 (exact rfl)); omega)
      | (apply s_eql_f; (iterate 5 (exact rfl)); omega) | (apply s_neq_t; (iterate 5 (exact rfl)); omega) | (apply s_neq_f; (iterate 5 (exact rfl)); omega) | (apply s_lss_t; (iterate 5 (exact rfl)); omega) | (apply s_lss_f; (iterate 5 (exact rfl)); omega)
      | (apply s_geq_t; (iterate 5 (exact rfl)); omega) | (apply s_geq_f; (iterate 5 (exact rfl)); omega) | (apply s_add64; (iterate 5 (exact rfl)); omega) | (apply s_booleq bool_ok; (iterate 5 (exact rfl))) | (apply s_boolne bool_ok; (iterate 5 (exact rfl)))
      | (apply s_call; (iterate 6 (exact rfl)); exact hgr; rintro _ ⟨b, rfl, hb⟩; cases b)
      | (apply s_allocF tabZ_ok (d := 5); (iterate 6 (exact rfl)); intro locX σ hc; have hX := hc.at'; clear hc)
      | (apply s_storeF tab_ok; (iterate 7 (exact rfl)); exact hX; (iterate 2 (exact rfl)); intro σ hc; replace hX := hc.at'; clear hc; refine s_freezeP 5 rfl hX rfl ?_; intro σ hc; clear hc hX)
      | (apply s_allocF tabZ_ok (d := 7); (iterate 6 (exact rfl)); intro locY σ hc; have hY := hc.at'; clear hc)
      | (apply s_storeF tab_ok; (iterate 7 (exact rfl)); exact hY; (iterate 2 (exact rfl)); intro σ hc; clear hc hY)
      | (apply s_call; (iterate 6 (exact rfl)); first | (exact hkn; rintro _ rfl) | (exact b1; rintro _ rfl) | (exact c1; rintro _ rfl))
      | refine al_nil ?_ | refine q_then_n ?_ | refine q_blk_n ?_ | refine q_blk_r ?_ | refine q_blk_e ?_
      | refine q_blk_o rfl ?_ | refine q_then_e ?_ | refine aw_block ?_ | refine aw_exit ?_ | refine q_then_r ?_
      | refine aw_seq ?_ | refine aw_reg ?_ | refine aw_true rfl ?_ | refine aw_false rfl ?_ | refine aw_skip ?_
      | refine aw_ret ?_ | refine al_fork ?_ ?_ | refine al_fork3 ?_ ?_ ?_
      | refine aw_draws (id := 16) (trO [0, 1, 2, 3, 4, 5, 6, 7, 8, 9, 10, 11, 12, 13] .nil) [8] [] mixed_ok (by kernel_rfl) ?_)
    all_goals exact q_retB (resB_1 rfl (resV_t rfl)) ⟨_, rfl, rfl⟩
  · have hf := hef.resolve_left h160
    subst hf
    repeat' (first
      | refine s_op rfl ?_ | (apply s_skipV; (iterate 2 (exact rfl))) | (apply s_skipU; (iterate 3 (exact rfl))) | (apply s_move; (iterate 4 (exact rfl))) | (apply s_ld_p tab_ok; (iterate 7 (exact rfl)))
      | (apply s_ld_f tab_ok; (iterate 6 (exact rfl))) | (apply s_ld_w tab_ok; (iterate 5 (exact rfl)); (first | exact patD_len _ | exact valD_len _ | exact brD_len _ | exact treeD_len _)) | (apply s_assign; (iterate 4 (exact rfl))) | (apply s_pick_t; (iterate 5 (exact rfl))) | (apply s_pick_f; (iterate 5 (exact rfl)))
      | (apply s_len tab_ok; (iterate 5 (exact rfl))) | (apply s_lens str_ok; (iterate 4 (exact rfl))) | (apply s_idx tab_ok; (iterate 7 (exact rfl)); (first | exact patR_get (by assumption) | exact valR_get (by assumption) | exact row_map (by assumption) | exact brR_get (by assumption) | exact treeR_get (by assumption) | assumption)) | (apply s_slice tab_ok; (iterate 8 (exact rfl)); (simp; omega)) | (apply s_ext; (iterate 5 (exact rfl)))
      | (apply s_boxZ; (iterate 5 (exact rfl)); first | exact rfl | exact allD_mapd _) | (apply s_not_t; (iterate 4 (exact rfl))) | (apply s_not_f; (iterate 4 (exact rfl))) | (apply s_not; (iterate 4 (exact rfl))) | (apply s_eql_t; (iterate 5 (exact rfl)); omega)
      | (apply s_eql_f; (iterate 5 (exact rfl)); omega) | (apply s_neq_t; (iterate 5 (exact rfl)); omega) | (apply s_neq_f; (iterate 5 (exact rfl)); omega) | (apply s_lss_t; (iterate 5 (exact rfl)); omega) | (apply s_lss_f; (iterate 5 (exact rfl)); omega)
      | (apply s_geq_t; (iterate 5 (exact rfl)); omega) | (apply s_geq_f; (iterate 5 (exact rfl)); omega) | (apply s_add64; (iterate 5 (exact rfl)); omega) | (apply s_booleq bool_ok; (iterate 5 (exact rfl))) | (apply s_boolne bool_ok; (iterate 5 (exact rfl)))
      | (apply s_call; (iterate 6 (exact rfl)); exact hgr; rintro _ ⟨b, rfl, hb⟩; cases b)
      | (apply s_allocF tabZ_ok (d := 5); (iterate 6 (exact rfl)); intro locX σ hc; have hX := hc.at'; clear hc)
      | (apply s_storeF tab_ok; (iterate 7 (exact rfl)); exact hX; (iterate 2 (exact rfl)); intro σ hc; replace hX := hc.at'; clear hc; refine s_freezeP 5 rfl hX rfl ?_; intro σ hc; clear hc hX)
      | (apply s_allocF tabZ_ok (d := 7); (iterate 6 (exact rfl)); intro locY σ hc; have hY := hc.at'; clear hc)
      | (apply s_storeF tab_ok; (iterate 7 (exact rfl)); exact hY; (iterate 2 (exact rfl)); intro σ hc; clear hc hY)
      | (apply s_call; (iterate 6 (exact rfl)); first | (exact hkn; rintro _ rfl) | (exact b1; rintro _ rfl) | (exact c1; rintro _ rfl))
      | refine al_nil ?_ | refine q_then_n ?_ | refine q_blk_n ?_ | refine q_blk_r ?_ | refine q_blk_e ?_
      | refine q_blk_o rfl ?_ | refine q_then_e ?_ | refine aw_block ?_ | refine aw_exit ?_ | refine q_then_r ?_
      | refine aw_seq ?_ | refine aw_reg ?_ | refine aw_true rfl ?_ | refine aw_false rfl ?_ | refine aw_skip ?_
      | refine aw_ret ?_ | refine al_fork ?_ ?_ | refine al_fork3 ?_ ?_ ?_
      | refine aw_draws (id := 16) (trO [0, 1, 2, 3, 4, 5, 6, 7, 8, 9, 10, 11, 12, 13] .nil) [8] [] mixed_ok (by kernel_rfl) ?_)
    all_goals exact q_retB (resB_1 rfl (resV_t rfl)) ⟨_, rfl, rfl⟩
set_option maxRecDepth 100000 in
set_option maxHeartbeats 8000000 in
theorem shape_great (hK : ¬ K) (hkn : RunsP Try.prog 12 [] (fun v => v = .v (.bool true))) (hgr : RunsP Try.prog 13 [.agg (sigD g), patsD l] (fun v => ∃ b : Bool, v = .v (.bool b) ∧ (b = false → K))) :
    RunsP Try.prog 11 [.agg (sigD g), patsD l] (fun r => r = .v (.bool true)) := by
  refine enterPB 99 tab_ok Try.func11 rfl (by kernel_rfl) rfl rfl rfl ?_
  repeat' (first
      | refine s_op rfl ?_ | (apply s_skipV; (iterate 2 (exact rfl))) | (apply s_skipU; (iterate 3 (exact rfl))) | (apply s_move; (iterate 4 (exact rfl))) | (apply s_ld_p tab_ok; (iterate 7 (exact rfl)))
      | (apply s_ld_f tab_ok; (iterate 6 (exact rfl))) | (apply s_ld_w tab_ok; (iterate 5 (exact rfl)); (first | exact patD_len _ | exact valD_len _ | exact brD_len _ | exact treeD_len _)) | (apply s_assign; (iterate 4 (exact rfl))) | (apply s_pick_t; (iterate 5 (exact rfl))) | (apply s_pick_f; (iterate 5 (exact rfl)))
      | (apply s_len tab_ok; (iterate 5 (exact rfl))) | (apply s_lens str_ok; (iterate 4 (exact rfl))) | (apply s_idx tab_ok; (iterate 7 (exact rfl)); (first | exact patR_get (by assumption) | exact valR_get (by assumption) | exact row_map (by assumption) | exact brR_get (by assumption) | exact treeR_get (by assumption) | assumption)) | (apply s_slice tab_ok; (iterate 8 (exact rfl)); (simp; omega)) | (apply s_ext; (iterate 5 (exact rfl)))
      | (apply s_alloc tabZ_ok; (iterate 7 (exact rfl))) | (apply s_boxZ; (iterate 5 (exact rfl)); first | exact rfl | exact allD_mapd _) | (apply s_store tab_ok; (iterate 10 (exact rfl))) | (apply s_not_t; (iterate 4 (exact rfl))) | (apply s_not_f; (iterate 4 (exact rfl)))
      | (apply s_not; (iterate 4 (exact rfl))) | (apply s_eql_t; (iterate 5 (exact rfl)); omega) | (apply s_eql_f; (iterate 5 (exact rfl)); omega) | (apply s_neq_t; (iterate 5 (exact rfl)); omega) | (apply s_neq_f; (iterate 5 (exact rfl)); omega)
      | (apply s_lss_t; (iterate 5 (exact rfl)); omega) | (apply s_lss_f; (iterate 5 (exact rfl)); omega) | (apply s_geq_t; (iterate 5 (exact rfl)); omega) | (apply s_geq_f; (iterate 5 (exact rfl)); omega) | (apply s_add64; (iterate 5 (exact rfl)); omega)
      | (apply s_booleq bool_ok; (iterate 5 (exact rfl))) | (apply s_boolne bool_ok; (iterate 5 (exact rfl)))
      | (apply s_call; (iterate 6 (exact rfl)); exact hgr; rintro _ ⟨b, rfl, hb⟩; (have hb1 : b = true := by cases b; exact absurd (hb rfl) hK; rfl); subst hb1)
      | (apply s_call; (iterate 6 (exact rfl)); first | (exact hkn; rintro _ rfl))
      | refine al_nil ?_ | refine q_then_n ?_ | refine q_blk_n ?_ | refine q_blk_r ?_ | refine q_blk_e ?_
      | refine q_blk_o rfl ?_ | refine q_then_e ?_ | refine aw_block ?_ | refine aw_exit ?_ | refine q_then_r ?_
      | refine aw_seq ?_ | refine aw_reg ?_ | refine aw_true rfl ?_ | refine aw_false rfl ?_ | refine aw_skip ?_
      | refine aw_ret ?_ | refine al_fork ?_ ?_ | refine al_fork3 ?_ ?_ ?_
      | refine aw_draws (id := 16) (trO [0, 1, 2, 3, 4, 5, 6, 7, 8, 9, 10, 11, 12, 13] .nil) [8] [] mixed_ok (by kernel_rfl) ?_)
  all_goals exact q_retB (resB_1 rfl (resV_t rfl)) ⟨_, rfl, rfl⟩
end
theorem massL_take_le : ∀ (l : List Pat) (k : Nat), massL (l.take k) ≤ massL l
  | [], k => by simp
  | p :: l, 0 => by simp [massL]
  | p :: l, k + 1 => by simp only [List.take_succ_cons, massL]; have := massL_take_le l k; omega
theorem treeShape_c (hkn : RunsP Try.prog 12 [] (fun v => v = .v (.bool true))) (g : Sg) (hg : g.Low) (l : List Pat) (hll : l.length ≤ 140737488355328) (hl : ∀ p ∈ l, p.low) :
    RunsP Try.prog 11 [.agg (sigD g), patsD l] (fun r => r = .v (.bool true)) := by
  have hgr := great_c hg hl hll
  by_cases hm : g.Tiny ∧ massL l ≤ 50
  · have hs := hm.1.small
    have hml0 := hm.2
    have F : FewP g l := ⟨hs, hm.1.fields, by omega⟩
    have hml : massL l ≤ 100000 := by omega
    have b1 := Build_c hs hml
    have hts := buildT_small hs hml
    obtain ⟨q, n, f, c1, hans⟩ := check_ans F
    by_cases hok : mayZ g l = 0
    · obtain ⟨hsv, hall⟩ := mayZ_iff.1 hok
      have hht := build_ht (g := g) 2002 2000 (rowsOf 0 l)
      by_cases hb0 : (buildF g 2002 2000 (rowsOf 0 l)).2 < 0
      · have hbt : buildT g l (mayZ g l) = (bare 0 0 [] [] [], 160) := by
          unfold buildT
          rw [if_neg (by rw [hok]; exact fun h => h rfl)]
          simp only
          rw [if_pos hb0]
        rw [hbt] at b1
        exact shape_err (e := 160) (by decide) (.inl rfl) hkn hgr b1 c1
      · have hbt : buildT g l (mayZ g l) = ((buildF g 2002 2000 (rowsOf 0 l)).1, 0) := by
          unfold buildT
          rw [if_neg (by rw [hok]; exact fun h => h rfl)]
          simp only
          rw [if_neg hb0]
        rw [hbt] at b1 hts
        simp only at hts
        obtain ⟨t1, t2, t3, t4⟩ := tree_shape hsv hall (by omega)
        generalize (buildF g 2002 2000 (rowsOf 0 l)).1 = t at b1 hts t1 t2 t3 t4 hht
        have hms : noneT t = decide (f = 150) := by
          rcases hans with ⟨_, h⟩ | ⟨h, _, h2⟩ | ⟨h, _, h2, _⟩ | ⟨h, _, h2, _⟩
          · exact absurd hok h
          · rw [h, t1.2 h2]; rfl
          all_goals
            rw [h]
            cases hn : noneT t with
            | true => exact absurd (t1.1 hn) h2
            | false => rfl
        refine shape_ok hkn hgr b1 c1 hms (A := armsT t) (fun locM σ hM => ?_) fun locM σ X hM hX => shape_arms hll (fun x hx => ?_) (fun i p hp => ?_) hM hX
        · have hw := walk_c t hts [] (by simp only [List.length_nil]; omega) (by simp) [] σ hM
          rw [t4] at hw
          refine hw.wk ?_
          rintro x us ⟨u1, us1, rfl, r1, u2, us2, rfl, r2, r3⟩
          exact ⟨_, _, rfl, r1, _, _, rfl, Wk.nil 1 _ _ r2, r3⟩
        · obtain ⟨k, rfl, hk⟩ := t3 x hx
          omega
        · have hmt := massL_take_le l (i + 1)
          rw [massL_take hp] at hmt
          have hm1 : massL (l.take i ++ [p]) ≤ 200 := by rw [massL_append]; simp only [massL]; omega
          have hsub : ∀ q ∈ l.take i ++ [p], q ∈ l := fun q hq => (List.mem_append.1 hq).elim List.mem_of_mem_take fun h => by rw [List.mem_singleton.1 h]; exact List.mem_of_getElem? hp
          obtain ⟨b, hc, hb⟩ := covers_ans (F.of hm1) (mayZ_iff.2 ⟨hsv, hall.sub hsub⟩)
          rw [come_take hall hp] at hb
          have : b = !decide ((i : Int) ∈ armsT t) := by
            by_cases h : (i : Int) ∈ armsT t
            · rw [decide_eq_true h]
              cases b with
              | false => rfl
              | true => exact absurd ((t2 i).1 h) (hb.1 rfl)
            · rw [decide_eq_false h]
              exact hb.2 fun h2 => h ((t2 i).2 h2)
          rw [← this]
          exact hc
    · have hbt : buildT g l (mayZ g l) = (bare 0 0 [] [] [], mayZ g l) := by
        unfold buildT
        rw [if_pos hok]
      rw [hbt] at b1
      have hf : f = 2 := by
        rcases hans with ⟨h, _⟩ | ⟨_, h, _⟩ | ⟨_, h, _⟩ | ⟨_, h, _⟩
        · exact h
        all_goals exact absurd h hok
      exact shape_err hok (.inr hf) hkn hgr b1 c1
  · exact shape_great hm hkn hgr
end Go.Proofs.Ytjflembhgjcgkaa
