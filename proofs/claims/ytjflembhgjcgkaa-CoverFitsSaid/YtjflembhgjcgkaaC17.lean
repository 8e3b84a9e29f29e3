/- C17: together, of the program: a round over the map. -/
import Derived.Test.YtjflembhgjcgkaaC16
import Derived.Test.YtjflembhgjcgkaaM6
set_option linter.unusedSimpArgs false
set_option linter.unusedVariables false
-- ALLUNDEF -- BOXZ
-- DEF ALX: (apply s_allocF tabZ_ok; (iterate 6 (exact rfl)); intro locX σ hc; have hX := hc.at'; have aX := (h2.fresh hc).2; replace h2 := (h2.fresh hc).1; have nNX := hc.ne hN; replace hN := hc.keep hN; clear hc)
-- DEF STX: (apply s_storeF tab_ok; (iterate 7 (exact rfl)); exact hX; (iterate 2 (exact rfl)); intro σ hc; replace h2 := h2.chg aX hc; replace hN := hc.keep nNX hN; replace hX := hc.at'; clear hc)
-- DEF LDX: (apply s_ldF tab_ok; (iterate 5 (exact rfl)); exact hX; exact rfl)
namespace Go.Proofs.Ytjflembhgjcgkaa
open Go.RowKit

/-- The second loop's body. -/
noncomputable def tog2 : Option Code := match Try.f68.body with
  | some c => match findBlock 2 c with
    | some (.block _ (.loop x)) => some x
    | _ => none
  | none => none
def TQ2 (g : Sg) (l : List Pat) (G : List (Int × Nat × Nat)) (locM it : Nat) (seen : List Nat) : Exit → Fr → List AObj → Prop
  | .normal, fr, σ => getO [2, 74] fr = some [.d (.fptr (sigD g)), .ptr it 0 0] ∧ ∃ j x, j ∉ seen ∧ G[j]? = some x ∧ I2 σ locM it G l (seen ++ [j]) ∧ ∀ f, f < g.arity x.1 → togB g (kidsL l x.1 f) = true
  | .ret, fr, σ => fget fr 4 = .d (.v (.bool false)) ∧ togB g l = false
  | .exit n, fr, σ => n = 2 ∧ ∀ j, j < G.length → j ∈ seen
  | _, _, _ => False

section
variable {g : Sg} {l : List Pat} {locM it m : Nat} {G : List (Int × Nat × Nat)} {σ : List AObj} {seen : List Nat}
set_option maxRecDepth 100000 in
set_option maxHeartbeats 8000000 in
theorem tog2_round (hs : g.Small) (hm : m ≤ 1000000000) (hl : SmallP m l) (hA : ∀ p ∈ l, aloneB g p = true) (hn : (G.map (·.2.1)).Nodup) (hfr : ∀ x ∈ G, ∃ p ∈ l, p.kind = 5 ∧ p.n = x.1)
    (ih : ∀ l' : List Pat, szL l' < szL l → SmallP m l' → RunsP Try.prog 68 [.agg (sigD g), patsD l'] (fun v => v = .v (.bool (togB g l'))))
    (h2 : I2 σ locM it G l seen) {X : Code} (hX : tog2 = some X) :
    AWk Try.prog 110 X (TQ2 g l G locM it seen) ([2, 74].zip [.d (.fptr (sigD g)), .ptr it 0 0]) σ := by
  cases hX
  have l1 := hs.cons
  repeat' (first
      | refine s_op rfl ?_ | (apply s_skipV; (iterate 2 (exact rfl))) | (apply s_skipU; (iterate 3 (exact rfl))) | (apply s_move; (iterate 4 (exact rfl))) | (apply s_fa_p tab_ok; (iterate 5 (exact rfl)))
      | (apply s_fa_f tab_ok; (iterate 6 (exact rfl))) | (apply s_ld_p tab_ok; (iterate 7 (exact rfl))) | (apply s_ld_f tab_ok; (iterate 6 (exact rfl))) | (apply s_ld_w tab_ok; (iterate 5 (exact rfl)); (first | exact patD_len _ | exact valD_len _)) | (apply s_assign; (iterate 4 (exact rfl)))
      | (apply s_pick_t; (iterate 5 (exact rfl))) | (apply s_pick_f; (iterate 5 (exact rfl))) | (apply s_len tab_ok; (iterate 5 (exact rfl))) | (apply s_lens str_ok; (iterate 4 (exact rfl))) | (apply s_idx tab_ok; (iterate 7 (exact rfl)); (first | exact patR_get (by assumption) | exact valR_get (by assumption) | exact row_map (by assumption) | assumption))
      | (apply s_ext; (iterate 5 (exact rfl))) | (apply s_build tabZ_ok; (iterate 5 (exact rfl))) | (apply s_alloc tabZ_ok; (iterate 7 (exact rfl))) | (apply s_boxZ; (iterate 5 (exact rfl)); first | exact rfl | exact allD_mapd _) | (apply s_store tab_ok; (iterate 10 (exact rfl)))
      | (apply s_lit tab_ok tabZ_ok; (iterate 10 (exact rfl))) | (apply s_lit1 tab_ok tabZ_ok; (iterate 9 (exact rfl)); (first | exact patD_len _ | exact valD_len _)) | (apply s_app tab_ok tabZ_ok; (iterate 13 (exact rfl)); (first | (simp; done) | (simp; omega))) | (apply s_not_t; (iterate 4 (exact rfl))) | (apply s_not_f; (iterate 4 (exact rfl)))
      | (apply s_not; (iterate 4 (exact rfl))) | (apply s_eql_t; (iterate 5 (exact rfl)); omega) | (apply s_eql_f; (iterate 5 (exact rfl)); omega) | (apply s_neq_t; (iterate 5 (exact rfl)); omega) | (apply s_neq_f; (iterate 5 (exact rfl)); omega)
      | (apply s_lss_t; (iterate 5 (exact rfl)); omega) | (apply s_lss_f; (iterate 5 (exact rfl)); omega) | (apply s_add64; (iterate 5 (exact rfl)); omega)
      | (apply s_nextF (loc := locM); (iterate 5 (exact rfl)); exact h2.iter; exact h2.map; all_goals first | (intro j p hj hp σ hc) | (intro hdone))
      | refine al_nil ?_ | refine q_then_n ?_ | refine q_blk_n ?_ | refine q_blk_r ?_ | refine q_blk_e ?_
      | refine q_blk_o rfl ?_ | refine q_then_e ?_ | refine aw_block ?_ | refine aw_exit ?_ | refine q_then_r ?_
      | refine aw_seq ?_ | refine aw_reg ?_ | refine aw_true rfl ?_ | refine aw_false rfl ?_ | refine aw_skip ?_
      | refine aw_ret ?_ | refine al_fork ?_ ?_ | refine al_fork3 ?_ ?_ ?_
      | refine aw_draws (id := 11) (trO [0, 1, 2, 3, 4, 5, 6, 7, 8, 9, 10, 11, 12, 13, 14, 15, 16, 17, 18, 19, 20, 21, 22, 23, 24, 25, 26] .nil) [] [] mixed_ok (by kernel_rfl) ?_
      | refine aw_draws (id := 14) (trO [0, 1, 3, 4, 5, 6, 7] (.fork 2 (trO [8, 9, 10] .nil) 8 (.fork 2 (trO [9, 10] .nil) 9 (trO [2, 10] .nil)))) [2, 8, 9, 10] [9, 10] mixed_ok (by kernel_rfl) ?_)
  · exact ⟨rfl, fun j hj => hdone j (by rw [ent_len]; exact hj)⟩
  obtain ⟨kx, vx⟩ := p
  obtain ⟨c, loc, ver, hx, rfl, rfl⟩ := ent_get hp
  obtain ⟨h3, hArr⟩ := h2.next hj hx hc
  clear hc h2
  obtain ⟨p0, hp0, hp5, hpn⟩ := hfr _ (List.mem_of_getElem? hx)
  obtain ⟨c1, c2, _⟩ := alone_con (hA p0 hp0) hp5
  simp only at hpn
  rw [hpn] at c1 c2
  obtain ⟨m0, rfl⟩ : ∃ m0 : Nat, c = m0 := ⟨c.toNat, by omega⟩
  obtain ⟨⟨nm, dt, fs0, ms⟩, hcn⟩ : ∃ c, g.cons[m0]? = some c := getS (by omega)
  have har := arity_at hcn
  have hfl : fs0.length ≤ 1000000000 := hs.fields _ (List.mem_of_getElem? hcn)
  repeat' (first
      | refine s_op rfl ?_ | (apply s_skipV; (iterate 2 (exact rfl))) | (apply s_skipU; (iterate 3 (exact rfl))) | (apply s_move; (iterate 4 (exact rfl))) | (apply s_fa_p tab_ok; (iterate 5 (exact rfl)))
      | (apply s_fa_f tab_ok; (iterate 6 (exact rfl))) | (apply s_ld_p tab_ok; (iterate 7 (exact rfl))) | (apply s_ld_f tab_ok; (iterate 6 (exact rfl))) | (apply s_ld_w tab_ok; (iterate 5 (exact rfl)); (first | exact patD_len _ | exact valD_len _)) | (apply s_assign; (iterate 4 (exact rfl)))
      | (apply s_pick_t; (iterate 5 (exact rfl))) | (apply s_pick_f; (iterate 5 (exact rfl))) | (apply s_len tab_ok; (iterate 5 (exact rfl))) | (apply s_lens str_ok; (iterate 4 (exact rfl))) | (apply s_idx tab_ok; (iterate 7 (exact rfl)); (first | exact patR_get (by assumption) | exact valR_get (by assumption) | exact row_map (by assumption) | assumption))
      | (apply s_ext; (iterate 5 (exact rfl))) | (apply s_build tabZ_ok; (iterate 5 (exact rfl))) | (apply s_alloc tabZ_ok; (iterate 7 (exact rfl))) | (apply s_boxZ; (iterate 5 (exact rfl)); first | exact rfl | exact allD_mapd _) | (apply s_store tab_ok; (iterate 10 (exact rfl)))
      | (apply s_lit tab_ok tabZ_ok; (iterate 10 (exact rfl))) | (apply s_lit1 tab_ok tabZ_ok; (iterate 9 (exact rfl)); (first | exact patD_len _ | exact valD_len _)) | (apply s_app tab_ok tabZ_ok; (iterate 13 (exact rfl)); (first | (simp; done) | (simp; omega))) | (apply s_not_t; (iterate 4 (exact rfl))) | (apply s_not_f; (iterate 4 (exact rfl)))
      | (apply s_not; (iterate 4 (exact rfl))) | (apply s_eql_t; (iterate 5 (exact rfl)); omega) | (apply s_eql_f; (iterate 5 (exact rfl)); omega) | (apply s_neq_t; (iterate 5 (exact rfl)); omega) | (apply s_neq_f; (iterate 5 (exact rfl)); omega)
      | (apply s_lss_t; (iterate 5 (exact rfl)); omega) | (apply s_lss_f; (iterate 5 (exact rfl)); omega) | (apply s_add64; (iterate 5 (exact rfl)); omega)
      | (apply s_entry (loc := locM) (j := j); (iterate 4 (exact rfl)); exact h3.iter; exact h3.map; exact hp; exact rfl)
      | (refine w_freezeF 10 rfl hArr rfl ?_; intro σ hc; have h2 := h3.dead hn (by simp) hx hArr hc; clear hc h3 hArr)
      | refine al_nil ?_ | refine q_then_n ?_ | refine q_blk_n ?_ | refine q_blk_r ?_ | refine q_blk_e ?_
      | refine q_blk_o rfl ?_ | refine q_then_e ?_ | refine aw_block ?_ | refine aw_exit ?_ | refine q_then_r ?_
      | refine aw_seq ?_ | refine aw_reg ?_ | refine aw_true rfl ?_ | refine aw_false rfl ?_ | refine aw_skip ?_
      | refine aw_ret ?_ | refine al_fork ?_ ?_ | refine al_fork3 ?_ ?_ ?_
      | refine aw_draws (id := 11) (trO [0, 1, 2, 3, 4, 5, 6, 7, 8, 9, 10, 11, 12, 13, 14, 15, 16, 17, 18, 19, 20, 21, 22, 23, 24, 25, 26] .nil) [] [] mixed_ok (by kernel_rfl) ?_
      | refine aw_draws (id := 14) (trO [0, 1, 3, 4, 5, 6, 7] (.fork 2 (trO [8, 9, 10] .nil) 8 (.fork 2 (trO [9, 10] .nil) 9 (trO [2, 10] .nil)))) [2, 8, 9, 10] [9, 10] mixed_ok (by kernel_rfl) ?_)
  have hlenG : (grp (m0 : Int) l).length ≤ 1000000000 := Nat.le_trans (grp_len _ _) (Nat.le_trans hl.len hm)
  have e5 := patR_len (grp (m0 : Int) l)
  refine w_loop [2, 10, 74, 86, 87] (fun n vs σ => ∃ i : Nat, vs = [.d (.fptr (sigD g)), .d (.lst 8 (patR (grp (m0 : Int) l))), .ptr it 0 0, .d (.v (.int .i64 (fs0.length : Int))), .d (.v (.int .i64 (i : Int)))] ∧ I2 σ locM it G l (seen ++ [j]) ∧ i ≤ fs0.length ∧ n = fs0.length - i ∧ ∀ f, f < i → togB g (kidsL l m0 f) = true) rfl ⟨0, rfl, h2, by omega, rfl, fun f hf => absurd hf (Nat.not_lt_zero f)⟩ ?_
  clear h2
  rintro n vs σ ⟨i, rfl, h2, hi, rfl, hdone⟩ fr hfr
  cases hfr
  by_cases hil : i < fs0.length
  · obtain ⟨q, hq, hql, hqk⟩ := grp_kids hA (m0 : Int) i (by rw [har]; exact hil)
    repeat' (first
      | refine s_op rfl ?_ | (apply s_skipV; (iterate 2 (exact rfl))) | (apply s_skipU; (iterate 3 (exact rfl))) | (apply s_move; (iterate 4 (exact rfl))) | (apply s_fa_p tab_ok; (iterate 5 (exact rfl)))
      | (apply s_fa_f tab_ok; (iterate 6 (exact rfl))) | (apply s_ld_p tab_ok; (iterate 7 (exact rfl))) | (apply s_ld_f tab_ok; (iterate 6 (exact rfl))) | (apply s_ld_w tab_ok; (iterate 5 (exact rfl)); (first | exact patD_len _ | exact valD_len _)) | (apply s_assign; (iterate 4 (exact rfl)))
      | (apply s_pick_t; (iterate 5 (exact rfl))) | (apply s_pick_f; (iterate 5 (exact rfl))) | (apply s_len tab_ok; (iterate 5 (exact rfl))) | (apply s_lens str_ok; (iterate 4 (exact rfl))) | (apply s_idx tab_ok; (iterate 7 (exact rfl)); (first | exact patR_get (by assumption) | exact valR_get (by assumption) | exact row_map (by assumption) | assumption))
      | (apply s_ext; (iterate 5 (exact rfl))) | (apply s_build tabZ_ok; (iterate 5 (exact rfl))) | (apply s_alloc tabZ_ok; (iterate 7 (exact rfl))) | (apply s_boxZ; (iterate 5 (exact rfl)); first | exact rfl | exact allD_mapd _) | (apply s_store tab_ok; (iterate 10 (exact rfl)))
      | (apply s_lit tab_ok tabZ_ok; (iterate 10 (exact rfl))) | (apply s_lit1 tab_ok tabZ_ok; (iterate 9 (exact rfl)); (first | exact patD_len _ | exact valD_len _)) | (apply s_app tab_ok tabZ_ok; (iterate 13 (exact rfl)); (first | (simp; done) | (simp; omega))) | (apply s_not_t; (iterate 4 (exact rfl))) | (apply s_not_f; (iterate 4 (exact rfl)))
      | (apply s_not; (iterate 4 (exact rfl))) | (apply s_eql_t; (iterate 5 (exact rfl)); omega) | (apply s_eql_f; (iterate 5 (exact rfl)); omega) | (apply s_neq_t; (iterate 5 (exact rfl)); omega) | (apply s_neq_f; (iterate 5 (exact rfl)); omega)
      | (apply s_lss_t; (iterate 5 (exact rfl)); omega) | (apply s_lss_f; (iterate 5 (exact rfl)); omega) | (apply s_add64; (iterate 5 (exact rfl)); omega)
      | refine al_nil ?_ | refine q_then_n ?_ | refine q_blk_n ?_ | refine q_blk_r ?_ | refine q_blk_e ?_
      | refine q_blk_o rfl ?_ | refine q_then_e ?_ | refine aw_block ?_ | refine aw_exit ?_ | refine q_then_r ?_
      | refine aw_seq ?_ | refine aw_reg ?_ | refine aw_true rfl ?_ | refine aw_false rfl ?_ | refine aw_skip ?_
      | refine aw_ret ?_ | refine al_fork ?_ ?_ | refine al_fork3 ?_ ?_ ?_
      | refine aw_draws (id := 11) (trO [0, 1, 2, 3, 4, 5, 6, 7, 8, 9, 10, 11, 12, 13, 14, 15, 16, 17, 18, 19, 20, 21, 22, 23, 24, 25, 26] .nil) [] [] mixed_ok (by kernel_rfl) ?_
      | refine aw_draws (id := 14) (trO [0, 1, 3, 4, 5, 6, 7] (.fork 2 (trO [8, 9, 10] .nil) 8 (.fork 2 (trO [9, 10] .nil) 9 (trO [2, 10] .nil)))) [2, 8, 9, 10] [9, 10] mixed_ok (by kernel_rfl) ?_)
    refine w_adoptF 12 41 8 rfl ?_
    intro locN σ hc
    have aN := (h2.fresh hc).2
    replace h2 := (h2.fresh hc).1
    have hN := hc.at'
    clear hc
    refine w_loop [2, 10, 11, 12, 74, 86, 87, 90, 91, 92] (fun n vs σ => ∃ r ver : Nat, vs = [.d (.fptr (sigD g)), .d (.lst 8 (patR (grp (m0 : Int) l))), .d (.v (.int .i64 (i : Int))), .own locN ver 8 0 (patR (q.take r)).length, .ptr it 0 0, .d (.v (.int .i64 (fs0.length : Int))), .d (.v (.int .i64 (i : Int))), .d (.lst 8 (patR (grp (m0 : Int) l))), .d (.v (.int .i64 ((patR (grp (m0 : Int) l)).length : Int))), .d (.v (.int .i64 (r : Int)))] ∧ I2 σ locM it G l (seen ++ [j]) ∧ σ[locN]? = some (.arr 41 8 ver (patR (q.take r))) ∧ r ≤ (grp (m0 : Int) l).length ∧ n = (grp (m0 : Int) l).length - r) rfl ⟨0, 0, rfl, h2, hN, by omega, rfl⟩ ?_
    clear h2 hN
    rintro n vs σ ⟨r, ver, rfl, h2, hN, hr, rfl⟩ fr hfr
    cases hfr
    by_cases hrl : r < (grp (m0 : Int) l).length
    · obtain ⟨pk, pn, pi, ps, pa, pb, pc, pl, hp⟩ := getM hrl
      obtain ⟨rk, hrk, hqr⟩ := hqk r _ hp
      simp only [Pat.l] at hrk
      have ht : q.take (r + 1) = q.take r ++ [rk] := by rw [List.take_add_one, hqr]; rfl
      have lq : (patR (q.take r)).length ≤ 1000000000 := by rw [patR_len, List.length_take]; omega
      repeat' (first
      | refine s_op rfl ?_ | (apply s_skipV; (iterate 2 (exact rfl))) | (apply s_skipU; (iterate 3 (exact rfl))) | (apply s_move; (iterate 4 (exact rfl))) | (apply s_fa_p tab_ok; (iterate 5 (exact rfl)))
      | (apply s_fa_f tab_ok; (iterate 6 (exact rfl))) | (apply s_ld_p tab_ok; (iterate 7 (exact rfl))) | (apply s_ld_f tab_ok; (iterate 6 (exact rfl))) | (apply s_ld_w tab_ok; (iterate 5 (exact rfl)); (first | exact patD_len _ | exact valD_len _)) | (apply s_assign; (iterate 4 (exact rfl)))
      | (apply s_pick_t; (iterate 5 (exact rfl))) | (apply s_pick_f; (iterate 5 (exact rfl))) | (apply s_len tab_ok; (iterate 5 (exact rfl))) | (apply s_lens str_ok; (iterate 4 (exact rfl))) | (apply s_idx tab_ok; (iterate 7 (exact rfl)); (first | exact patR_get (by assumption) | exact valR_get (by assumption) | exact row_map (by assumption) | assumption))
      | (apply s_ext; (iterate 5 (exact rfl))) | (apply s_build tabZ_ok; (iterate 5 (exact rfl))) | (apply s_boxZ; (iterate 5 (exact rfl)); first | exact rfl | exact allD_mapd _) | (apply s_lit tab_ok tabZ_ok; (iterate 10 (exact rfl))) | (apply s_lit1 tab_ok tabZ_ok; (iterate 9 (exact rfl)); (first | exact patD_len _ | exact valD_len _))
      | (apply s_not_t; (iterate 4 (exact rfl))) | (apply s_not_f; (iterate 4 (exact rfl))) | (apply s_not; (iterate 4 (exact rfl))) | (apply s_eql_t; (iterate 5 (exact rfl)); omega) | (apply s_eql_f; (iterate 5 (exact rfl)); omega)
      | (apply s_neq_t; (iterate 5 (exact rfl)); omega) | (apply s_neq_f; (iterate 5 (exact rfl)); omega) | (apply s_lss_t; (iterate 5 (exact rfl)); omega) | (apply s_lss_f; (iterate 5 (exact rfl)); omega) | (apply s_add64; (iterate 5 (exact rfl)); omega)
      | (apply s_allocF tabZ_ok; (iterate 6 (exact rfl)); intro locX σ hc; have hX := hc.at'; have aX := (h2.fresh hc).2; replace h2 := (h2.fresh hc).1; have nNX := hc.ne hN; replace hN := hc.keep hN; clear hc)
      | (apply s_storeF tab_ok; (iterate 7 (exact rfl)); exact hX; (iterate 2 (exact rfl)); intro σ hc; replace h2 := h2.chg aX hc; replace hN := hc.keep nNX hN; replace hX := hc.at'; clear hc)
      | (apply s_ldF tab_ok; (iterate 5 (exact rfl)); exact hX; exact rfl)
      | (apply s_appF tab_ok tabZ_ok (rows2 := [patD rk]) (rows3 := patR (q.take (r + 1))) (m := (patR (q.take (r + 1))).length); (iterate 10 (exact rfl)); exact hN; exact src_of (Tab.slIs tab_ok (t := 26) rfl) (rows_d rfl); (rw [ht, patR_append]; rfl); (rw [ht, patR_append, patR_one]; simp; omega); intro σ hc; replace h2 := h2.chg aN hc; replace hN := hc.at'; clear hc)
      | refine al_nil ?_ | refine q_then_n ?_ | refine q_blk_n ?_ | refine q_blk_r ?_ | refine q_blk_e ?_
      | refine q_blk_o rfl ?_ | refine q_then_e ?_ | refine aw_block ?_ | refine aw_exit ?_ | refine q_then_r ?_
      | refine aw_seq ?_ | refine aw_reg ?_ | refine aw_true rfl ?_ | refine aw_false rfl ?_ | refine aw_skip ?_
      | refine aw_ret ?_ | refine al_fork ?_ ?_ | refine al_fork3 ?_ ?_ ?_
      | refine aw_draws (id := 11) (trO [0, 1, 2, 3, 4, 5, 6, 7, 8, 9, 10, 11, 12, 13, 14, 15, 16, 17, 18, 19, 20, 21, 22, 23, 24, 25, 26] .nil) [] [] mixed_ok (by kernel_rfl) ?_
      | refine aw_draws (id := 14) (trO [0, 1, 3, 4, 5, 6, 7] (.fork 2 (trO [8, 9, 10] .nil) 8 (.fork 2 (trO [9, 10] .nil) 9 (trO [2, 10] .nil)))) [2, 8, 9, 10] [9, 10] mixed_ok (by kernel_rfl) ?_)
      exact ⟨_, _, rfl, by omega, r + 1, _, rfl, h2, hN, by omega, rfl⟩
    · have hrq : q.take r = q := List.take_of_length_le (by omega)
      rw [hrq] at hN
      rw [hrq]
      have hlt2 : szL (kidsL l m0 i) < szL l := by
        have := kidsL_lt (k := i) hp0 hp5 (by rw [(alone_con (hA p0 hp0) hp5).2.2, hpn, har]; exact hil)
        rw [hpn] at this; exact this
      have hr := ih _ hlt2 (hl.kids _ _)
      cases hb : togB g (kidsL l m0 i) <;> rw [hb, ← hq] at hr
      · repeat' (first
      | refine s_op rfl ?_ | (apply s_skipV; (iterate 2 (exact rfl))) | (apply s_skipU; (iterate 3 (exact rfl))) | (apply s_move; (iterate 4 (exact rfl))) | (apply s_fa_p tab_ok; (iterate 5 (exact rfl)))
      | (apply s_fa_f tab_ok; (iterate 6 (exact rfl))) | (apply s_ld_p tab_ok; (iterate 7 (exact rfl))) | (apply s_ld_f tab_ok; (iterate 6 (exact rfl))) | (apply s_ld_w tab_ok; (iterate 5 (exact rfl)); (first | exact patD_len _ | exact valD_len _)) | (apply s_assign; (iterate 4 (exact rfl)))
      | (apply s_pick_t; (iterate 5 (exact rfl))) | (apply s_pick_f; (iterate 5 (exact rfl))) | (apply s_len tab_ok; (iterate 5 (exact rfl))) | (apply s_lens str_ok; (iterate 4 (exact rfl))) | (apply s_idx tab_ok; (iterate 7 (exact rfl)); (first | exact patR_get (by assumption) | exact valR_get (by assumption) | exact row_map (by assumption) | assumption))
      | (apply s_ext; (iterate 5 (exact rfl))) | (apply s_build tabZ_ok; (iterate 5 (exact rfl))) | (apply s_alloc tabZ_ok; (iterate 7 (exact rfl))) | (apply s_boxZ; (iterate 5 (exact rfl)); first | exact rfl | exact allD_mapd _) | (apply s_store tab_ok; (iterate 10 (exact rfl)))
      | (apply s_lit tab_ok tabZ_ok; (iterate 10 (exact rfl))) | (apply s_lit1 tab_ok tabZ_ok; (iterate 9 (exact rfl)); (first | exact patD_len _ | exact valD_len _)) | (apply s_app tab_ok tabZ_ok; (iterate 13 (exact rfl)); (first | (simp; done) | (simp; omega))) | (apply s_not_t; (iterate 4 (exact rfl))) | (apply s_not_f; (iterate 4 (exact rfl)))
      | (apply s_not; (iterate 4 (exact rfl))) | (apply s_eql_t; (iterate 5 (exact rfl)); omega) | (apply s_eql_f; (iterate 5 (exact rfl)); omega) | (apply s_neq_t; (iterate 5 (exact rfl)); omega) | (apply s_neq_f; (iterate 5 (exact rfl)); omega)
      | (apply s_lss_t; (iterate 5 (exact rfl)); omega) | (apply s_lss_f; (iterate 5 (exact rfl)); omega) | (apply s_add64; (iterate 5 (exact rfl)); omega)
      | (refine w_freezeF 12 rfl hN rfl ?_; intro σ hc; replace h2 := h2.chg aN hc; clear hc hN)
      | (apply s_call; (iterate 6 (exact rfl)); first | (exact hr; rintro _ rfl))
      | refine al_nil ?_ | refine q_then_n ?_ | refine q_blk_n ?_ | refine q_blk_r ?_ | refine q_blk_e ?_
      | refine q_blk_o rfl ?_ | refine q_then_e ?_ | refine aw_block ?_ | refine aw_exit ?_ | refine q_then_r ?_
      | refine aw_seq ?_ | refine aw_reg ?_ | refine aw_true rfl ?_ | refine aw_false rfl ?_ | refine aw_skip ?_
      | refine aw_ret ?_ | refine al_fork ?_ ?_ | refine al_fork3 ?_ ?_ ?_
      | refine aw_draws (id := 11) (trO [0, 1, 2, 3, 4, 5, 6, 7, 8, 9, 10, 11, 12, 13, 14, 15, 16, 17, 18, 19, 20, 21, 22, 23, 24, 25, 26] .nil) [] [] mixed_ok (by kernel_rfl) ?_
      | refine aw_draws (id := 14) (trO [0, 1, 3, 4, 5, 6, 7] (.fork 2 (trO [8, 9, 10] .nil) 8 (.fork 2 (trO [9, 10] .nil) 9 (trO [2, 10] .nil)))) [2, 8, 9, 10] [9, 10] mixed_ok (by kernel_rfl) ?_)
        exact ⟨rfl, by rw [← hpn] at hb; exact tog_kid (g := g) (m := i) hp0 (by rw [(alone_con (hA p0 hp0) hp5).2.2, hpn, har]; exact hil) hb⟩
      · repeat' (first
      | refine s_op rfl ?_ | (apply s_skipV; (iterate 2 (exact rfl))) | (apply s_skipU; (iterate 3 (exact rfl))) | (apply s_move; (iterate 4 (exact rfl))) | (apply s_fa_p tab_ok; (iterate 5 (exact rfl)))
      | (apply s_fa_f tab_ok; (iterate 6 (exact rfl))) | (apply s_ld_p tab_ok; (iterate 7 (exact rfl))) | (apply s_ld_f tab_ok; (iterate 6 (exact rfl))) | (apply s_ld_w tab_ok; (iterate 5 (exact rfl)); (first | exact patD_len _ | exact valD_len _)) | (apply s_assign; (iterate 4 (exact rfl)))
      | (apply s_pick_t; (iterate 5 (exact rfl))) | (apply s_pick_f; (iterate 5 (exact rfl))) | (apply s_len tab_ok; (iterate 5 (exact rfl))) | (apply s_lens str_ok; (iterate 4 (exact rfl))) | (apply s_idx tab_ok; (iterate 7 (exact rfl)); (first | exact patR_get (by assumption) | exact valR_get (by assumption) | exact row_map (by assumption) | assumption))
      | (apply s_ext; (iterate 5 (exact rfl))) | (apply s_build tabZ_ok; (iterate 5 (exact rfl))) | (apply s_alloc tabZ_ok; (iterate 7 (exact rfl))) | (apply s_boxZ; (iterate 5 (exact rfl)); first | exact rfl | exact allD_mapd _) | (apply s_store tab_ok; (iterate 10 (exact rfl)))
      | (apply s_lit tab_ok tabZ_ok; (iterate 10 (exact rfl))) | (apply s_lit1 tab_ok tabZ_ok; (iterate 9 (exact rfl)); (first | exact patD_len _ | exact valD_len _)) | (apply s_app tab_ok tabZ_ok; (iterate 13 (exact rfl)); (first | (simp; done) | (simp; omega))) | (apply s_not_t; (iterate 4 (exact rfl))) | (apply s_not_f; (iterate 4 (exact rfl)))
      | (apply s_not; (iterate 4 (exact rfl))) | (apply s_eql_t; (iterate 5 (exact rfl)); omega) | (apply s_eql_f; (iterate 5 (exact rfl)); omega) | (apply s_neq_t; (iterate 5 (exact rfl)); omega) | (apply s_neq_f; (iterate 5 (exact rfl)); omega)
      | (apply s_lss_t; (iterate 5 (exact rfl)); omega) | (apply s_lss_f; (iterate 5 (exact rfl)); omega) | (apply s_add64; (iterate 5 (exact rfl)); omega)
      | (refine w_freezeF 12 rfl hN rfl ?_; intro σ hc; replace h2 := h2.chg aN hc; clear hc hN)
      | (apply s_call; (iterate 6 (exact rfl)); first | (exact hr; rintro _ rfl))
      | refine al_nil ?_ | refine q_then_n ?_ | refine q_blk_n ?_ | refine q_blk_r ?_ | refine q_blk_e ?_
      | refine q_blk_o rfl ?_ | refine q_then_e ?_ | refine aw_block ?_ | refine aw_exit ?_ | refine q_then_r ?_
      | refine aw_seq ?_ | refine aw_reg ?_ | refine aw_true rfl ?_ | refine aw_false rfl ?_ | refine aw_skip ?_
      | refine aw_ret ?_ | refine al_fork ?_ ?_ | refine al_fork3 ?_ ?_ ?_
      | refine aw_draws (id := 11) (trO [0, 1, 2, 3, 4, 5, 6, 7, 8, 9, 10, 11, 12, 13, 14, 15, 16, 17, 18, 19, 20, 21, 22, 23, 24, 25, 26] .nil) [] [] mixed_ok (by kernel_rfl) ?_
      | refine aw_draws (id := 14) (trO [0, 1, 3, 4, 5, 6, 7] (.fork 2 (trO [8, 9, 10] .nil) 8 (.fork 2 (trO [9, 10] .nil) 9 (trO [2, 10] .nil)))) [2, 8, 9, 10] [9, 10] mixed_ok (by kernel_rfl) ?_)
        exact ⟨_, _, rfl, by omega, i + 1, rfl, h2, by omega, rfl, upto_next (p := fun f => togB g (kidsL l m0 f)) hdone hb⟩
  · repeat' (first
      | refine s_op rfl ?_ | (apply s_skipV; (iterate 2 (exact rfl))) | (apply s_skipU; (iterate 3 (exact rfl))) | (apply s_move; (iterate 4 (exact rfl))) | (apply s_fa_p tab_ok; (iterate 5 (exact rfl)))
      | (apply s_fa_f tab_ok; (iterate 6 (exact rfl))) | (apply s_ld_p tab_ok; (iterate 7 (exact rfl))) | (apply s_ld_f tab_ok; (iterate 6 (exact rfl))) | (apply s_ld_w tab_ok; (iterate 5 (exact rfl)); (first | exact patD_len _ | exact valD_len _)) | (apply s_assign; (iterate 4 (exact rfl)))
      | (apply s_pick_t; (iterate 5 (exact rfl))) | (apply s_pick_f; (iterate 5 (exact rfl))) | (apply s_len tab_ok; (iterate 5 (exact rfl))) | (apply s_lens str_ok; (iterate 4 (exact rfl))) | (apply s_idx tab_ok; (iterate 7 (exact rfl)); (first | exact patR_get (by assumption) | exact valR_get (by assumption) | exact row_map (by assumption) | assumption))
      | (apply s_ext; (iterate 5 (exact rfl))) | (apply s_build tabZ_ok; (iterate 5 (exact rfl))) | (apply s_alloc tabZ_ok; (iterate 7 (exact rfl))) | (apply s_boxZ; (iterate 5 (exact rfl)); first | exact rfl | exact allD_mapd _) | (apply s_store tab_ok; (iterate 10 (exact rfl)))
      | (apply s_lit tab_ok tabZ_ok; (iterate 10 (exact rfl))) | (apply s_lit1 tab_ok tabZ_ok; (iterate 9 (exact rfl)); (first | exact patD_len _ | exact valD_len _)) | (apply s_app tab_ok tabZ_ok; (iterate 13 (exact rfl)); (first | (simp; done) | (simp; omega))) | (apply s_not_t; (iterate 4 (exact rfl))) | (apply s_not_f; (iterate 4 (exact rfl)))
      | (apply s_not; (iterate 4 (exact rfl))) | (apply s_eql_t; (iterate 5 (exact rfl)); omega) | (apply s_eql_f; (iterate 5 (exact rfl)); omega) | (apply s_neq_t; (iterate 5 (exact rfl)); omega) | (apply s_neq_f; (iterate 5 (exact rfl)); omega)
      | (apply s_lss_t; (iterate 5 (exact rfl)); omega) | (apply s_lss_f; (iterate 5 (exact rfl)); omega) | (apply s_add64; (iterate 5 (exact rfl)); omega)
      | refine al_nil ?_ | refine q_then_n ?_ | refine q_blk_n ?_ | refine q_blk_r ?_ | refine q_blk_e ?_
      | refine q_blk_o rfl ?_ | refine q_then_e ?_ | refine aw_block ?_ | refine aw_exit ?_ | refine q_then_r ?_
      | refine aw_seq ?_ | refine aw_reg ?_ | refine aw_true rfl ?_ | refine aw_false rfl ?_ | refine aw_skip ?_
      | refine aw_ret ?_ | refine al_fork ?_ ?_ | refine al_fork3 ?_ ?_ ?_
      | refine aw_draws (id := 11) (trO [0, 1, 2, 3, 4, 5, 6, 7, 8, 9, 10, 11, 12, 13, 14, 15, 16, 17, 18, 19, 20, 21, 22, 23, 24, 25, 26] .nil) [] [] mixed_ok (by kernel_rfl) ?_
      | refine aw_draws (id := 14) (trO [0, 1, 3, 4, 5, 6, 7] (.fork 2 (trO [8, 9, 10] .nil) 8 (.fork 2 (trO [9, 10] .nil) 9 (trO [2, 10] .nil)))) [2, 8, 9, 10] [9, 10] mixed_ok (by kernel_rfl) ?_)
    exact ⟨rfl, j, _, hj, hx, h2, fun f hf => hdone f (by rw [har] at hf; omega)⟩
end
end Go.Proofs.Ytjflembhgjcgkaa
