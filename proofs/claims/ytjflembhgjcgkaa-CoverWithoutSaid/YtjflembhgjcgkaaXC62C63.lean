/- XC62C63: C62, C63 in one. -/
import Derived.Test.YtjflembhgjcgkaaC61
import Derived.Test.YtjflembhgjcgkaaM23
import Derived.Test.YtjflembhgjcgkaaC8
set_option linter.unusedSimpArgs false
set_option linter.unusedVariables false
/- C62: split, of the document: the shapes into which one falls. -/
-- ALLUNDEF -- BOXZ
-- LEN: patD_len
-- ROW: patR_get row_map
-- DEF CC: (refine ⟨?_, ?_, ?_⟩ <;> first | omega | (simp only [List.length_append, List.length_map, List.length_cons, List.length_nil] <;> omega))
-- DEF ALX: (apply s_allocF tabZ_ok (d := 11); (iterate 6 (exact rfl)); intro locX σ hc; have hX := hc.at'; have nAX := hc.ne hA; replace hA := hc.keep hA; clear hc)
-- DEF STX: (apply s_storeF tab_ok; (iterate 7 (exact rfl)); exact hX; (iterate 2 (exact rfl)); intro σ hc; replace hX := hc.at'; replace hA := hc.keep nAX hA; (try replace hC := hc.keep (by assumption) hC); clear hc)
-- DEF LIC: (apply s_litO tab_ok tabZ_ok (d := 54) (m := 0); (iterate 12 (exact rfl)); intro locC σ hc; have hC := hc.at'; have nAC := hc.ne hA; have nXC := hc.ne hX; have nCX := nXC.symm; have nCA := nAC.symm; replace hA := hc.keep hA; replace hX := hc.keep hX; clear hc)
-- DEF APC: (apply s_appF tab_ok tabZ_ok (d := 57) (rows2 := patR sl) (rows3 := patR sl) (m := (patR sl).length); (iterate 10 (exact rfl)); exact hC; exact src_of (Tab.slIs tab_ok (t := 26) rfl) (rows_d rfl); exact rfl; (refine ⟨?_, ?_, ?_⟩ <;> first | omega | (simp only [List.length_append, List.length_map, List.length_cons, List.length_nil] <;> omega)); intro σ hc; replace hC := hc.at'; replace hA := hc.keep nAC hA; replace hX := hc.keep nXC hX; clear hc)
-- DEF LDX: (apply s_ldF tab_ok; (iterate 5 (exact rfl)); exact hX; exact rfl)
-- DEF IDX: (apply s_idxO (i * 8) tab_ok; (iterate 7 (exact rfl)); exact hC; (refine ⟨?_, ?_⟩ <;> omega))
-- DEF STC: (apply s_stA i 0 tab_ok (rows' := patR (sl.set i (.mk zk zn zi zs za zb zc zl))); (iterate 8 (exact rfl)); exact hC; exact patR_get hx; exact rfl; exact Nat.le_refl _; exact patR_set' hx (.mk zk zn zi zs za zb zc zl); intro σ hc; replace hC := hc.at'; replace hA := hc.keep nAC hA; replace hX := hc.keep nXC hX; clear hc)
-- DEF FRC: (refine o_freezeC locX 7 (rows := patR (sl.set i (.mk zk zn zi zs za zb zc zl))) hX rfl hC (by rw [patR_len, patR_len, List.length_set]) ?_; intro σ hc; replace hX := hc.row; replace hA := hc.keep' _ _ hA nAX nAC; clear hc hC)
-- DEF APA: (apply s_appF tab_ok tabZ_ok (d := 70) (rows2 := [patD (.mk 5 sn si ss sa sb sc (sl.set i (.mk zk zn zi zs za zb zc zl)))]) (rows3 := patR ((parts.take (k + 1)).map fun z => .mk 5 sn si ss sa sb sc (sl.set i z))) (m := k + 1); (iterate 10 (exact rfl)); exact hA; exact src_of (Tab.slIs tab_ok (t := 26) rfl) (rows_d rfl); (simp only [ht, List.map_append, List.map_cons, List.map_nil, patR_append]; rfl); (refine ⟨?_, ?_, ?_⟩ <;> first | omega | (simp only [List.length_append, List.length_map, List.length_cons, List.length_nil] <;> omega)); intro σ hc; replace hA := hc.at'; clear hc)
namespace Go.Proofs.Ytjflembhgjcgkaa
open Go.RowKit

theorem patR_set : ∀ (l : List Pat) (i : Nat) (z : Pat), (patR l).set i (spliceL (patD (l.getD i z)) 0 (patD z)) = patR (l.set i z) := by
  intro l
  induction l with
  | nil => intro i z; simp [patR]
  | cons a l ih =>
    intro i z
    cases i with
    | zero =>
      simp only [patR, List.set_cons_zero, List.getD_cons_zero, spliceL, List.take_zero, List.nil_append]
      rw [Nat.zero_add, patD_len, List.drop_of_length_le (by rw [patD_len]; omega), List.append_nil]
    | succ i =>
      simp only [patR, List.set_cons_succ, List.getD_cons_succ]
      rw [ih]
theorem patR_set' {l : List Pat} {i : Nat} {x : Pat} (h : l[i]? = some x) (z : Pat) : (patR l).set i (spliceL (patD x) 0 (patD z)) = patR (l.set i z) := by
  have := patR_set l i z
  rwa [List.getD_eq_getElem?_getD, h, Option.getD_some] at this

section
variable {r : RoomT}
set_option maxRecDepth 100000 in
set_option maxHeartbeats 8000000 in
theorem split_open_c (hr : RoomSm r) {S p : Pat} (hS : openB S = true) (hp : openB p = false) (hpw : Wf r.g p) : RunsP Try.prog 117 [.agg (roomD r), .agg (patD S), .agg (patD p)] (fun v => v = patsD (splitP r S p)) := by
  have hc := cases_c hr.g hr.sv hr.nums hr.texts p (by rcases alone_kind hpw.alone with h | h | h | h; · rw [h] at hp; cases hp
                                                       all_goals simp [h]) hpw.alone
  rw [splitP_def, if_pos hS]
  generalize casesR r p = out at *
  obtain ⟨g, L, N, T⟩ := r
  have hc : RunsP Try.prog 121 [.agg (roomL g L N T), .agg (patD p)] (fun v => v = patsD out) := hc
  show RunsP Try.prog 117 [.agg (roomL g L N T), .agg (patD S), .agg (patD p)] _
  have ho := open_c S
  rw [hS] at ho
  clear hr hpw
  obtain ⟨sk, sn, si, ss, sa, sb, sc, sl⟩ := S
  obtain ⟨pk, pn, pi, ps, pa, pb, pc, pl⟩ := p
  refine enterPB 72 tab_ok Try.func117 rfl (by kernel_rfl) rfl rfl rfl ?_
  repeat' (first
      | refine s_op rfl ?_ | (apply s_move; (iterate 4 (exact rfl))) | (apply s_fa_p tab_ok; (iterate 5 (exact rfl))) | (apply s_fa_f tab_ok; (iterate 6 (exact rfl))) | (apply s_ld_p tab_ok; (iterate 7 (exact rfl)))
      | (apply s_ld_f tab_ok; (iterate 6 (exact rfl))) | (apply s_ld_w tab_ok; (iterate 5 (exact rfl)); (first | exact patD_len _)) | (apply s_assign; (iterate 4 (exact rfl))) | (apply s_len tab_ok; (iterate 5 (exact rfl))) | (apply s_lens str_ok; (iterate 4 (exact rfl)))
      | (apply s_idx tab_ok; (iterate 7 (exact rfl)); (first | exact patR_get (by assumption) | exact row_map (by assumption) | assumption)) | (apply s_alloc tabZ_ok; (iterate 7 (exact rfl))) | (apply s_boxZ; (iterate 5 (exact rfl)); first | exact rfl | exact allD_mapd _) | (apply s_store tab_ok; (iterate 10 (exact rfl))) | (apply s_lit tab_ok tabZ_ok; (iterate 10 (exact rfl)))
      | (apply s_lit1 tab_ok tabZ_ok; (iterate 9 (exact rfl)); (first | exact patD_len _)) | (apply s_app tab_ok tabZ_ok; (iterate 13 (exact rfl)); (first | (simp; done) | (simp; omega))) | (apply s_lss_t; (iterate 5 (exact rfl)); omega) | (apply s_lss_f; (iterate 5 (exact rfl)); omega) | (apply s_add64; (iterate 5 (exact rfl)); omega)
      | (apply s_call; (iterate 6 (exact rfl)); first | (exact ho; rintro _ rfl) | (exact hc; rintro _ rfl))
      | refine al_nil ?_ | refine q_then_n ?_ | refine q_blk_n ?_ | refine q_blk_r ?_ | refine q_blk_e ?_
      | refine q_blk_o rfl ?_ | refine q_then_e ?_ | refine aw_block ?_ | refine aw_exit ?_ | refine q_then_r ?_
      | refine aw_seq ?_ | refine aw_reg ?_ | refine aw_true rfl ?_ | refine aw_false rfl ?_ | refine aw_skip ?_
      | refine aw_ret ?_ | refine al_fork ?_ ?_ | refine al_fork3 ?_ ?_ ?_
      | refine aw_draws (id := 6) (trO [0, 1, 2, 3, 4, 5, 6, 7, 8, 9, 10] .nil) [10] [] mixed_ok (by kernel_rfl) ?_
      | refine aw_draws (id := 7) (trO [0, 1, 2, 3, 4, 5, 6, 7, 8, 9, 10, 11, 12] .nil) [11] [] mixed_ok (by kernel_rfl) ?_
      | refine aw_draws (id := 14) (trO [0, 1, 2, 3, 4, 5, 6, 7, 8] .nil) [8] [8] mixed_ok (by kernel_rfl) ?_)
  all_goals exact q_retB (resB_1 rfl (resV_t rfl)) ⟨_, rfl, rfl⟩

set_option maxRecDepth 100000 in
set_option maxHeartbeats 8000000 in
theorem split_con_c {g : Sg} {L : List Pat} {N : List Int} {T : List ByteArray} {sn si pn pi : Int} {ss ps : ByteArray} {sa sb sc pa pb pc : Int} {sl pl : List Pat} (hll : sl.length = pl.length) (hlen : sl.length ≤ 1000000000)
    {j0 : Nat} {x y : Pat} (hx : sl[j0]? = some x) (hy : pl[j0]? = some y) (hxy : withinB x y = false) (hbe : ∀ i, i < j0 → ∀ a b : Pat, sl[i]? = some a → pl[i]? = some b → withinB a b = true)
    (hwi : ∀ (i : Nat) (a b : Pat), sl[i]? = some a → pl[i]? = some b → RunsP Try.prog 116 [.agg (patD a), .agg (patD b)] (fun v => v = .v (.bool (withinB a b))))
    {parts : List Pat} (hpl : parts.length ≤ 1000000000) (hrec : RunsP Try.prog 117 [.agg (roomL g L N T), .agg (patD x), .agg (patD y)] (fun v => v = patsD parts)) :
    RunsP Try.prog 117 [.agg (roomL g L N T), .agg (patD (.mk 5 sn si ss sa sb sc sl)), .agg (patD (.mk 5 pn pi ps pa pb pc pl))] (fun v => v = patsD (parts.map fun z => .mk 5 sn si ss sa sb sc (sl.set j0 z))) := by
  refine RunsP.ofOwn (rows := patR (parts.map fun z => .mk 5 sn si ss sa sb sc (sl.set j0 z))) ?_
  have ho := open_c (.mk 5 sn si ss sa sb sc sl)
  have ho : RunsP Try.prog 75 [.agg (patD (.mk 5 sn si ss sa sb sc sl))] (fun v => v = .v (.bool false)) := ho
  have e1 := patR_len sl
  have e2 := patR_len pl
  have e3 := patR_len parts
  have hjl := (List.getElem?_eq_some_iff.1 hx).1
  have hjl2 := (List.getElem?_eq_some_iff.1 hy).1
  refine enter 72 Try.func117 rfl (by kernel_rfl) rfl rfl rfl ?_
  repeat' (first
      | refine s_op rfl ?_ | (apply s_move; (iterate 4 (exact rfl))) | (apply s_fa_p tab_ok; (iterate 5 (exact rfl))) | (apply s_fa_f tab_ok; (iterate 6 (exact rfl))) | (apply s_ld_p tab_ok; (iterate 7 (exact rfl)))
      | (apply s_ld_f tab_ok; (iterate 6 (exact rfl))) | (apply s_ld_w tab_ok; (iterate 5 (exact rfl)); (first | exact patD_len _)) | (apply s_assign; (iterate 4 (exact rfl))) | (apply s_len tab_ok; (iterate 5 (exact rfl))) | (apply s_lens str_ok; (iterate 4 (exact rfl)))
      | (apply s_idx tab_ok; (iterate 7 (exact rfl)); (first | exact patR_get (by assumption) | exact row_map (by assumption) | assumption)) | (apply s_alloc tabZ_ok; (iterate 7 (exact rfl))) | (apply s_boxZ; (iterate 5 (exact rfl)); first | exact rfl | exact allD_mapd _) | (apply s_store tab_ok; (iterate 10 (exact rfl))) | (apply s_lit tab_ok tabZ_ok; (iterate 10 (exact rfl)))
      | (apply s_lit1 tab_ok tabZ_ok; (iterate 9 (exact rfl)); (first | exact patD_len _)) | (apply s_app tab_ok tabZ_ok; (iterate 13 (exact rfl)); (first | (simp; done) | (simp; omega))) | (apply s_lss_t; (iterate 5 (exact rfl)); omega) | (apply s_lss_f; (iterate 5 (exact rfl)); omega) | (apply s_add64; (iterate 5 (exact rfl)); omega)
      | (apply s_call; (iterate 6 (exact rfl)); first | (exact ho; rintro _ rfl))
      | refine al_nil ?_ | refine q_then_n ?_ | refine q_blk_n ?_ | refine q_blk_r ?_ | refine q_blk_e ?_
      | refine q_blk_o rfl ?_ | refine q_then_e ?_ | refine aw_block ?_ | refine aw_exit ?_ | refine q_then_r ?_
      | refine aw_seq ?_ | refine aw_reg ?_ | refine aw_true rfl ?_ | refine aw_false rfl ?_ | refine aw_skip ?_
      | refine aw_ret ?_ | refine al_fork ?_ ?_ | refine al_fork3 ?_ ?_ ?_
      | refine aw_draws (id := 6) (trO [0, 1, 2, 3, 4, 5, 6, 7, 8, 9, 10] .nil) [10] [] mixed_ok (by kernel_rfl) ?_
      | refine aw_draws (id := 7) (trO [0, 1, 2, 3, 4, 5, 6, 7, 8, 9, 10, 11, 12] .nil) [11] [] mixed_ok (by kernel_rfl) ?_
      | refine aw_draws (id := 14) (trO [0, 1, 2, 3, 4, 5, 6, 7, 8] .nil) [8] [8] mixed_ok (by kernel_rfl) ?_)
  clear ho
  refine w_loop [3, 4, 5, 7] (fun n vs σ => ∃ i : Nat, vs = [.d (.fptr (roomL g L N T)), .d (.fptr (patD (.mk 5 sn si ss sa sb sc sl))), .d (.fptr (patD (.mk 5 pn pi ps pa pb pc pl))), .d (.v (.int .i64 (i : Int)))] ∧ i ≤ j0 ∧ n = j0 - i) rfl ⟨0, rfl, by omega, rfl⟩ ?_
  rintro n vs σ ⟨i, rfl, hi, rfl⟩ fr hfr
  cases hfr
  by_cases hij : i < j0
  · obtain ⟨⟨ak, an, ai, as', aa, ab, ac, al⟩, ha⟩ := getS (l := sl) (k := i) (by omega)
    obtain ⟨⟨bk, bn, bi, bs, ba, bb, bc, bl⟩, hb⟩ := getS (l := pl) (k := i) (by omega)
    have hw := hwi i _ _ ha hb
    rw [hbe i hij _ _ ha hb] at hw
    repeat' (first
      | refine s_op rfl ?_ | (apply s_move; (iterate 4 (exact rfl))) | (apply s_fa_p tab_ok; (iterate 5 (exact rfl))) | (apply s_fa_f tab_ok; (iterate 6 (exact rfl))) | (apply s_ld_p tab_ok; (iterate 7 (exact rfl)))
      | (apply s_ld_f tab_ok; (iterate 6 (exact rfl))) | (apply s_ld_w tab_ok; (iterate 5 (exact rfl)); (first | exact patD_len _)) | (apply s_assign; (iterate 4 (exact rfl))) | (apply s_len tab_ok; (iterate 5 (exact rfl))) | (apply s_lens str_ok; (iterate 4 (exact rfl)))
      | (apply s_idx tab_ok; (iterate 7 (exact rfl)); (first | exact patR_get (by assumption) | exact row_map (by assumption) | assumption)) | (apply s_alloc tabZ_ok; (iterate 7 (exact rfl))) | (apply s_boxZ; (iterate 5 (exact rfl)); first | exact rfl | exact allD_mapd _) | (apply s_store tab_ok; (iterate 10 (exact rfl))) | (apply s_lit tab_ok tabZ_ok; (iterate 10 (exact rfl)))
      | (apply s_lit1 tab_ok tabZ_ok; (iterate 9 (exact rfl)); (first | exact patD_len _)) | (apply s_app tab_ok tabZ_ok; (iterate 13 (exact rfl)); (first | (simp; done) | (simp; omega))) | (apply s_lss_t; (iterate 5 (exact rfl)); omega) | (apply s_lss_f; (iterate 5 (exact rfl)); omega) | (apply s_add64; (iterate 5 (exact rfl)); omega)
      | (apply s_call; (iterate 6 (exact rfl)); first | (exact hw; rintro _ rfl))
      | refine al_nil ?_ | refine q_then_n ?_ | refine q_blk_n ?_ | refine q_blk_r ?_ | refine q_blk_e ?_
      | refine q_blk_o rfl ?_ | refine q_then_e ?_ | refine aw_block ?_ | refine aw_exit ?_ | refine q_then_r ?_
      | refine aw_seq ?_ | refine aw_reg ?_ | refine aw_true rfl ?_ | refine aw_false rfl ?_ | refine aw_skip ?_
      | refine aw_ret ?_ | refine al_fork ?_ ?_ | refine al_fork3 ?_ ?_ ?_
      | refine aw_draws (id := 6) (trO [0, 1, 2, 3, 4, 5, 6, 7, 8, 9, 10] .nil) [10] [] mixed_ok (by kernel_rfl) ?_
      | refine aw_draws (id := 7) (trO [0, 1, 2, 3, 4, 5, 6, 7, 8, 9, 10, 11, 12] .nil) [11] [] mixed_ok (by kernel_rfl) ?_
      | refine aw_draws (id := 14) (trO [0, 1, 2, 3, 4, 5, 6, 7, 8] .nil) [8] [8] mixed_ok (by kernel_rfl) ?_)
    all_goals exact ⟨_, _, rfl, by omega, i + 1, rfl, by omega, rfl⟩
  · have hij : i = j0 := by omega
    subst hij
    have hw := hwi i _ _ hx hy
    rw [hxy] at hw
    obtain ⟨xk, xn, xi, xs, xa, xb, xc, xl⟩ := x
    obtain ⟨yk, yn, yi, ys, ya, yb, yc, yl⟩ := y
    repeat' (first
      | refine s_op rfl ?_ | (apply s_move; (iterate 4 (exact rfl))) | (apply s_fa_p tab_ok; (iterate 5 (exact rfl))) | (apply s_fa_f tab_ok; (iterate 6 (exact rfl))) | (apply s_ld_p tab_ok; (iterate 7 (exact rfl)))
      | (apply s_ld_f tab_ok; (iterate 6 (exact rfl))) | (apply s_ld_w tab_ok; (iterate 5 (exact rfl)); (first | exact patD_len _)) | (apply s_assign; (iterate 4 (exact rfl))) | (apply s_len tab_ok; (iterate 5 (exact rfl))) | (apply s_lens str_ok; (iterate 4 (exact rfl)))
      | (apply s_idx tab_ok; (iterate 7 (exact rfl)); (first | exact patR_get (by assumption) | exact row_map (by assumption) | assumption)) | (apply s_alloc tabZ_ok; (iterate 7 (exact rfl))) | (apply s_boxZ; (iterate 5 (exact rfl)); first | exact rfl | exact allD_mapd _) | (apply s_store tab_ok; (iterate 10 (exact rfl))) | (apply s_lit tab_ok tabZ_ok; (iterate 10 (exact rfl)))
      | (apply s_lit1 tab_ok tabZ_ok; (iterate 9 (exact rfl)); (first | exact patD_len _)) | (apply s_app tab_ok tabZ_ok; (iterate 13 (exact rfl)); (first | (simp; done) | (simp; omega))) | (apply s_lss_t; (iterate 5 (exact rfl)); omega) | (apply s_lss_f; (iterate 5 (exact rfl)); omega) | (apply s_add64; (iterate 5 (exact rfl)); omega)
      | (apply s_call; (iterate 6 (exact rfl)); first | (exact hw; rintro _ rfl) | (exact hrec; rintro _ rfl))
      | refine al_nil ?_ | refine q_then_n ?_ | refine q_blk_n ?_ | refine q_blk_r ?_ | refine q_blk_e ?_
      | refine q_blk_o rfl ?_ | refine q_then_e ?_ | refine aw_block ?_ | refine aw_exit ?_ | refine q_then_r ?_
      | refine aw_seq ?_ | refine aw_reg ?_ | refine aw_true rfl ?_ | refine aw_false rfl ?_ | refine aw_skip ?_
      | refine aw_ret ?_ | refine al_fork ?_ ?_ | refine al_fork3 ?_ ?_ ?_
      | refine aw_draws (id := 6) (trO [0, 1, 2, 3, 4, 5, 6, 7, 8, 9, 10] .nil) [10] [] mixed_ok (by kernel_rfl) ?_
      | refine aw_draws (id := 7) (trO [0, 1, 2, 3, 4, 5, 6, 7, 8, 9, 10, 11, 12] .nil) [11] [] mixed_ok (by kernel_rfl) ?_
      | refine aw_draws (id := 14) (trO [0, 1, 2, 3, 4, 5, 6, 7, 8] .nil) [8] [8] mixed_ok (by kernel_rfl) ?_)
    all_goals
      refine w_adoptF 9 41 8 rfl ?_
      intro locA σ hc; have hA := hc.at'; clear hc
      refine w_loop [4, 7, 8, 9, 10] (fun n vs σ => ∃ k ver m : Nat, vs = [.d (.fptr (patD (.mk 5 sn si ss sa sb sc sl))), .d (.v (.int .i64 (i : Int))), .d (patsD parts), .own locA ver 8 0 m, .d (.v (.int .i64 (k : Int)))] ∧ σ[locA]? = some (.arr 41 8 ver (patR ((parts.take k).map fun z => .mk 5 sn si ss sa sb sc (sl.set i z)))) ∧ m = k ∧ k ≤ parts.length ∧ n = parts.length - k) rfl ⟨0, 0, 0, rfl, hA, rfl, by omega, rfl⟩ ?_
      clear hA
      rintro n vs σ ⟨k, ver, m, rfl, hA, hm, hk, rfl⟩ fr hfr
      cases hfr
      have htl : (parts.take k).length = k := by rw [List.length_take]; omega
      have hpl3 := patR_len ((parts.take k).map fun z => Pat.mk 5 sn si ss sa sb sc (sl.set i z))
      rw [List.length_map, htl] at hpl3
      by_cases hlt : k < parts.length
      · obtain ⟨⟨zk, zn, zi, zs, za, zb, zc, zl⟩, hz⟩ := getS hlt
        have ht := take_next hz
        repeat' (first
      | refine s_op rfl ?_ | (apply s_move; (iterate 4 (exact rfl))) | (apply s_fa_p tab_ok; (iterate 5 (exact rfl))) | (apply s_fa_f tab_ok; (iterate 6 (exact rfl))) | (apply s_ld_p tab_ok; (iterate 7 (exact rfl)))
      | (apply s_ld_f tab_ok; (iterate 6 (exact rfl))) | (apply s_ld_w tab_ok; (iterate 5 (exact rfl)); (first | exact patD_len _)) | (apply s_assign; (iterate 4 (exact rfl))) | (apply s_len tab_ok; (iterate 5 (exact rfl))) | (apply s_lens str_ok; (iterate 4 (exact rfl)))
      | (apply s_idx tab_ok; (iterate 7 (exact rfl)); (first | exact patR_get (by assumption) | exact row_map (by assumption) | assumption)) | (apply s_boxZ; (iterate 5 (exact rfl)); first | exact rfl | exact allD_mapd _) | (apply s_lss_t; (iterate 5 (exact rfl)); omega) | (apply s_lss_f; (iterate 5 (exact rfl)); omega) | (apply s_add64; (iterate 5 (exact rfl)); omega)
      | (apply s_allocF tabZ_ok (d := 11); (iterate 6 (exact rfl)); intro locX σ hc; have hX := hc.at'; have nAX := hc.ne hA; replace hA := hc.keep hA; clear hc)
      | (refine o_freezeC locX 7 (rows := patR (sl.set i (.mk zk zn zi zs za zb zc zl))) hX rfl hC (by rw [patR_len, patR_len, List.length_set]) ?_; intro σ hc; replace hX := hc.row; replace hA := hc.keep' _ _ hA nAX nAC; clear hc hC)
      | (apply s_storeF tab_ok; (iterate 7 (exact rfl)); exact hX; (iterate 2 (exact rfl)); intro σ hc; replace hX := hc.at'; replace hA := hc.keep nAX hA; (try replace hC := hc.keep (by assumption) hC); clear hc)
      | (apply s_litO tab_ok tabZ_ok (d := 54) (m := 0); (iterate 12 (exact rfl)); intro locC σ hc; have hC := hc.at'; have nAC := hc.ne hA; have nXC := hc.ne hX; have nCX := nXC.symm; have nCA := nAC.symm; replace hA := hc.keep hA; replace hX := hc.keep hX; clear hc)
      | (apply s_appF tab_ok tabZ_ok (d := 57) (rows2 := patR sl) (rows3 := patR sl) (m := (patR sl).length); (iterate 10 (exact rfl)); exact hC; exact src_of (Tab.slIs tab_ok (t := 26) rfl) (rows_d rfl); exact rfl; (refine ⟨?_, ?_, ?_⟩ <;> first | omega | (simp only [List.length_append, List.length_map, List.length_cons, List.length_nil] <;> omega)); intro σ hc; replace hC := hc.at'; replace hA := hc.keep nAC hA; replace hX := hc.keep nXC hX; clear hc)
      | (apply s_ldF tab_ok; (iterate 5 (exact rfl)); exact hX; exact rfl)
      | (apply s_idxO (i * 8) tab_ok; (iterate 7 (exact rfl)); exact hC; (refine ⟨?_, ?_⟩ <;> omega))
      | (apply s_stA i 0 tab_ok (rows' := patR (sl.set i (.mk zk zn zi zs za zb zc zl))); (iterate 8 (exact rfl)); exact hC; exact patR_get hx; exact rfl; exact Nat.le_refl _; exact patR_set' hx (.mk zk zn zi zs za zb zc zl); intro σ hc; replace hC := hc.at'; replace hA := hc.keep nAC hA; replace hX := hc.keep nXC hX; clear hc)
      | (apply s_appF tab_ok tabZ_ok (d := 70) (rows2 := [patD (.mk 5 sn si ss sa sb sc (sl.set i (.mk zk zn zi zs za zb zc zl)))]) (rows3 := patR ((parts.take (k + 1)).map fun z => .mk 5 sn si ss sa sb sc (sl.set i z))) (m := k + 1); (iterate 10 (exact rfl)); exact hA; exact src_of (Tab.slIs tab_ok (t := 26) rfl) (rows_d rfl); (simp only [ht, List.map_append, List.map_cons, List.map_nil, patR_append]; rfl); (refine ⟨?_, ?_, ?_⟩ <;> first | omega | (simp only [List.length_append, List.length_map, List.length_cons, List.length_nil] <;> omega)); intro σ hc; replace hA := hc.at'; clear hc)
      | (apply s_lit tab_ok tabZ_ok (d := 69); (iterate 10 (exact rfl)))
      | refine al_nil ?_ | refine q_then_n ?_ | refine q_blk_n ?_ | refine q_blk_r ?_ | refine q_blk_e ?_
      | refine q_blk_o rfl ?_ | refine q_then_e ?_ | refine aw_block ?_ | refine aw_exit ?_ | refine q_then_r ?_
      | refine aw_seq ?_ | refine aw_reg ?_ | refine aw_true rfl ?_ | refine aw_false rfl ?_ | refine aw_skip ?_
      | refine aw_ret ?_ | refine al_fork ?_ ?_ | refine al_fork3 ?_ ?_ ?_
      | refine aw_draws (id := 6) (trO [0, 1, 2, 3, 4, 5, 6, 7, 8, 9, 10] .nil) [10] [] mixed_ok (by kernel_rfl) ?_
      | refine aw_draws (id := 7) (trO [0, 1, 2, 3, 4, 5, 6, 7, 8, 9, 10, 11, 12] .nil) [11] [] mixed_ok (by kernel_rfl) ?_
      | refine aw_draws (id := 14) (trO [0, 1, 2, 3, 4, 5, 6, 7, 8] .nil) [8] [8] mixed_ok (by kernel_rfl) ?_)
        all_goals exact ⟨_, _, rfl, by omega, k + 1, _, _, rfl, hA, rfl, by omega, rfl⟩
      · rw [List.take_of_length_le (by omega)] at hA hpl3
        have hq2 : m = (patR (parts.map fun z => Pat.mk 5 sn si ss sa sb sc (sl.set i z))).length := by omega
        subst hq2
        repeat' (first
      | refine s_op rfl ?_ | (apply s_move; (iterate 4 (exact rfl))) | (apply s_fa_p tab_ok; (iterate 5 (exact rfl))) | (apply s_fa_f tab_ok; (iterate 6 (exact rfl))) | (apply s_ld_p tab_ok; (iterate 7 (exact rfl)))
      | (apply s_ld_f tab_ok; (iterate 6 (exact rfl))) | (apply s_ld_w tab_ok; (iterate 5 (exact rfl)); (first | exact patD_len _)) | (apply s_assign; (iterate 4 (exact rfl))) | (apply s_len tab_ok; (iterate 5 (exact rfl))) | (apply s_lens str_ok; (iterate 4 (exact rfl)))
      | (apply s_idx tab_ok; (iterate 7 (exact rfl)); (first | exact patR_get (by assumption) | exact row_map (by assumption) | assumption)) | (apply s_alloc tabZ_ok; (iterate 7 (exact rfl))) | (apply s_boxZ; (iterate 5 (exact rfl)); first | exact rfl | exact allD_mapd _) | (apply s_store tab_ok; (iterate 10 (exact rfl))) | (apply s_lit tab_ok tabZ_ok; (iterate 10 (exact rfl)))
      | (apply s_lit1 tab_ok tabZ_ok; (iterate 9 (exact rfl)); (first | exact patD_len _)) | (apply s_app tab_ok tabZ_ok; (iterate 13 (exact rfl)); (first | (simp; done) | (simp; omega))) | (apply s_lss_t; (iterate 5 (exact rfl)); omega) | (apply s_lss_f; (iterate 5 (exact rfl)); omega) | (apply s_add64; (iterate 5 (exact rfl)); omega)
      | refine al_nil ?_ | refine q_then_n ?_ | refine q_blk_n ?_ | refine q_blk_r ?_ | refine q_blk_e ?_
      | refine q_blk_o rfl ?_ | refine q_then_e ?_ | refine aw_block ?_ | refine aw_exit ?_ | refine q_then_r ?_
      | refine aw_seq ?_ | refine aw_reg ?_ | refine aw_true rfl ?_ | refine aw_false rfl ?_ | refine aw_skip ?_
      | refine aw_ret ?_ | refine al_fork ?_ ?_ | refine al_fork3 ?_ ?_ ?_
      | refine aw_draws (id := 6) (trO [0, 1, 2, 3, 4, 5, 6, 7, 8, 9, 10] .nil) [10] [] mixed_ok (by kernel_rfl) ?_
      | refine aw_draws (id := 7) (trO [0, 1, 2, 3, 4, 5, 6, 7, 8, 9, 10, 11, 12] .nil) [11] [] mixed_ok (by kernel_rfl) ?_
      | refine aw_draws (id := 14) (trO [0, 1, 2, 3, 4, 5, 6, 7, 8] .nil) [8] [8] mixed_ok (by kernel_rfl) ?_)
        all_goals exact q_ret rfl ⟨locA, ver, 41, rfl, hA⟩
end
end Go.Proofs.Ytjflembhgjcgkaa

/- C63: split in one; Look, of the document: goes over a shape. -/
-- ALLUNDEF -- BOXZ
-- LEN: patD_len
-- ROW: patR_get row_map
-- DEF LDF: (apply s_ldF tab_ok; (iterate 5 (exact rfl)); exact hF; exact rfl)
-- DEF IDC: (apply s_idxO i tab_ok; (iterate 7 (exact rfl)); exact hC; (refine ⟨?_, ?_⟩ <;> omega))
-- DEF STC: (apply s_stA i 0 tab_ok (rows' := (cm.set i true).map boolRow); (iterate 8 (exact rfl)); exact hC; exact row_map hb; (exact Nat.mul_one _); exact Nat.le_refl _; exact come_set _ _ _; intro σ' hc)
-- DEF STF: (apply s_storeF tab_ok; (iterate 7 (exact rfl)); exact hF; (iterate 2 (exact rfl)); intro σ' hc)
namespace Go.Proofs.Ytjflembhgjcgkaa
open Go.RowKit

theorem withinL_first : ∀ {l m : List Pat}, withinL l m = false → ∃ (j : Nat) (x y : Pat), l[j]? = some x ∧ m[j]? = some y ∧ withinB x y = false ∧ ∀ i, i < j → ∀ a b : Pat, l[i]? = some a → m[i]? = some b → withinB a b = true
  | [], m, h => by cases m <;> simp [withinL] at h
  | a :: l, [], h => by simp [withinL] at h
  | a :: l, b :: m, h => by
    cases hw : withinB a b with
    | false => exact ⟨0, a, b, rfl, rfl, hw, fun i hi => absurd hi (Nat.not_lt_zero i)⟩
    | true =>
      simp only [withinL, hw, Bool.true_and] at h
      obtain ⟨j, x, y, h1, h2, h3, h4⟩ := withinL_first h
      refine ⟨j + 1, x, y, by simpa using h1, by simpa using h2, h3, fun i hi a' b' e1 e2 => ?_⟩
      match i, hi, e1, e2 with
      | 0, _, e1, e2 =>
        have e1 : a = a' := by simpa using e1
        have e2 : b = b' := by simpa using e2
        rw [← e1, ← e2]; exact hw
      | i + 1, hi, e1, e2 => exact h4 i (by omega) a' b' (by simpa using e1) (by simpa using e2)
theorem split_c {r : RoomT} (hr : RoomSm r) : ∀ S p : Pat, Wf r.g S → Wf r.g p → S.small 1000000000 → p.small 1000000000 → apartB S p = false → withinB S p = false → RunsP Try.prog 117 [.agg (roomD r), .agg (patD S), .agg (patD p)] (fun v => v = patsD (splitP r S p)) := by
  refine ind_pat fun k n i s a b c l ih p hSw hpw hSs hps hap hwi => ?_
  by_cases hS : openB (.mk k n i s a b c l) = true
  · have hp : openB p = false := by
      cases h : openB p with
      | false => rfl
      | true => rw [within_open h] at hwi; cases hwi
    exact split_open_c hr hS hp hpw
  · have hS' : openB (.mk k n i s a b c l) = false := by simpa using hS
    obtain ⟨h1, h2, h3, h4, h5, h6⟩ := split_same hSw hpw hS' hap hwi
    obtain ⟨k', n', i', s', a', b', c', l'⟩ := p
    simp only [Pat.kind, Pat.n, Pat.l] at h2 h3 h4 h5 h6
    subst h2 h3 h4
    obtain ⟨j, x, y, hx, hy, hxy, hbe⟩ := withinL_first h6
    have hxap : apartB x y = false := by
      cases e : apartB x y with
      | false => rfl
      | true => rw [apart_kids (p := .mk 5 n i s a b c l) (q := .mk 5 n i' s' a' b' c' l') rfl rfl rfl (apartL_iff.2 ⟨j, x, y, hx, hy, e⟩)] at hap; cases hap
    have hrec := ih x (List.mem_of_getElem? hx) y (hSw.kids x (List.mem_of_getElem? hx)) (hpw.kids y (List.mem_of_getElem? hy)) (Pat.small_get hSs hx) (Pat.small_get hps hy) hxap hxy
    have hres := split_con_c (g := r.g) (L := r.l) (N := r.nums) (T := r.texts) (sn := n) (si := i) (pn := n) (pi := i') (ss := s) (ps := s') (sa := a) (sb := b) (sc := c) (pa := a') (pb := b') (pc := c') h5 hSs.1 hx hy hxy hbe
      (fun i a b e1 e2 => within_c 1000000000 (by decide) a (Pat.small_get hSs e1) b (Pat.small_get hps e2)) (split_size hr x y).1 hrec
    have e : splitP r (.mk 5 n i s a b c l) (.mk 5 n i' s' a' b' c' l') = (splitP r x y).map fun z => .mk 5 n i s a b c (l.set j z) := by
      rw [splitP_def, if_neg hS]
      have := splitL_first (r := r) hx hy hxy hbe
      show (splitL r l l').map _ = _
      rw [this, List.map_map]
      rfl
    rw [e]
    exact hres

def zeroC : List DV := [.v (.int .u8 0), .v (.int .i64 0), .v (.int .i64 0), .v (.string ⟨#[]⟩), .v (.int .i64 0), .v (.int .i64 0), .v (.int .i64 0), .nil]
def missD (m : Pat) : List DV := if m.kind = 0 then zeroC else patD m
def boolRow (b : Bool) : List DV := [.v (.bool b)]
def foundC (f : FoundT) (locC ver : Nat) : List AV := (missD f.missing).map .d ++ [.own locC ver 1 0 f.come.length]
theorem missD_cells : ∀ m : Pat, ∃ c1 c2 c3 c4 c5 c6 c7, missD m = [.v (.int .u8 m.kind), c1, c2, c3, c4, c5, c6, c7]
  | .mk k n i s a b c l => by
    unfold missD
    by_cases h : (Pat.mk k n i s a b c l).kind = 0
    · rw [if_pos h, h]; exact ⟨_, _, _, _, _, _, _, rfl⟩
    · rw [if_neg h]; exact ⟨_, _, _, _, _, _, _, rfl⟩
theorem come_set (l : List Bool) (i : Nat) (b : Bool) : (l.map boolRow).set i (spliceL (boolRow b) 0 [.v (.bool true)]) = (l.set i true).map boolRow := by
  rw [List.map_set]; rfl
theorem look_len (r : RoomT) : ∀ (n : Nat) (S : Pat) (f : FoundT), (lookF r n S f).come.length = f.come.length
  | 0, _, _ => rfl
  | n + 1, S, f => by
    simp only [lookF]
    split
    · split
      · split
        · simp
        · rename_i p _ _
          have : ∀ (xs : List Pat) (f : FoundT), (xs.foldl (fun f x => lookF r n x f) f).come.length = f.come.length := fun xs => by
            induction xs with
            | nil => intro f; rfl
            | cons x xs ih => intro f; rw [List.foldl_cons, ih, look_len r n x f]
          exact this _ f
      · rfl
    · split <;> rfl
/-- What Look leaves. -/
structure LookQ (σ : List AObj) (locF locC ver : Nat) (f' : FoundT) (v : AV) (σ' : List AObj) : Prop where
  ret : v = .tup []
  row : σ'[locF]? = some (.row 119 (foundC f' locC ver))
  arr : σ'[locC]? = some (.arr 4 1 ver (f'.come.map boolRow))
  keep : ∀ k o, σ[k]? = some o → k ≠ locF → k ≠ locC → σ'[k]? = some o

section
variable {r : RoomT} {S : Pat} {f : FoundT} {σ : List AObj} {locF locC ver : Nat}
set_option maxRecDepth 100000 in
set_option maxHeartbeats 8000000 in
theorem look_none (hlen : r.l.length ≤ 1000000000) (hap : ∀ q ∈ r.l, RunsP Try.prog 35 [.agg (patD S), .agg (patD q)] (fun v => v = .v (.bool true))) (hS : S.kind ≠ 0)
    (hF : σ[locF]? = some (.row 119 (foundC f locC ver))) (hC : σ[locC]? = some (.arr 4 1 ver (f.come.map boolRow))) :
    Runs Try.prog 97 [.d (.agg (roomD r)), .d (.agg (patD S)), .ptr locF 0 0] σ (LookQ σ locF locC ver (if f.missing.kind = 0 then ⟨S, f.come⟩ else f)) := by
  have hne : locC ≠ locF := fun e => by rw [e, hF] at hC; cases hC
  obtain ⟨g, L, N, T⟩ := r
  obtain ⟨m, cm⟩ := f
  simp only at hlen hap hF hC
  have e1 := patR_len L
  obtain ⟨c1, c2, c3, c4, c5, c6, c7, hm⟩ := missD_cells m
  have hF0 := hF
  unfold foundC at hF
  simp only at hF
  rw [hm] at hF
  obtain ⟨sk, sn, si, ss, sa, sb, sc, sl⟩ := S
  have hS : sk ≠ 0 := hS
  show Runs Try.prog 97 [.d (.agg (roomL g L N T)), .d (.agg (patD (.mk sk sn si ss sa sb sc sl))), .ptr locF 0 0] σ _
  refine enter 67 Try.func97 rfl (by kernel_rfl) rfl rfl rfl ?_
  repeat' (first
      | refine s_op rfl ?_ | (apply s_move; (iterate 4 (exact rfl))) | (apply s_fa_p tab_ok; (iterate 5 (exact rfl))) | (apply s_fa_f tab_ok; (iterate 6 (exact rfl))) | (apply s_ld_p tab_ok; (iterate 7 (exact rfl)))
      | (apply s_ld_f tab_ok; (iterate 6 (exact rfl))) | (apply s_ld_w tab_ok; (iterate 5 (exact rfl)); (first | exact patD_len _)) | (apply s_assign; (iterate 4 (exact rfl))) | (apply s_len tab_ok; (iterate 5 (exact rfl))) | (apply s_lens str_ok; (iterate 4 (exact rfl)))
      | (apply s_idx tab_ok; (iterate 7 (exact rfl)); (first | exact patR_get (by assumption) | exact row_map (by assumption) | assumption)) | (apply s_nilc; (iterate 5 (exact rfl))) | (apply s_boxZ; (iterate 5 (exact rfl)); first | exact rfl | exact allD_mapd _) | (apply s_store tab_ok; (iterate 10 (exact rfl))) | (apply s_eql_t; (iterate 5 (exact rfl)); omega)
      | (apply s_eql_f; (iterate 5 (exact rfl)); omega) | (apply s_lss_t; (iterate 5 (exact rfl)); omega) | (apply s_lss_f; (iterate 5 (exact rfl)); omega) | (apply s_add64; (iterate 5 (exact rfl)); omega)
      | refine al_nil ?_ | refine q_then_n ?_ | refine q_blk_n ?_ | refine q_blk_r ?_ | refine q_blk_e ?_
      | refine q_blk_o rfl ?_ | refine q_then_e ?_ | refine aw_block ?_ | refine aw_exit ?_ | refine q_then_r ?_
      | refine aw_seq ?_ | refine aw_reg ?_ | refine aw_true rfl ?_ | refine aw_false rfl ?_ | refine aw_skip ?_
      | refine aw_ret ?_ | refine al_fork ?_ ?_ | refine al_fork3 ?_ ?_ ?_
      | refine aw_draws (id := 4) (trO [0, 1, 2, 3, 4, 5, 6] .nil) [6] [] mixed_ok (by kernel_rfl) ?_
      | refine aw_draws (id := 5) (trO [0, 1, 2, 3, 4, 5, 6] .nil) [6] [] mixed_ok (by kernel_rfl) ?_
      | refine aw_draws (id := 7) (trO [0, 1, 2, 3, 4, 5, 6, 7, 8] .nil) [7] [] mixed_ok (by kernel_rfl) ?_
      | refine aw_draws (id := 11) (trO [0, 1, 2, 3, 4, 5, 6] .nil) [6] [6] mixed_ok (by kernel_rfl) ?_)
  refine w_loop [2, 3, 4, 6] (fun n vs σ' => ∃ i : Nat, vs = [.ptr locF 0 0, .d (.fptr (roomL g L N T)), .d (.fptr (patD (.mk sk sn si ss sa sb sc sl))), .d (.v (.int .i64 (i : Int)))] ∧ σ' = σ ∧ i ≤ L.length ∧ n = L.length - i) rfl ⟨0, rfl, rfl, by omega, rfl⟩ ?_
  rintro n vs σ' ⟨i, rfl, rfl, hi, rfl⟩ fr hfr
  cases hfr
  by_cases hlt : i < L.length
  · obtain ⟨⟨qk, qn, qi, qs, qa, qb, qc, ql⟩, hq⟩ := getS hlt
    have ha := hap _ (List.mem_of_getElem? hq)
    repeat' (first
      | refine s_op rfl ?_ | (apply s_move; (iterate 4 (exact rfl))) | (apply s_fa_p tab_ok; (iterate 5 (exact rfl))) | (apply s_fa_f tab_ok; (iterate 6 (exact rfl))) | (apply s_ld_p tab_ok; (iterate 7 (exact rfl)))
      | (apply s_ld_f tab_ok; (iterate 6 (exact rfl))) | (apply s_ld_w tab_ok; (iterate 5 (exact rfl)); (first | exact patD_len _)) | (apply s_assign; (iterate 4 (exact rfl))) | (apply s_len tab_ok; (iterate 5 (exact rfl))) | (apply s_lens str_ok; (iterate 4 (exact rfl)))
      | (apply s_idx tab_ok; (iterate 7 (exact rfl)); (first | exact patR_get (by assumption) | exact row_map (by assumption) | assumption)) | (apply s_nilc; (iterate 5 (exact rfl))) | (apply s_boxZ; (iterate 5 (exact rfl)); first | exact rfl | exact allD_mapd _) | (apply s_store tab_ok; (iterate 10 (exact rfl))) | (apply s_eql_t; (iterate 5 (exact rfl)); omega)
      | (apply s_eql_f; (iterate 5 (exact rfl)); omega) | (apply s_lss_t; (iterate 5 (exact rfl)); omega) | (apply s_lss_f; (iterate 5 (exact rfl)); omega) | (apply s_add64; (iterate 5 (exact rfl)); omega)
      | (apply s_call; (iterate 6 (exact rfl)); first | (exact ha; rintro _ rfl))
      | refine al_nil ?_ | refine q_then_n ?_ | refine q_blk_n ?_ | refine q_blk_r ?_ | refine q_blk_e ?_
      | refine q_blk_o rfl ?_ | refine q_then_e ?_ | refine aw_block ?_ | refine aw_exit ?_ | refine q_then_r ?_
      | refine aw_seq ?_ | refine aw_reg ?_ | refine aw_true rfl ?_ | refine aw_false rfl ?_ | refine aw_skip ?_
      | refine aw_ret ?_ | refine al_fork ?_ ?_ | refine al_fork3 ?_ ?_ ?_
      | refine aw_draws (id := 4) (trO [0, 1, 2, 3, 4, 5, 6] .nil) [6] [] mixed_ok (by kernel_rfl) ?_
      | refine aw_draws (id := 5) (trO [0, 1, 2, 3, 4, 5, 6] .nil) [6] [] mixed_ok (by kernel_rfl) ?_
      | refine aw_draws (id := 7) (trO [0, 1, 2, 3, 4, 5, 6, 7, 8] .nil) [7] [] mixed_ok (by kernel_rfl) ?_
      | refine aw_draws (id := 11) (trO [0, 1, 2, 3, 4, 5, 6] .nil) [6] [6] mixed_ok (by kernel_rfl) ?_)
    all_goals exact ⟨_, _, rfl, by omega, i + 1, rfl, rfl, by omega, rfl⟩
  · generalize hmk : m.kind = mk at *
    by_cases h0 : mk = 0
    · subst h0
      rw [if_pos rfl]
      repeat' (first
      | refine s_op rfl ?_ | (apply s_move; (iterate 4 (exact rfl))) | (apply s_fa_p tab_ok; (iterate 5 (exact rfl))) | (apply s_fa_f tab_ok; (iterate 6 (exact rfl))) | (apply s_ld_p tab_ok; (iterate 7 (exact rfl)))
      | (apply s_ld_f tab_ok; (iterate 6 (exact rfl))) | (apply s_ld_w tab_ok; (iterate 5 (exact rfl)); (first | exact patD_len _)) | (apply s_assign; (iterate 4 (exact rfl))) | (apply s_len tab_ok; (iterate 5 (exact rfl))) | (apply s_lens str_ok; (iterate 4 (exact rfl)))
      | (apply s_idx tab_ok; (iterate 7 (exact rfl)); (first | exact patR_get (by assumption) | exact row_map (by assumption) | assumption)) | (apply s_nilc; (iterate 5 (exact rfl))) | (apply s_boxZ; (iterate 5 (exact rfl)); first | exact rfl | exact allD_mapd _) | (apply s_eql_t; (iterate 5 (exact rfl)); omega) | (apply s_eql_f; (iterate 5 (exact rfl)); omega)
      | (apply s_lss_t; (iterate 5 (exact rfl)); omega) | (apply s_lss_f; (iterate 5 (exact rfl)); omega) | (apply s_add64; (iterate 5 (exact rfl)); omega)
      | (apply s_ldF tab_ok; (iterate 5 (exact rfl)); exact hF; exact rfl)
      | (apply s_storeF tab_ok; (iterate 7 (exact rfl)); exact hF; (iterate 2 (exact rfl)); intro σ' hc)
      | refine al_nil ?_ | refine q_then_n ?_ | refine q_blk_n ?_ | refine q_blk_r ?_ | refine q_blk_e ?_
      | refine q_blk_o rfl ?_ | refine q_then_e ?_ | refine aw_block ?_ | refine aw_exit ?_ | refine q_then_r ?_
      | refine aw_seq ?_ | refine aw_reg ?_ | refine aw_true rfl ?_ | refine aw_false rfl ?_ | refine aw_skip ?_
      | refine aw_ret ?_ | refine al_fork ?_ ?_ | refine al_fork3 ?_ ?_ ?_
      | refine aw_draws (id := 4) (trO [0, 1, 2, 3, 4, 5, 6] .nil) [6] [] mixed_ok (by kernel_rfl) ?_
      | refine aw_draws (id := 5) (trO [0, 1, 2, 3, 4, 5, 6] .nil) [6] [] mixed_ok (by kernel_rfl) ?_
      | refine aw_draws (id := 7) (trO [0, 1, 2, 3, 4, 5, 6, 7, 8] .nil) [7] [] mixed_ok (by kernel_rfl) ?_
      | refine aw_draws (id := 11) (trO [0, 1, 2, 3, 4, 5, 6] .nil) [6] [6] mixed_ok (by kernel_rfl) ?_)
      all_goals exact q_end rfl ⟨rfl, by
        have e : missD (.mk sk sn si ss sa sb sc sl) = patD (.mk sk sn si ss sa sb sc sl) := if_neg hS
        unfold foundC; simp only; rw [e]; exact hc.at', hc.keep hne hC, fun k o e h1 h2 => hc.keep h1 e⟩
    · rw [if_neg h0]
      repeat' (first
      | refine s_op rfl ?_ | (apply s_move; (iterate 4 (exact rfl))) | (apply s_fa_p tab_ok; (iterate 5 (exact rfl))) | (apply s_fa_f tab_ok; (iterate 6 (exact rfl))) | (apply s_ld_p tab_ok; (iterate 7 (exact rfl)))
      | (apply s_ld_f tab_ok; (iterate 6 (exact rfl))) | (apply s_ld_w tab_ok; (iterate 5 (exact rfl)); (first | exact patD_len _)) | (apply s_assign; (iterate 4 (exact rfl))) | (apply s_len tab_ok; (iterate 5 (exact rfl))) | (apply s_lens str_ok; (iterate 4 (exact rfl)))
      | (apply s_idx tab_ok; (iterate 7 (exact rfl)); (first | exact patR_get (by assumption) | exact row_map (by assumption) | assumption)) | (apply s_nilc; (iterate 5 (exact rfl))) | (apply s_boxZ; (iterate 5 (exact rfl)); first | exact rfl | exact allD_mapd _) | (apply s_store tab_ok; (iterate 10 (exact rfl))) | (apply s_eql_t; (iterate 5 (exact rfl)); omega)
      | (apply s_eql_f; (iterate 5 (exact rfl)); omega) | (apply s_lss_t; (iterate 5 (exact rfl)); omega) | (apply s_lss_f; (iterate 5 (exact rfl)); omega) | (apply s_add64; (iterate 5 (exact rfl)); omega)
      | (apply s_ldF tab_ok; (iterate 5 (exact rfl)); exact hF; exact rfl)
      | refine al_nil ?_ | refine q_then_n ?_ | refine q_blk_n ?_ | refine q_blk_r ?_ | refine q_blk_e ?_
      | refine q_blk_o rfl ?_ | refine q_then_e ?_ | refine aw_block ?_ | refine aw_exit ?_ | refine q_then_r ?_
      | refine aw_seq ?_ | refine aw_reg ?_ | refine aw_true rfl ?_ | refine aw_false rfl ?_ | refine aw_skip ?_
      | refine aw_ret ?_ | refine al_fork ?_ ?_ | refine al_fork3 ?_ ?_ ?_
      | refine aw_draws (id := 4) (trO [0, 1, 2, 3, 4, 5, 6] .nil) [6] [] mixed_ok (by kernel_rfl) ?_
      | refine aw_draws (id := 5) (trO [0, 1, 2, 3, 4, 5, 6] .nil) [6] [] mixed_ok (by kernel_rfl) ?_
      | refine aw_draws (id := 7) (trO [0, 1, 2, 3, 4, 5, 6, 7, 8] .nil) [7] [] mixed_ok (by kernel_rfl) ?_
      | refine aw_draws (id := 11) (trO [0, 1, 2, 3, 4, 5, 6] .nil) [6] [6] mixed_ok (by kernel_rfl) ?_)
      all_goals exact q_end rfl ⟨rfl, hF0, hC, fun k o e h1 h2 => e⟩
set_option maxRecDepth 100000 in
set_option maxHeartbeats 8000000 in
theorem look_within (hlen : r.l.length ≤ 1000000000) {i : Nat} {p : Pat} (hp : r.l[i]? = some p) (hap : ∀ j q, j < i → r.l[j]? = some q → RunsP Try.prog 35 [.agg (patD S), .agg (patD q)] (fun v => v = .v (.bool true)))
    (hnot : RunsP Try.prog 35 [.agg (patD S), .agg (patD p)] (fun v => v = .v (.bool false))) (hwi : RunsP Try.prog 116 [.agg (patD S), .agg (patD p)] (fun v => v = .v (.bool true))) (hcl : f.come.length = r.l.length)
    (hF : σ[locF]? = some (.row 119 (foundC f locC ver))) (hC : σ[locC]? = some (.arr 4 1 ver (f.come.map boolRow))) :
    Runs Try.prog 97 [.d (.agg (roomD r)), .d (.agg (patD S)), .ptr locF 0 0] σ (LookQ σ locF locC ver ⟨f.missing, f.come.set i true⟩) := by
  have hne : locC ≠ locF := fun e => by rw [e, hF] at hC; cases hC
  obtain ⟨g, L, N, T⟩ := r
  obtain ⟨m, cm⟩ := f
  simp only at hlen hap hF hC hp hcl
  have e1 := patR_len L
  have hil := (List.getElem?_eq_some_iff.1 hp).1
  obtain ⟨c1, c2, c3, c4, c5, c6, c7, hm⟩ := missD_cells m
  have hF0 := hF
  unfold foundC at hF
  simp only at hF
  rw [hm] at hF
  obtain ⟨b, hb⟩ := getS (l := cm) (k := i) (by omega)
  have hcl2 : (cm.map boolRow).length = cm.length := by simp
  obtain ⟨sk, sn, si, ss, sa, sb, sc, sl⟩ := S
  obtain ⟨pk, pn, pi, ps, pa, pb, pc, pl⟩ := p
  show Runs Try.prog 97 [.d (.agg (roomL g L N T)), .d (.agg (patD (.mk sk sn si ss sa sb sc sl))), .ptr locF 0 0] σ _
  refine enter 67 Try.func97 rfl (by kernel_rfl) rfl rfl rfl ?_
  repeat' (first
      | refine s_op rfl ?_ | (apply s_move; (iterate 4 (exact rfl))) | (apply s_fa_p tab_ok; (iterate 5 (exact rfl))) | (apply s_fa_f tab_ok; (iterate 6 (exact rfl))) | (apply s_ld_p tab_ok; (iterate 7 (exact rfl)))
      | (apply s_ld_f tab_ok; (iterate 6 (exact rfl))) | (apply s_ld_w tab_ok; (iterate 5 (exact rfl)); (first | exact patD_len _)) | (apply s_assign; (iterate 4 (exact rfl))) | (apply s_len tab_ok; (iterate 5 (exact rfl))) | (apply s_lens str_ok; (iterate 4 (exact rfl)))
      | (apply s_idx tab_ok; (iterate 7 (exact rfl)); (first | exact patR_get (by assumption) | exact row_map (by assumption) | assumption)) | (apply s_nilc; (iterate 5 (exact rfl))) | (apply s_boxZ; (iterate 5 (exact rfl)); first | exact rfl | exact allD_mapd _) | (apply s_store tab_ok; (iterate 10 (exact rfl))) | (apply s_eql_t; (iterate 5 (exact rfl)); omega)
      | (apply s_eql_f; (iterate 5 (exact rfl)); omega) | (apply s_lss_t; (iterate 5 (exact rfl)); omega) | (apply s_lss_f; (iterate 5 (exact rfl)); omega) | (apply s_add64; (iterate 5 (exact rfl)); omega)
      | refine al_nil ?_ | refine q_then_n ?_ | refine q_blk_n ?_ | refine q_blk_r ?_ | refine q_blk_e ?_
      | refine q_blk_o rfl ?_ | refine q_then_e ?_ | refine aw_block ?_ | refine aw_exit ?_ | refine q_then_r ?_
      | refine aw_seq ?_ | refine aw_reg ?_ | refine aw_true rfl ?_ | refine aw_false rfl ?_ | refine aw_skip ?_
      | refine aw_ret ?_ | refine al_fork ?_ ?_ | refine al_fork3 ?_ ?_ ?_
      | refine aw_draws (id := 4) (trO [0, 1, 2, 3, 4, 5, 6] .nil) [6] [] mixed_ok (by kernel_rfl) ?_
      | refine aw_draws (id := 5) (trO [0, 1, 2, 3, 4, 5, 6] .nil) [6] [] mixed_ok (by kernel_rfl) ?_
      | refine aw_draws (id := 7) (trO [0, 1, 2, 3, 4, 5, 6, 7, 8] .nil) [7] [] mixed_ok (by kernel_rfl) ?_
      | refine aw_draws (id := 11) (trO [0, 1, 2, 3, 4, 5, 6] .nil) [6] [6] mixed_ok (by kernel_rfl) ?_)
  refine w_loop [2, 3, 4, 6] (fun n vs σ' => ∃ j : Nat, vs = [.ptr locF 0 0, .d (.fptr (roomL g L N T)), .d (.fptr (patD (.mk sk sn si ss sa sb sc sl))), .d (.v (.int .i64 (j : Int)))] ∧ σ' = σ ∧ j ≤ i ∧ n = i - j) rfl ⟨0, rfl, rfl, by omega, rfl⟩ ?_
  rintro n vs σ' ⟨j, rfl, rfl, hj, rfl⟩ fr hfr
  cases hfr
  by_cases hlt : j < i
  · obtain ⟨⟨qk, qn, qi, qs, qa, qb, qc, ql⟩, hq⟩ := getS (l := L) (k := j) (by omega)
    have ha := hap j _ hlt hq
    repeat' (first
      | refine s_op rfl ?_ | (apply s_move; (iterate 4 (exact rfl))) | (apply s_fa_p tab_ok; (iterate 5 (exact rfl))) | (apply s_fa_f tab_ok; (iterate 6 (exact rfl))) | (apply s_ld_p tab_ok; (iterate 7 (exact rfl)))
      | (apply s_ld_f tab_ok; (iterate 6 (exact rfl))) | (apply s_ld_w tab_ok; (iterate 5 (exact rfl)); (first | exact patD_len _)) | (apply s_assign; (iterate 4 (exact rfl))) | (apply s_len tab_ok; (iterate 5 (exact rfl))) | (apply s_lens str_ok; (iterate 4 (exact rfl)))
      | (apply s_idx tab_ok; (iterate 7 (exact rfl)); (first | exact patR_get (by assumption) | exact row_map (by assumption) | assumption)) | (apply s_nilc; (iterate 5 (exact rfl))) | (apply s_boxZ; (iterate 5 (exact rfl)); first | exact rfl | exact allD_mapd _) | (apply s_store tab_ok; (iterate 10 (exact rfl))) | (apply s_eql_t; (iterate 5 (exact rfl)); omega)
      | (apply s_eql_f; (iterate 5 (exact rfl)); omega) | (apply s_lss_t; (iterate 5 (exact rfl)); omega) | (apply s_lss_f; (iterate 5 (exact rfl)); omega) | (apply s_add64; (iterate 5 (exact rfl)); omega)
      | (apply s_call; (iterate 6 (exact rfl)); first | (exact ha; rintro _ rfl))
      | refine al_nil ?_ | refine q_then_n ?_ | refine q_blk_n ?_ | refine q_blk_r ?_ | refine q_blk_e ?_
      | refine q_blk_o rfl ?_ | refine q_then_e ?_ | refine aw_block ?_ | refine aw_exit ?_ | refine q_then_r ?_
      | refine aw_seq ?_ | refine aw_reg ?_ | refine aw_true rfl ?_ | refine aw_false rfl ?_ | refine aw_skip ?_
      | refine aw_ret ?_ | refine al_fork ?_ ?_ | refine al_fork3 ?_ ?_ ?_
      | refine aw_draws (id := 4) (trO [0, 1, 2, 3, 4, 5, 6] .nil) [6] [] mixed_ok (by kernel_rfl) ?_
      | refine aw_draws (id := 5) (trO [0, 1, 2, 3, 4, 5, 6] .nil) [6] [] mixed_ok (by kernel_rfl) ?_
      | refine aw_draws (id := 7) (trO [0, 1, 2, 3, 4, 5, 6, 7, 8] .nil) [7] [] mixed_ok (by kernel_rfl) ?_
      | refine aw_draws (id := 11) (trO [0, 1, 2, 3, 4, 5, 6] .nil) [6] [6] mixed_ok (by kernel_rfl) ?_)
    all_goals exact ⟨_, _, rfl, by omega, j + 1, rfl, rfl, by omega, rfl⟩
  · have hji : j = i := by omega
    subst hji
    repeat' (first
      | refine s_op rfl ?_ | (apply s_move; (iterate 4 (exact rfl))) | (apply s_fa_p tab_ok; (iterate 5 (exact rfl))) | (apply s_fa_f tab_ok; (iterate 6 (exact rfl))) | (apply s_ld_p tab_ok; (iterate 7 (exact rfl)))
      | (apply s_ld_f tab_ok; (iterate 6 (exact rfl))) | (apply s_ld_w tab_ok; (iterate 5 (exact rfl)); (first | exact patD_len _)) | (apply s_assign; (iterate 4 (exact rfl))) | (apply s_len tab_ok; (iterate 5 (exact rfl))) | (apply s_lens str_ok; (iterate 4 (exact rfl)))
      | (apply s_idx tab_ok; (iterate 7 (exact rfl)); (first | exact patR_get (by assumption) | exact row_map (by assumption) | assumption)) | (apply s_nilc; (iterate 5 (exact rfl))) | (apply s_boxZ; (iterate 5 (exact rfl)); first | exact rfl | exact allD_mapd _) | (apply s_eql_t; (iterate 5 (exact rfl)); omega) | (apply s_eql_f; (iterate 5 (exact rfl)); omega)
      | (apply s_lss_t; (iterate 5 (exact rfl)); omega) | (apply s_lss_f; (iterate 5 (exact rfl)); omega) | (apply s_add64; (iterate 5 (exact rfl)); omega)
      | (apply s_ldF tab_ok; (iterate 5 (exact rfl)); exact hF; exact rfl)
      | (apply s_idxO j tab_ok; (iterate 7 (exact rfl)); exact hC; (refine ⟨?_, ?_⟩ <;> omega))
      | (apply s_stA j 0 tab_ok (rows' := (cm.set j true).map boolRow); (iterate 8 (exact rfl)); exact hC; exact row_map hb; (exact Nat.mul_one _); exact Nat.le_refl _; exact come_set _ _ b; intro σ' hc)
      | (apply s_call; (iterate 6 (exact rfl)); first | (exact hnot; rintro _ rfl) | (exact hwi; rintro _ rfl))
      | refine al_nil ?_ | refine q_then_n ?_ | refine q_blk_n ?_ | refine q_blk_r ?_ | refine q_blk_e ?_
      | refine q_blk_o rfl ?_ | refine q_then_e ?_ | refine aw_block ?_ | refine aw_exit ?_ | refine q_then_r ?_
      | refine aw_seq ?_ | refine aw_reg ?_ | refine aw_true rfl ?_ | refine aw_false rfl ?_ | refine aw_skip ?_
      | refine aw_ret ?_ | refine al_fork ?_ ?_ | refine al_fork3 ?_ ?_ ?_
      | refine aw_draws (id := 4) (trO [0, 1, 2, 3, 4, 5, 6] .nil) [6] [] mixed_ok (by kernel_rfl) ?_
      | refine aw_draws (id := 5) (trO [0, 1, 2, 3, 4, 5, 6] .nil) [6] [] mixed_ok (by kernel_rfl) ?_
      | refine aw_draws (id := 7) (trO [0, 1, 2, 3, 4, 5, 6, 7, 8] .nil) [7] [] mixed_ok (by kernel_rfl) ?_
      | refine aw_draws (id := 11) (trO [0, 1, 2, 3, 4, 5, 6] .nil) [6] [6] mixed_ok (by kernel_rfl) ?_)
    all_goals exact q_ret rfl ⟨rfl, by
      have e : foundC ⟨m, cm.set j true⟩ locC ver = foundC ⟨m, cm⟩ locC ver := by unfold foundC; simp
      rw [e]; exact hc.keep hne.symm hF0, hc.at', fun k o e h1 h2 => hc.keep h2 e⟩
set_option maxRecDepth 100000 in
set_option maxHeartbeats 8000000 in
theorem look_parts (hlen : r.l.length ≤ 1000000000) {i : Nat} {p : Pat} (hp : r.l[i]? = some p) (hap : ∀ j q, j < i → r.l[j]? = some q → RunsP Try.prog 35 [.agg (patD S), .agg (patD q)] (fun v => v = .v (.bool true)))
    (hnot : RunsP Try.prog 35 [.agg (patD S), .agg (patD p)] (fun v => v = .v (.bool false))) (hwi : RunsP Try.prog 116 [.agg (patD S), .agg (patD p)] (fun v => v = .v (.bool false))) {parts : List Pat} (hpl : parts.length ≤ 1000000000)
    (hsp : RunsP Try.prog 117 [.agg (roomD r), .agg (patD S), .agg (patD p)] (fun v => v = patsD parts)) (F : Pat → FoundT → FoundT) (hFl : ∀ x f, (F x f).come.length = f.come.length)
    (hrec : ∀ x ∈ parts, ∀ (f : FoundT) (σ : List AObj), f.come.length = r.l.length → σ[locF]? = some (.row 119 (foundC f locC ver)) → σ[locC]? = some (.arr 4 1 ver (f.come.map boolRow)) → Runs Try.prog 97 [.d (.agg (roomD r)), .d (.agg (patD x)), .ptr locF 0 0] σ (LookQ σ locF locC ver (F x f)))
    (hcl : f.come.length = r.l.length)
    (hF : σ[locF]? = some (.row 119 (foundC f locC ver))) (hC : σ[locC]? = some (.arr 4 1 ver (f.come.map boolRow))) :
    Runs Try.prog 97 [.d (.agg (roomD r)), .d (.agg (patD S)), .ptr locF 0 0] σ (LookQ σ locF locC ver (parts.foldl (fun f x => F x f) f)) := by
  obtain ⟨g, L, N, T⟩ := r
  simp only at hlen hap hp hcl hrec
  have hrec : ∀ x ∈ parts, ∀ (f : FoundT) (σ : List AObj), f.come.length = L.length → σ[locF]? = some (.row 119 (foundC f locC ver)) → σ[locC]? = some (.arr 4 1 ver (f.come.map boolRow)) → Runs Try.prog 97 [.d (.agg (roomL g L N T)), .d (.agg (patD x)), .ptr locF 0 0] σ (LookQ σ locF locC ver (F x f)) := hrec
  have hsp : RunsP Try.prog 117 [.agg (roomL g L N T), .agg (patD S), .agg (patD p)] (fun v => v = patsD parts) := hsp
  have e1 := patR_len L
  have e2 := patR_len parts
  have hil := (List.getElem?_eq_some_iff.1 hp).1
  obtain ⟨sk, sn, si, ss, sa, sb, sc, sl⟩ := S
  obtain ⟨pk, pn, pi, ps, pa, pb, pc, pl⟩ := p
  show Runs Try.prog 97 [.d (.agg (roomL g L N T)), .d (.agg (patD (.mk sk sn si ss sa sb sc sl))), .ptr locF 0 0] σ _
  refine enter 67 Try.func97 rfl (by kernel_rfl) rfl rfl rfl ?_
  repeat' (first
      | refine s_op rfl ?_ | (apply s_move; (iterate 4 (exact rfl))) | (apply s_fa_p tab_ok; (iterate 5 (exact rfl))) | (apply s_fa_f tab_ok; (iterate 6 (exact rfl))) | (apply s_ld_p tab_ok; (iterate 7 (exact rfl)))
      | (apply s_ld_f tab_ok; (iterate 6 (exact rfl))) | (apply s_ld_w tab_ok; (iterate 5 (exact rfl)); (first | exact patD_len _)) | (apply s_assign; (iterate 4 (exact rfl))) | (apply s_len tab_ok; (iterate 5 (exact rfl))) | (apply s_lens str_ok; (iterate 4 (exact rfl)))
      | (apply s_idx tab_ok; (iterate 7 (exact rfl)); (first | exact patR_get (by assumption) | exact row_map (by assumption) | assumption)) | (apply s_nilc; (iterate 5 (exact rfl))) | (apply s_boxZ; (iterate 5 (exact rfl)); first | exact rfl | exact allD_mapd _) | (apply s_store tab_ok; (iterate 10 (exact rfl))) | (apply s_eql_t; (iterate 5 (exact rfl)); omega)
      | (apply s_eql_f; (iterate 5 (exact rfl)); omega) | (apply s_lss_t; (iterate 5 (exact rfl)); omega) | (apply s_lss_f; (iterate 5 (exact rfl)); omega) | (apply s_add64; (iterate 5 (exact rfl)); omega)
      | refine al_nil ?_ | refine q_then_n ?_ | refine q_blk_n ?_ | refine q_blk_r ?_ | refine q_blk_e ?_
      | refine q_blk_o rfl ?_ | refine q_then_e ?_ | refine aw_block ?_ | refine aw_exit ?_ | refine q_then_r ?_
      | refine aw_seq ?_ | refine aw_reg ?_ | refine aw_true rfl ?_ | refine aw_false rfl ?_ | refine aw_skip ?_
      | refine aw_ret ?_ | refine al_fork ?_ ?_ | refine al_fork3 ?_ ?_ ?_
      | refine aw_draws (id := 4) (trO [0, 1, 2, 3, 4, 5, 6] .nil) [6] [] mixed_ok (by kernel_rfl) ?_
      | refine aw_draws (id := 5) (trO [0, 1, 2, 3, 4, 5, 6] .nil) [6] [] mixed_ok (by kernel_rfl) ?_
      | refine aw_draws (id := 7) (trO [0, 1, 2, 3, 4, 5, 6, 7, 8] .nil) [7] [] mixed_ok (by kernel_rfl) ?_
      | refine aw_draws (id := 11) (trO [0, 1, 2, 3, 4, 5, 6] .nil) [6] [6] mixed_ok (by kernel_rfl) ?_)
  refine w_loop [2, 3, 4, 6] (fun n vs σ' => ∃ j : Nat, vs = [.ptr locF 0 0, .d (.fptr (roomL g L N T)), .d (.fptr (patD (.mk sk sn si ss sa sb sc sl))), .d (.v (.int .i64 (j : Int)))] ∧ σ' = σ ∧ j ≤ i ∧ n = i - j) rfl ⟨0, rfl, rfl, by omega, rfl⟩ ?_
  rintro n vs σ' ⟨j, rfl, rfl, hj, rfl⟩ fr hfr
  cases hfr
  by_cases hlt : j < i
  · obtain ⟨⟨qk, qn, qi, qs, qa, qb, qc, ql⟩, hq⟩ := getS (l := L) (k := j) (by omega)
    have ha := hap j _ hlt hq
    repeat' (first
      | refine s_op rfl ?_ | (apply s_move; (iterate 4 (exact rfl))) | (apply s_fa_p tab_ok; (iterate 5 (exact rfl))) | (apply s_fa_f tab_ok; (iterate 6 (exact rfl))) | (apply s_ld_p tab_ok; (iterate 7 (exact rfl)))
      | (apply s_ld_f tab_ok; (iterate 6 (exact rfl))) | (apply s_ld_w tab_ok; (iterate 5 (exact rfl)); (first | exact patD_len _)) | (apply s_assign; (iterate 4 (exact rfl))) | (apply s_len tab_ok; (iterate 5 (exact rfl))) | (apply s_lens str_ok; (iterate 4 (exact rfl)))
      | (apply s_idx tab_ok; (iterate 7 (exact rfl)); (first | exact patR_get (by assumption) | exact row_map (by assumption) | assumption)) | (apply s_nilc; (iterate 5 (exact rfl))) | (apply s_boxZ; (iterate 5 (exact rfl)); first | exact rfl | exact allD_mapd _) | (apply s_store tab_ok; (iterate 10 (exact rfl))) | (apply s_eql_t; (iterate 5 (exact rfl)); omega)
      | (apply s_eql_f; (iterate 5 (exact rfl)); omega) | (apply s_lss_t; (iterate 5 (exact rfl)); omega) | (apply s_lss_f; (iterate 5 (exact rfl)); omega) | (apply s_add64; (iterate 5 (exact rfl)); omega)
      | (apply s_call; (iterate 6 (exact rfl)); first | (exact ha; rintro _ rfl))
      | refine al_nil ?_ | refine q_then_n ?_ | refine q_blk_n ?_ | refine q_blk_r ?_ | refine q_blk_e ?_
      | refine q_blk_o rfl ?_ | refine q_then_e ?_ | refine aw_block ?_ | refine aw_exit ?_ | refine q_then_r ?_
      | refine aw_seq ?_ | refine aw_reg ?_ | refine aw_true rfl ?_ | refine aw_false rfl ?_ | refine aw_skip ?_
      | refine aw_ret ?_ | refine al_fork ?_ ?_ | refine al_fork3 ?_ ?_ ?_
      | refine aw_draws (id := 4) (trO [0, 1, 2, 3, 4, 5, 6] .nil) [6] [] mixed_ok (by kernel_rfl) ?_
      | refine aw_draws (id := 5) (trO [0, 1, 2, 3, 4, 5, 6] .nil) [6] [] mixed_ok (by kernel_rfl) ?_
      | refine aw_draws (id := 7) (trO [0, 1, 2, 3, 4, 5, 6, 7, 8] .nil) [7] [] mixed_ok (by kernel_rfl) ?_
      | refine aw_draws (id := 11) (trO [0, 1, 2, 3, 4, 5, 6] .nil) [6] [6] mixed_ok (by kernel_rfl) ?_)
    all_goals exact ⟨_, _, rfl, by omega, j + 1, rfl, rfl, by omega, rfl⟩
  · have hji : j = i := by omega
    subst hji
    repeat' (first
      | refine s_op rfl ?_ | (apply s_move; (iterate 4 (exact rfl))) | (apply s_fa_p tab_ok; (iterate 5 (exact rfl))) | (apply s_fa_f tab_ok; (iterate 6 (exact rfl))) | (apply s_ld_p tab_ok; (iterate 7 (exact rfl)))
      | (apply s_ld_f tab_ok; (iterate 6 (exact rfl))) | (apply s_ld_w tab_ok; (iterate 5 (exact rfl)); (first | exact patD_len _)) | (apply s_assign; (iterate 4 (exact rfl))) | (apply s_len tab_ok; (iterate 5 (exact rfl))) | (apply s_lens str_ok; (iterate 4 (exact rfl)))
      | (apply s_idx tab_ok; (iterate 7 (exact rfl)); (first | exact patR_get (by assumption) | exact row_map (by assumption) | assumption)) | (apply s_nilc; (iterate 5 (exact rfl))) | (apply s_boxZ; (iterate 5 (exact rfl)); first | exact rfl | exact allD_mapd _) | (apply s_store tab_ok; (iterate 10 (exact rfl))) | (apply s_eql_t; (iterate 5 (exact rfl)); omega)
      | (apply s_eql_f; (iterate 5 (exact rfl)); omega) | (apply s_lss_t; (iterate 5 (exact rfl)); omega) | (apply s_lss_f; (iterate 5 (exact rfl)); omega) | (apply s_add64; (iterate 5 (exact rfl)); omega)
      | (apply s_call; (iterate 6 (exact rfl)); first | (exact hnot; rintro _ rfl) | (exact hwi; rintro _ rfl) | (exact hsp; rintro _ rfl))
      | refine al_nil ?_ | refine q_then_n ?_ | refine q_blk_n ?_ | refine q_blk_r ?_ | refine q_blk_e ?_
      | refine q_blk_o rfl ?_ | refine q_then_e ?_ | refine aw_block ?_ | refine aw_exit ?_ | refine q_then_r ?_
      | refine aw_seq ?_ | refine aw_reg ?_ | refine aw_true rfl ?_ | refine aw_false rfl ?_ | refine aw_skip ?_
      | refine aw_ret ?_ | refine al_fork ?_ ?_ | refine al_fork3 ?_ ?_ ?_
      | refine aw_draws (id := 4) (trO [0, 1, 2, 3, 4, 5, 6] .nil) [6] [] mixed_ok (by kernel_rfl) ?_
      | refine aw_draws (id := 5) (trO [0, 1, 2, 3, 4, 5, 6] .nil) [6] [] mixed_ok (by kernel_rfl) ?_
      | refine aw_draws (id := 7) (trO [0, 1, 2, 3, 4, 5, 6, 7, 8] .nil) [7] [] mixed_ok (by kernel_rfl) ?_
      | refine aw_draws (id := 11) (trO [0, 1, 2, 3, 4, 5, 6] .nil) [6] [6] mixed_ok (by kernel_rfl) ?_)
    all_goals
      refine w_loop [2, 3, 7, 8] (fun n vs σ'' => ∃ k : Nat, vs = [.ptr locF 0 0, .d (.fptr (roomL g L N T)), .d (patsD parts), .d (.v (.int .i64 (k : Int)))] ∧ σ''[locF]? = some (.row 119 (foundC ((parts.take k).foldl (fun f x => F x f) f) locC ver)) ∧ σ''[locC]? = some (.arr 4 1 ver (((parts.take k).foldl (fun f x => F x f) f).come.map boolRow)) ∧ ((parts.take k).foldl (fun f x => F x f) f).come.length = L.length ∧ (∀ k o, σ'[k]? = some o → k ≠ locF → k ≠ locC → σ''[k]? = some o) ∧ k ≤ parts.length ∧ n = parts.length - k) rfl ⟨0, rfl, hF, hC, hcl, fun k o e _ _ => e, by omega, rfl⟩ ?_
      clear hF hC
      rintro n vs σ'' ⟨k, rfl, hF, hC, hcl, hK, hk, rfl⟩ fr hfr
      cases hfr
      by_cases hkl : k < parts.length
      · obtain ⟨⟨zk, zn, zi, zs, za, zb, zc, zl⟩, hz⟩ := getS hkl
        have hn := foldl_next (fun f x => F x f) f hz
        have hcall := hrec _ (List.mem_of_getElem? hz) _ _ hcl hF hC
        rw [← hn] at hcall
        have hl2 := hFl (.mk zk zn zi zs za zb zc zl) ((parts.take k).foldl (fun f x => F x f) f)
        rw [← hn, hcl] at hl2
        repeat' (first
      | refine s_op rfl ?_ | (apply s_move; (iterate 4 (exact rfl))) | (apply s_fa_p tab_ok; (iterate 5 (exact rfl))) | (apply s_fa_f tab_ok; (iterate 6 (exact rfl))) | (apply s_ld_p tab_ok; (iterate 7 (exact rfl)))
      | (apply s_ld_f tab_ok; (iterate 6 (exact rfl))) | (apply s_ld_w tab_ok; (iterate 5 (exact rfl)); (first | exact patD_len _)) | (apply s_assign; (iterate 4 (exact rfl))) | (apply s_len tab_ok; (iterate 5 (exact rfl))) | (apply s_lens str_ok; (iterate 4 (exact rfl)))
      | (apply s_idx tab_ok; (iterate 7 (exact rfl)); (first | exact patR_get (by assumption) | exact row_map (by assumption) | assumption)) | (apply s_nilc; (iterate 5 (exact rfl))) | (apply s_boxZ; (iterate 5 (exact rfl)); first | exact rfl | exact allD_mapd _) | (apply s_store tab_ok; (iterate 10 (exact rfl))) | (apply s_eql_t; (iterate 5 (exact rfl)); omega)
      | (apply s_eql_f; (iterate 5 (exact rfl)); omega) | (apply s_lss_t; (iterate 5 (exact rfl)); omega) | (apply s_lss_f; (iterate 5 (exact rfl)); omega) | (apply s_add64; (iterate 5 (exact rfl)); omega)
      | (apply s_callS; (iterate 6 (exact rfl)); exact hcall; rintro _ σ3 ⟨rfl, hF3, hC3, hK3⟩)
      | refine al_nil ?_ | refine q_then_n ?_ | refine q_blk_n ?_ | refine q_blk_r ?_ | refine q_blk_e ?_
      | refine q_blk_o rfl ?_ | refine q_then_e ?_ | refine aw_block ?_ | refine aw_exit ?_ | refine q_then_r ?_
      | refine aw_seq ?_ | refine aw_reg ?_ | refine aw_true rfl ?_ | refine aw_false rfl ?_ | refine aw_skip ?_
      | refine aw_ret ?_ | refine al_fork ?_ ?_ | refine al_fork3 ?_ ?_ ?_
      | refine aw_draws (id := 4) (trO [0, 1, 2, 3, 4, 5, 6] .nil) [6] [] mixed_ok (by kernel_rfl) ?_
      | refine aw_draws (id := 5) (trO [0, 1, 2, 3, 4, 5, 6] .nil) [6] [] mixed_ok (by kernel_rfl) ?_
      | refine aw_draws (id := 7) (trO [0, 1, 2, 3, 4, 5, 6, 7, 8] .nil) [7] [] mixed_ok (by kernel_rfl) ?_
      | refine aw_draws (id := 11) (trO [0, 1, 2, 3, 4, 5, 6] .nil) [6] [6] mixed_ok (by kernel_rfl) ?_)
        all_goals exact ⟨_, _, rfl, by omega, k + 1, rfl, hF3, hC3, hl2, fun q o e h1 h2 => hK3 q o (hK q o e h1 h2) h1 h2, by omega, rfl⟩
      · rw [List.take_of_length_le (by omega)] at hF hC
        repeat' (first
      | refine s_op rfl ?_ | (apply s_move; (iterate 4 (exact rfl))) | (apply s_fa_p tab_ok; (iterate 5 (exact rfl))) | (apply s_fa_f tab_ok; (iterate 6 (exact rfl))) | (apply s_ld_p tab_ok; (iterate 7 (exact rfl)))
      | (apply s_ld_f tab_ok; (iterate 6 (exact rfl))) | (apply s_ld_w tab_ok; (iterate 5 (exact rfl)); (first | exact patD_len _)) | (apply s_assign; (iterate 4 (exact rfl))) | (apply s_len tab_ok; (iterate 5 (exact rfl))) | (apply s_lens str_ok; (iterate 4 (exact rfl)))
      | (apply s_idx tab_ok; (iterate 7 (exact rfl)); (first | exact patR_get (by assumption) | exact row_map (by assumption) | assumption)) | (apply s_nilc; (iterate 5 (exact rfl))) | (apply s_boxZ; (iterate 5 (exact rfl)); first | exact rfl | exact allD_mapd _) | (apply s_store tab_ok; (iterate 10 (exact rfl))) | (apply s_eql_t; (iterate 5 (exact rfl)); omega)
      | (apply s_eql_f; (iterate 5 (exact rfl)); omega) | (apply s_lss_t; (iterate 5 (exact rfl)); omega) | (apply s_lss_f; (iterate 5 (exact rfl)); omega) | (apply s_add64; (iterate 5 (exact rfl)); omega)
      | refine al_nil ?_ | refine q_then_n ?_ | refine q_blk_n ?_ | refine q_blk_r ?_ | refine q_blk_e ?_
      | refine q_blk_o rfl ?_ | refine q_then_e ?_ | refine aw_block ?_ | refine aw_exit ?_ | refine q_then_r ?_
      | refine aw_seq ?_ | refine aw_reg ?_ | refine aw_true rfl ?_ | refine aw_false rfl ?_ | refine aw_skip ?_
      | refine aw_ret ?_ | refine al_fork ?_ ?_ | refine al_fork3 ?_ ?_ ?_
      | refine aw_draws (id := 4) (trO [0, 1, 2, 3, 4, 5, 6] .nil) [6] [] mixed_ok (by kernel_rfl) ?_
      | refine aw_draws (id := 5) (trO [0, 1, 2, 3, 4, 5, 6] .nil) [6] [] mixed_ok (by kernel_rfl) ?_
      | refine aw_draws (id := 7) (trO [0, 1, 2, 3, 4, 5, 6, 7, 8] .nil) [7] [] mixed_ok (by kernel_rfl) ?_
      | refine aw_draws (id := 11) (trO [0, 1, 2, 3, 4, 5, 6] .nil) [6] [6] mixed_ok (by kernel_rfl) ?_)
        all_goals exact q_ret rfl ⟨rfl, hF, hC, hK⟩
end

theorem look_c {g : Sg} {r : RoomT} (hr : RoomOk g r) (hs : RoomSm r) (hlen : r.l.length ≤ 1000000000) (hsm : ∀ q ∈ r.l, q.small 1000000000) (hq : ∀ q ∈ r.l, litP (inI r) (inT r) q) : ∀ (n : Nat) (S : Pat) (f : FoundT) (σ : List AObj) (locF locC ver : Nat), All2 g (S :: r.l) → litP (inI r) (inT r) S → S.small 1000000000 → (r.l.map (unrP S)).sum < n → f.come.length = r.l.length →
    σ[locF]? = some (.row 119 (foundC f locC ver)) → σ[locC]? = some (.arr 4 1 ver (f.come.map boolRow)) → Runs Try.prog 97 [.d (.agg (roomD r)), .d (.agg (patD S)), .ptr locF 0 0] σ (LookQ σ locF locC ver (lookF r n S f))
  | 0, S, f, σ, locF, locC, ver, ha, hl, hS, hn, hf, hF, hC => absurd hn (Nat.not_lt_zero _)
  | n + 1, S, f, σ, locF, locC, ver, ha, hl, hS, hn, hf, hF, hC => by
    have hSw := ha.wf S (List.mem_cons_self ..)
    have hA : ∀ q ∈ r.l, ∀ b, apartB S q = b → RunsP Try.prog 35 [.agg (patD S), .agg (patD q)] (fun v => v = .v (.bool b)) := fun q h b e => e ▸ rapart_c 1000000000 (by decide) S hS q (hsm q h)
    simp only [lookF]
    cases hi : firstA S r.l with
    | none =>
      have hall : ∀ q ∈ r.l, apartB S q = true := fun q hq => by
        have := List.findIdx?_eq_none_iff.1 hi q hq
        simpa using this
      exact look_none hlen (fun q h => hA q h _ (hall q h)) (kind_pos hSw) hF hC
    | some i =>
      obtain ⟨hlt, hia, hib⟩ := List.findIdx?_eq_some_iff_getElem.1 hi
      obtain ⟨p, hp⟩ := getS hlt
      have hpe : r.l[i] = p := (List.getElem?_eq_some_iff.1 hp).2
      rw [hpe] at hia
      have hpm := List.mem_of_getElem? hp
      have hap : apartB S p = false := by simpa using hia
      have hbef : ∀ (j : Nat) (q : Pat), j < i → r.l[j]? = some q → apartB S q = true := fun j q hj hq => by
        have h1 := hib j hj
        have h2 := (List.getElem?_eq_some_iff.1 hq).2
        rw [h2] at h1
        simpa using h1
      have hw := within_c 1000000000 (by decide) S hS p (hsm p hpm)
      simp only [hp]
      cases hwb : withinB S p with
      | true =>
        rw [if_pos rfl]
        rw [hwb] at hw
        exact look_within hlen hp (fun j q hj e => hA q (List.mem_of_getElem? e) _ (hbef j q hj e)) (hA p hpm _ hap) hw hf hF hC
      | false =>
        rw [if_neg (by decide)]
        rw [hwb] at hw
        have hpw := ha.wf p (List.mem_cons_of_mem _ hpm)
        have hsp := split_c hs S p (hr.sig ▸ hSw) (hr.sig ▸ hpw) hS (hsm p hpm) hap hwb
        obtain ⟨h1, h2⟩ := split_ok hr S r.l p ha hl hpm hap hwb
        obtain ⟨z1, z2⟩ := split_size hs S p
        refine look_parts hlen hp (fun j q hj e => hA q (List.mem_of_getElem? e) _ (hbef j q hj e)) (hA p hpm _ hap) hw z1 hsp (fun x f => lookF r n x f) (fun x f => look_len r n x f) (fun x hx f' σ' hf' hF' hC' => ?_) hf hF hC
        have P := h1 x hx
        exact look_c hr hs hlen hsm hq n x f' σ' locF locC ver P.all P.lit (z2 hS x hx) (by have := sum_lt (f := unrP x) (g := unrP S) r.l P.le ⟨p, hpm, P.lt⟩; omega) hf' hF' hC'
end Go.Proofs.Ytjflembhgjcgkaa
