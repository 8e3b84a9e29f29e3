/- C68: the law's walk: CoverCovers. -/
import Derived.Test.YtjflembhgjcgkaaXC31C66
import Derived.Test.YtjflembhgjcgkaaC29
import Derived.Test.YtjflembhgjcgkaaXC32C47
import Derived.Test.YtjflembhgjcgkaaM25
set_option linter.unusedSimpArgs false
set_option linter.unusedVariables false
-- ALLUNDEF -- BOXZ
-- LEN: patD_len
-- ROW: patR_get row_map
-- DEF GRT: (apply s_call; (iterate 6 (exact rfl)); exact hgr; rintro _ ⟨b, rfl, hb⟩; cases b)
-- DEF LI14: (apply s_litO tab_ok tabZ_ok (d := 14) (m := 0); (iterate 12 (exact rfl)); intro locA σ hc; have hA := hc.at'; clear hc)
-- DEF AP16: (apply s_appW tab_ok tabZ_ok (d := 16) (rows2 := patR l) (rows3 := patR l) (m := (patR l).length); (iterate 11 (exact rfl)); exact hA; exact src_of (Tab.slIs tab_ok (t := 26) rfl) (rows_d rfl); exact rfl; (refine ⟨rfl, ?_, ?_⟩ <;> omega); intro σ hc; replace hA := hc.at'; clear hc)
-- DEF L18: (apply s_lit tab_ok tabZ_ok (d := 18); (iterate 10 (exact rfl)))
-- DEF AP19: (apply s_appW tab_ok tabZ_ok (d := 19) (rows2 := [patD (.mk pk pn pi ps pa pb pc pl)]) (rows3 := patR (l ++ [.mk pk pn pi ps pa pb pc pl])) (m := (patR l).length + 1); (iterate 11 (exact rfl)); exact hA; exact src_of (Tab.slIs tab_ok (t := 26) rfl) (rows_d rfl); (rw [patR_append]; rfl); (refine ⟨rfl, ?_, rfl⟩; simp only [List.length_cons, List.length_nil]; omega); intro σ hc; replace hA := hc.at'; clear hc)
-- DEF FRZ: (refine o_freezeF 19 rfl hA (by rw [patR_append]; simp [patR]) ?_; intro σ hc; clear hc hA)
namespace Go.Proofs.Ytjflembhgjcgkaa
open Go.RowKit

section
variable {P : Program} {T : Tab} {Z : TabZ} {nt : Nat} {ops : Array Oper} {dr : Bool} {dos ends : List Nat} {i d ty : Nat} {pos : String} {aft : Array Edge} {gd : Option (Nat × Bool)} {l : Trr} {Q : Exit → Fr → List AObj → Prop} {fr : Fr} {σ : List AObj}
/-- append, as much as there may be. -/
theorem s_appW (hT : okTab P T = true) (hZ : okTabZ P Z = true) {t tx sz bytes loc ver : Nat} {agg : Bool} {a b : Operand} {U : TypeId} {rows rows2 rows3 : List (List DV)} {n m : Nat} {z : List Value} (hp : (dr && !dos.contains i) = false) (hg : guardB ops fr gd = some true) (hk : (dr && !ends.contains i && !false) = false) (ht : Nat.blt d nt = true) (ha : aget fr a = .own loc ver sz 0 n) (hs : find1 T.sl t = some U) (he : find1 T.ty U = some (sz, bytes, agg)) (hz : find1 Z.zs U = some z) (hzl : Nat.beq z.length sz = true) (h1 : Nat.ble 1 bytes = true) (h2 : Nat.ble bytes 256 = true) (hl : σ[loc]? = some (.arr U sz ver rows)) (hb : SrcOk P fr σ U tx sz b rows2) (h3 : rows ++ rows2 = rows3) (hn : n = rows.length ∧ (n + rows2.length) * bytes ≤ 140737488355328 ∧ n + rows2.length = m) (h : ∀ σ', Chg σ loc (.arr U sz (ver + 1) rows3) σ' → AL P nt ops dr dos ends l Q ((d, .own loc (ver + 1) sz 0 m) :: fr) σ') : ALo P nt ops dr dos ends i ⟨some d, .call { callee := .builtin .append, args := #[a, b], argTypes := #[t, tx] }, ty, pos, aft, gd⟩ l Q fr σ := by
  obtain ⟨hn1, hn2, hn4⟩ := hn
  subst h3 hn4 hn1
  refine ⟨fun ho => s_do (keep := false) ho hp hg hk ?_⟩
  have hb1 := Nat.le_of_ble_eq_true h1
  have hle : rows.length + rows2.length ≤ (rows.length + rows2.length) * bytes := Nat.le_mul_of_pos_right _ hb1
  exact do_appendX hT rfl ht hs he (TabZ.z hZ hz) hzl ha hl rfl hb (by unfold maxLen; omega) hn2 (h _ (chg_set hl))
end
set_option maxRecDepth 100000 in
set_option maxHeartbeats 8000000 in
theorem cv_walk {g : Sg} {l : List Pat} {p : Pat} (hkn : RunsP Try.prog 21 [] (fun v => v = .v (.bool true))) (hll : l.length ≤ 1599289640354) {K : Prop} (hgr : RunsP Try.prog 13 [.agg (sigD g), patsD (l ++ [p])] (fun v => ∃ b : Bool, v = .v (.bool b) ∧ (b = false → K)))
    (hK : K → ∃ (b : Bool) (e : Int), RunsP Try.prog 28 [.agg (sigD g), patsD l, .agg (patD p)] (fun v => v = .tup [.v (.bool b), .v (.int .i64 e)]) ∧ RunsP Try.prog 29 [.agg (sigD g), patsD l, .agg (patD p)] (fun v => v = .tup [.v (.bool b), .v (.int .i64 e)])) :
    RunsP Try.prog 6 [.agg (sigD g), patsD l, .agg (patD p)] (fun v => v = .v (.bool true)) := by
  have e1 := patR_len l
  obtain ⟨pk, pn, pi, ps, pa, pb, pc, pl⟩ := p
  refine enterPB 43 tab_ok Try.func6 rfl (by kernel_rfl) rfl rfl rfl ?_
  repeat' (first
      | refine s_op rfl ?_ | (apply s_skipV; (iterate 2 (exact rfl))) | (apply s_skipU; (iterate 3 (exact rfl))) | (apply s_move; (iterate 4 (exact rfl))) | (apply s_ld_p tab_ok; (iterate 7 (exact rfl)))
      | (apply s_ld_f tab_ok; (iterate 6 (exact rfl))) | (apply s_ld_w tab_ok; (iterate 5 (exact rfl)); (first | exact patD_len _)) | (apply s_assign; (iterate 4 (exact rfl))) | (apply s_pick_t; (iterate 5 (exact rfl))) | (apply s_pick_f; (iterate 5 (exact rfl)))
      | (apply s_ext; (iterate 5 (exact rfl))) | (apply s_boxZ; (iterate 5 (exact rfl)); first | exact rfl | exact allD_mapd _) | (apply s_not_t; (iterate 4 (exact rfl))) | (apply s_not_f; (iterate 4 (exact rfl))) | (apply s_not; (iterate 4 (exact rfl)))
      | (apply s_eql_t; (iterate 5 (exact rfl)); omega) | (apply s_eql_f; (iterate 5 (exact rfl)); omega) | (apply s_booleq bool_ok; (iterate 5 (exact rfl)))
      | (refine w_mid (c := .region 3 _ _) (fun fr _ => ∃ b : Bool, (b = false → K) ∧ getO [1, 3, 5, 6, 20] fr = some [.d (patsD l), .d (.fptr (sigD g)), .d (.fptr (patD (.mk pk pn pi ps pa pb pc pl))), .d (.v (.bool false)), .d (.v (.bool b))]) ?_ ?_)
      | (apply s_litO tab_ok tabZ_ok (d := 14) (m := 0); (iterate 12 (exact rfl)); intro locA σ hc; have hA := hc.at'; clear hc)
      | (apply s_appW tab_ok tabZ_ok (d := 16) (rows2 := patR l) (rows3 := patR l) (m := (patR l).length); (iterate 11 (exact rfl)); exact hA; exact src_of (Tab.slIs tab_ok (t := 26) rfl) (rows_d rfl); exact rfl; (refine ⟨rfl, ?_, ?_⟩ <;> omega); intro σ hc; replace hA := hc.at'; clear hc)
      | (apply s_lit tab_ok tabZ_ok (d := 18); (iterate 10 (exact rfl)))
      | (apply s_appW tab_ok tabZ_ok (d := 19) (rows2 := [patD (.mk pk pn pi ps pa pb pc pl)]) (rows3 := patR (l ++ [.mk pk pn pi ps pa pb pc pl])) (m := (patR l).length + 1); (iterate 11 (exact rfl)); exact hA; exact src_of (Tab.slIs tab_ok (t := 26) rfl) (rows_d rfl); (rw [patR_append]; rfl); (refine ⟨rfl, ?_, rfl⟩; simp only [List.length_cons, List.length_nil]; omega); intro σ hc; replace hA := hc.at'; clear hc)
      | (refine o_freezeF 19 rfl hA (by rw [patR_append]; simp [patR]) ?_; intro σ hc; clear hc hA)
      | (apply s_call; (iterate 6 (exact rfl)); exact hgr; rintro _ ⟨b, rfl, hb⟩)
      | (apply s_call; (iterate 6 (exact rfl)); first | (exact hkn; rintro _ rfl))
      | refine al_nil ?_ | refine q_then_n ?_ | refine q_then_r ?_ | refine aw_seq ?_ | refine aw_reg ?_
      | refine aw_true rfl ?_ | refine aw_false rfl ?_ | refine aw_skip ?_ | refine aw_ret ?_ | refine al_fork ?_ ?_
      | refine al_fork3 ?_ ?_ ?_
      | refine aw_draws (id := 3) (trO [2] (.fork3 0 (.fork 1 (.fork 3 (trO [4, 5, 6, 7] .nil) 4 (.fork 3 (trO [5, 6, 7] .nil) 5 (trO [3, 6, 7] .nil))) 4 (.fork 1 (.fork 3 (trO [5, 6, 7] .nil) 5 (trO [3, 6, 7] .nil)) 5 (trO [1, 3, 6, 7] .nil))) 1 (.fork3 0 (.fork 3 (trO [4, 5, 6, 7] .nil) 4 (.fork 3 (trO [5, 6, 7] .nil) 5 (trO [3, 6, 7] .nil))) 3 (.fork 0 (trO [4, 5, 6, 7] .nil) 4 (.fork 0 (trO [5, 6, 7] .nil) 5 (.fork 0 (trO [6, 7] .nil) 6 (trO [0, 7] .nil)))) 4 (.fork3 0 (.fork 3 (trO [5, 6, 7] .nil) 5 (trO [3, 6, 7] .nil)) 3 (.fork 0 (trO [5, 6, 7] .nil) 5 (.fork 0 (trO [6, 7] .nil) 6 (trO [0, 7] .nil))) 5 (.fork 0 (trO [3, 6, 7] .nil) 3 (.fork 0 (trO [6, 7] .nil) 6 (trO [0, 7] .nil))))) 4 (.fork3 0 (.fork 1 (.fork 3 (trO [5, 6, 7] .nil) 5 (trO [3, 6, 7] .nil)) 5 (trO [1, 3, 6, 7] .nil)) 1 (.fork3 0 (.fork 3 (trO [5, 6, 7] .nil) 5 (trO [3, 6, 7] .nil)) 3 (.fork 0 (trO [5, 6, 7] .nil) 5 (.fork 0 (trO [6, 7] .nil) 6 (trO [0, 7] .nil))) 5 (.fork 0 (trO [3, 6, 7] .nil) 3 (.fork 0 (trO [6, 7] .nil) 6 (trO [0, 7] .nil)))) 5 (.fork 0 (trO [1, 3, 6, 7] .nil) 1 (.fork 0 (trO [3, 6, 7] .nil) 3 (.fork 0 (trO [6, 7] .nil) 6 (trO [0, 7] .nil))))))) [0, 1, 3, 4, 5, 6, 7] [3, 6] mixed_ok (by kernel_rfl) ?_)
  all_goals first | exact ⟨rfl, _, hb, rfl⟩ | skip
  clear hgr hkn
  rintro fr σ ⟨b, hb, hv⟩
  refine w_keep [1, 3, 5, 6, 20] hv rfl ?_
  clear hv
  cases b
  · obtain ⟨b, e, h28, h29⟩ := hK (hb rfl)
    clear hb hK
    cases b
    all_goals
      repeat' (first
      | refine s_op rfl ?_ | (apply s_skipV; (iterate 2 (exact rfl))) | (apply s_skipU; (iterate 3 (exact rfl))) | (apply s_move; (iterate 4 (exact rfl))) | (apply s_ld_p tab_ok; (iterate 7 (exact rfl)))
      | (apply s_ld_f tab_ok; (iterate 6 (exact rfl))) | (apply s_ld_w tab_ok; (iterate 5 (exact rfl)); (first | exact patD_len _)) | (apply s_assign; (iterate 4 (exact rfl))) | (apply s_pick_t; (iterate 5 (exact rfl))) | (apply s_pick_f; (iterate 5 (exact rfl)))
      | (apply s_ext; (iterate 5 (exact rfl))) | (apply s_boxZ; (iterate 5 (exact rfl)); first | exact rfl | exact allD_mapd _) | (apply s_lit tab_ok tabZ_ok; (iterate 10 (exact rfl))) | (apply s_lit1 tab_ok tabZ_ok; (iterate 9 (exact rfl)); (first | exact patD_len _)) | (apply s_app tab_ok tabZ_ok; (iterate 13 (exact rfl)); (first | (simp; done) | (simp; omega)))
      | (apply s_not_t; (iterate 4 (exact rfl))) | (apply s_not_f; (iterate 4 (exact rfl))) | (apply s_not; (iterate 4 (exact rfl))) | (apply s_eql_t; (iterate 5 (exact rfl)); omega) | (apply s_eql_f; (iterate 5 (exact rfl)); omega)
      | (apply s_booleq bool_ok; (iterate 5 (exact rfl)))
      | (apply s_call; (iterate 6 (exact rfl)); first | (exact h28; rintro _ rfl) | (exact h29; rintro _ rfl))
      | refine al_nil ?_ | refine q_then_n ?_ | refine q_then_r ?_ | refine aw_seq ?_ | refine aw_reg ?_
      | refine aw_true rfl ?_ | refine aw_false rfl ?_ | refine aw_skip ?_ | refine aw_ret ?_ | refine al_fork ?_ ?_
      | refine al_fork3 ?_ ?_ ?_
      | refine aw_draws (id := 3) (trO [2] (.fork3 0 (.fork 1 (.fork 3 (trO [4, 5, 6, 7] .nil) 4 (.fork 3 (trO [5, 6, 7] .nil) 5 (trO [3, 6, 7] .nil))) 4 (.fork 1 (.fork 3 (trO [5, 6, 7] .nil) 5 (trO [3, 6, 7] .nil)) 5 (trO [1, 3, 6, 7] .nil))) 1 (.fork3 0 (.fork 3 (trO [4, 5, 6, 7] .nil) 4 (.fork 3 (trO [5, 6, 7] .nil) 5 (trO [3, 6, 7] .nil))) 3 (.fork 0 (trO [4, 5, 6, 7] .nil) 4 (.fork 0 (trO [5, 6, 7] .nil) 5 (.fork 0 (trO [6, 7] .nil) 6 (trO [0, 7] .nil)))) 4 (.fork3 0 (.fork 3 (trO [5, 6, 7] .nil) 5 (trO [3, 6, 7] .nil)) 3 (.fork 0 (trO [5, 6, 7] .nil) 5 (.fork 0 (trO [6, 7] .nil) 6 (trO [0, 7] .nil))) 5 (.fork 0 (trO [3, 6, 7] .nil) 3 (.fork 0 (trO [6, 7] .nil) 6 (trO [0, 7] .nil))))) 4 (.fork3 0 (.fork 1 (.fork 3 (trO [5, 6, 7] .nil) 5 (trO [3, 6, 7] .nil)) 5 (trO [1, 3, 6, 7] .nil)) 1 (.fork3 0 (.fork 3 (trO [5, 6, 7] .nil) 5 (trO [3, 6, 7] .nil)) 3 (.fork 0 (trO [5, 6, 7] .nil) 5 (.fork 0 (trO [6, 7] .nil) 6 (trO [0, 7] .nil))) 5 (.fork 0 (trO [3, 6, 7] .nil) 3 (.fork 0 (trO [6, 7] .nil) 6 (trO [0, 7] .nil)))) 5 (.fork 0 (trO [1, 3, 6, 7] .nil) 1 (.fork 0 (trO [3, 6, 7] .nil) 3 (.fork 0 (trO [6, 7] .nil) 6 (trO [0, 7] .nil))))))) [0, 1, 3, 4, 5, 6, 7] [3, 6] mixed_ok (by kernel_rfl) ?_)
      all_goals exact q_retB (resB_1 rfl (resV_t rfl)) ⟨_, rfl, rfl⟩
  · repeat' (first
      | refine s_op rfl ?_ | (apply s_skipV; (iterate 2 (exact rfl))) | (apply s_skipU; (iterate 3 (exact rfl))) | (apply s_move; (iterate 4 (exact rfl))) | (apply s_ld_p tab_ok; (iterate 7 (exact rfl)))
      | (apply s_ld_f tab_ok; (iterate 6 (exact rfl))) | (apply s_ld_w tab_ok; (iterate 5 (exact rfl)); (first | exact patD_len _)) | (apply s_assign; (iterate 4 (exact rfl))) | (apply s_pick_t; (iterate 5 (exact rfl))) | (apply s_pick_f; (iterate 5 (exact rfl)))
      | (apply s_ext; (iterate 5 (exact rfl))) | (apply s_boxZ; (iterate 5 (exact rfl)); first | exact rfl | exact allD_mapd _) | (apply s_lit tab_ok tabZ_ok; (iterate 10 (exact rfl))) | (apply s_lit1 tab_ok tabZ_ok; (iterate 9 (exact rfl)); (first | exact patD_len _)) | (apply s_app tab_ok tabZ_ok; (iterate 13 (exact rfl)); (first | (simp; done) | (simp; omega)))
      | (apply s_not_t; (iterate 4 (exact rfl))) | (apply s_not_f; (iterate 4 (exact rfl))) | (apply s_not; (iterate 4 (exact rfl))) | (apply s_eql_t; (iterate 5 (exact rfl)); omega) | (apply s_eql_f; (iterate 5 (exact rfl)); omega)
      | (apply s_booleq bool_ok; (iterate 5 (exact rfl)))
      | refine al_nil ?_ | refine q_then_n ?_ | refine q_then_r ?_ | refine aw_seq ?_ | refine aw_reg ?_
      | refine aw_true rfl ?_ | refine aw_false rfl ?_ | refine aw_skip ?_ | refine aw_ret ?_ | refine al_fork ?_ ?_
      | refine al_fork3 ?_ ?_ ?_
      | refine aw_draws (id := 3) (trO [2] (.fork3 0 (.fork 1 (.fork 3 (trO [4, 5, 6, 7] .nil) 4 (.fork 3 (trO [5, 6, 7] .nil) 5 (trO [3, 6, 7] .nil))) 4 (.fork 1 (.fork 3 (trO [5, 6, 7] .nil) 5 (trO [3, 6, 7] .nil)) 5 (trO [1, 3, 6, 7] .nil))) 1 (.fork3 0 (.fork 3 (trO [4, 5, 6, 7] .nil) 4 (.fork 3 (trO [5, 6, 7] .nil) 5 (trO [3, 6, 7] .nil))) 3 (.fork 0 (trO [4, 5, 6, 7] .nil) 4 (.fork 0 (trO [5, 6, 7] .nil) 5 (.fork 0 (trO [6, 7] .nil) 6 (trO [0, 7] .nil)))) 4 (.fork3 0 (.fork 3 (trO [5, 6, 7] .nil) 5 (trO [3, 6, 7] .nil)) 3 (.fork 0 (trO [5, 6, 7] .nil) 5 (.fork 0 (trO [6, 7] .nil) 6 (trO [0, 7] .nil))) 5 (.fork 0 (trO [3, 6, 7] .nil) 3 (.fork 0 (trO [6, 7] .nil) 6 (trO [0, 7] .nil))))) 4 (.fork3 0 (.fork 1 (.fork 3 (trO [5, 6, 7] .nil) 5 (trO [3, 6, 7] .nil)) 5 (trO [1, 3, 6, 7] .nil)) 1 (.fork3 0 (.fork 3 (trO [5, 6, 7] .nil) 5 (trO [3, 6, 7] .nil)) 3 (.fork 0 (trO [5, 6, 7] .nil) 5 (.fork 0 (trO [6, 7] .nil) 6 (trO [0, 7] .nil))) 5 (.fork 0 (trO [3, 6, 7] .nil) 3 (.fork 0 (trO [6, 7] .nil) 6 (trO [0, 7] .nil)))) 5 (.fork 0 (trO [1, 3, 6, 7] .nil) 1 (.fork 0 (trO [3, 6, 7] .nil) 3 (.fork 0 (trO [6, 7] .nil) 6 (trO [0, 7] .nil))))))) [0, 1, 3, 4, 5, 6, 7] [3, 6] mixed_ok (by kernel_rfl) ?_)
    all_goals exact q_retB (resB_1 rfl (resV_t rfl)) ⟨_, rfl, rfl⟩
theorem coverCovers_c (g : Sg) (hg : g.Low) (l : List Pat) (hll : l.length ≤ 1599289640354) (hl : ∀ p ∈ l, p.low) (p : Pat) (hp : p.low) :
    RunsP Try.prog 6 [.agg (sigD g), patsD l, .agg (patD p)] (fun r => r = .v (.bool true)) := by
  have hgr := great_c hg (l := l ++ [p]) (fun q hq => (List.mem_append.1 hq).elim (hl q) fun h => by rw [List.mem_singleton.1 h]; exact hp) (by rw [List.length_append]; simp; omega)
  have hkn := known_c
  refine cv_walk hkn hll hgr fun hm => ?_
  have F : FewP g (l ++ [p]) := ⟨hm.1.small, hm.1.fields, by have := hm.2; omega⟩
  have hac := F.ac
  by_cases hok : mayZ g (l ++ [p]) = 0
  · obtain ⟨hsv, hall⟩ := mayZ_iff.1 hok
    have h28 := covers_c F.sm (m := 1000000) (A := 300) (by omega) (by omega) F.ar F.sl 100000 (by omega) (by omega)
    unfold coversD at h28
    rw [if_pos hok] at h28
    obtain ⟨a1, a2, a3⟩ := agree hsv hall F.ar (f := 100000) (n := 300) (by omega) (by omega)
    have h29 := rcovers_ok F.sm (by omega : 1000000 ≤ 1000000000) F.sl hok a2 (all_c F.sm hsv (by have := F.mass; omega) hall (by omega))
    have := a3 l.length p (by simp)
    rw [List.take_left' rfl] at this
    rw [← this] at h29
    exact ⟨_, _, h28, h29⟩
  · exact ⟨_, _, covers_no F hok, rcovers_bad F.sm (by omega : 1000000 ≤ 1000000000) F.sl hok⟩
end Go.Proofs.Ytjflembhgjcgkaa
