/- XC68C69: C68, C69 in one. -/
import Derived.Test.YtjflembhgjcgkaaXC31C66
import Derived.Test.YtjflembhgjcgkaaC29
import Derived.Test.YtjflembhgjcgkaaXC32C47
import Derived.Test.YtjflembhgjcgkaaM25
set_option linter.unusedSimpArgs false
set_option linter.unusedVariables false
/- C68: the law's walk: CoverCovers. -/
-- ALLUNDEF -- BOXZ
-- LEN: patD_len
-- ROW: patR_get row_map
-- DEF GRT: (apply s_call; (iterate 6 (exact rfl)); exact hgr; rintro _ ⟨b, rfl, hb⟩; cases b)
-- DEF LI14: (apply s_litO tab_ok tabZ_ok (d := 14) (m := 0); (iterate 12 (exact rfl)); intro locA σ hc; have hA := hc.at'; clear hc)
-- DEF AP16: (apply s_appW tab_ok tabZ_ok (d := 16) (rows2 := patR l) (rows3 := patR l) (m := (patR l).length); (iterate 11 (exact rfl)); exact hA; exact src_of (Tab.slIs tab_ok (t := 26) rfl) (rows_d rfl); exact rfl; (refine ⟨rfl, ?_, ?_⟩ <;> omega); intro σ hc; replace hA := hc.at'; clear hc)
-- DEF L18: (apply s_lit tab_ok tabZ_ok (d := 18); (iterate 10 (exact rfl)))
-- DEF AP19: (apply s_appW tab_ok tabZ_ok (d := 19) (rows2 := [patD (.mk pk pn pi ps pa pb pc pl)]) (rows3 := patR (l ++ [.mk pk pn pi ps pa pb pc pl])) (m := (patR l).length + 1); (iterate 11 (exact rfl)); exact hA; exact src_of (Tab.slIs tab_ok (t := 26) rfl) (rows_d rfl); (rw [patR_append]; rfl); (refine ⟨rfl, ?_, rfl⟩; simp only [List.length_cons, List.length_nil]; omega); intro σ hc; replace hA := hc.at'; clear hc)
-- DEF FRZ: (refine o_freezeF 19 rfl hA (by rw [patR_append]; simp [patR]) ?_; intro σ hc; clear hc hA)
namespace Go.Proofs.Ytjflembhgjcgkaa
open Go.RowKit

section
variable {P : Program} {T : Tab} {Z : TabZ} {nt : Nat} {ops : Array Oper} {dr : Bool} {dos ends : List Nat} {i d ty : Nat} {pos : String} {aft : Array Edge} {gd : Option (Nat × Bool)} {l : Trr} {Q : Exit → Fr → List AObj → Prop} {fr : Fr} {σ : List AObj}
/-- append, as much as there may be. -/
theorem s_appW (hT : okTab P T = true) (hZ : okTabZ P Z = true) {t tx sz bytes loc ver : Nat} {agg : Bool} {a b : Operand} {U : TypeId} {rows rows2 rows3 : List (List DV)} {n m : Nat} {z : List Value} (hp : (dr && !dos.contains i) = false) (hg : guardB ops fr gd = some true) (hk : (dr && !ends.contains i && !false) = false) (ht : Nat.blt d nt = true) (ha : aget fr a = .own loc ver sz 0 n) (hs : find1 T.sl t = some U) (he : find1 T.ty U = some (sz, bytes, agg)) (hz : find1 Z.zs U = some z) (hzl : Nat.beq z.length sz = true) (h1 : Nat.ble 1 bytes = true) (h2 : Nat.ble bytes 256 = true) (hl : σ[loc]? = some (.arr U sz ver rows)) (hb : SrcOk P fr σ U tx sz b rows2) (h3 : rows ++ rows2 = rows3) (hn : n = rows.length ∧ (n + rows2.length) * bytes ≤ 140737488355328 ∧ n + rows2.length = m) (h : ∀ σ', Chg σ loc (.arr U sz (ver + 1) rows3) σ' → AL P nt ops dr dos ends l Q ((d, .own loc (ver + 1) sz 0 m) :: fr) σ') : ALo P nt ops dr dos ends i ⟨some d, .call { callee := .builtin .append, args := #[a, b], argTypes := #[t, tx] }, ty, pos, aft, gd⟩ l Q fr σ := by
  obtain ⟨hn1, hn2, hn4⟩ := hn
  subst h3 hn4 hn1
  refine ⟨fun ho => s_do (keep := false) ho hp hg hk ?_⟩
  have hb1 := Nat.le_of_ble_eq_true h1
  have hle : rows.length + rows2.length ≤ (rows.length + rows2.length) * bytes := Nat.le_mul_of_pos_right _ hb1
  exact do_appendX hT rfl ht hs he (TabZ.z hZ hz) hzl ha hl rfl hb (by unfold maxLen; omega) hn2 (h _ (chg_set hl))
end
set_option maxRecDepth 100000 in
set_option maxHeartbeats 8000000 in
theorem cv_walk {g : Sg} {l : List Pat} {p : Pat} (hkn : RunsP Try.prog 21 [] (fun v => v = .v (.bool true))) (hll : l.length ≤ 1599289640354) {K : Prop} (hgr : RunsP Try.prog 13 [.agg (sigD g), patsD (l ++ [p])] (fun v => ∃ b : Bool, v = .v (.bool b) ∧ (b = false → K)))
    (hK : K → ∃ (b : Bool) (e : Int), RunsP Try.prog 28 [.agg (sigD g), patsD l, .agg (patD p)] (fun v => v = .tup [.v (.bool b), .v (.int .i64 e)]) ∧ RunsP Try.prog 29 [.agg (sigD g), patsD l, .agg (patD p)] (fun v => v = .tup [.v (.bool b), .v (.int .i64 e)])) :
    RunsP Try.prog 6 [.agg (sigD g), patsD l, .agg (patD p)] (fun v => v = .v (.bool true)) := by
  have e1 := patR_len l
  obtain ⟨pk, pn, pi, ps, pa, pb, pc, pl⟩ := p
  refine enterPB 43 tab_ok Try.func6 rfl (by kernel_rfl) rfl rfl rfl ?_
  repeat' (first | refine s_op rfl ?_ | (apply s_move; (iterate 4 (exact rfl))) | (apply s_ld_f tab_ok; (iterate 6 (exact rfl))) | (apply s_assign; (iterate 4 (exact rfl))) | (apply s_boxZ; (iterate 5 (exact rfl)); first | exact rfl | exact allD_mapd _) | (apply s_not_t; (iterate 4 (exact rfl))) | (refine w_mid (c := .region 3 _ _) (fun fr _ => ∃ b : Bool, (b = false → K) ∧ getO [1, 3, 5, 6, 20] fr = some [.d (patsD l), .d (.fptr (sigD g)), .d (.fptr (patD (.mk pk pn pi ps pa pb pc pl))), .d (.v (.bool false)), .d (.v (.bool b))]) ?_ ?_) | (apply s_litO tab_ok tabZ_ok (d := 14) (m := 0); (iterate 12 (exact rfl)); intro locA σ hc; have hA := hc.at'; clear hc) | (apply s_appW tab_ok tabZ_ok (d := 16) (rows2 := patR l) (rows3 := patR l) (m := (patR l).length); (iterate 11 (exact rfl)); exact hA; exact src_of (Tab.slIs tab_ok (t := 26) rfl) (rows_d rfl); exact rfl; (refine ⟨rfl, ?_, ?_⟩ <;> omega); intro σ hc; replace hA := hc.at'; clear hc) | (apply s_lit tab_ok tabZ_ok (d := 18); (iterate 10 (exact rfl))) | (apply s_appW tab_ok tabZ_ok (d := 19) (rows2 := [patD (.mk pk pn pi ps pa pb pc pl)]) (rows3 := patR (l ++ [.mk pk pn pi ps pa pb pc pl])) (m := (patR l).length + 1); (iterate 11 (exact rfl)); exact hA; exact src_of (Tab.slIs tab_ok (t := 26) rfl) (rows_d rfl); (rw [patR_append]; rfl); (refine ⟨rfl, ?_, rfl⟩; simp only [List.length_cons, List.length_nil]; omega); intro σ hc; replace hA := hc.at'; clear hc) | (refine o_freezeF 19 rfl hA (by rw [patR_append]; simp [patR]) ?_; intro σ hc; clear hc hA) | (apply s_call; (iterate 6 (exact rfl)); exact hgr; rintro _ ⟨b, rfl, hb⟩) | (apply s_call; (iterate 6 (exact rfl)); first | (exact hkn; rintro _ rfl)) | refine al_nil ?_ | refine q_then_n ?_ | refine aw_seq ?_ | refine aw_reg ?_ | refine aw_false rfl ?_ | refine aw_skip ?_ | refine al_fork ?_ ?_ | refine al_fork3 ?_ ?_ ?_ | refine aw_draws (id := 3) (trO [2] (.fork3 0 (.fork 1 (.fork 3 (trO [4, 5, 6, 7] .nil) 4 (.fork 3 (trO [5, 6, 7] .nil) 5 (trO [3, 6, 7] .nil))) 4 (.fork 1 (.fork 3 (trO [5, 6, 7] .nil) 5 (trO [3, 6, 7] .nil)) 5 (trO [1, 3, 6, 7] .nil))) 1 (.fork3 0 (.fork 3 (trO [4, 5, 6, 7] .nil) 4 (.fork 3 (trO [5, 6, 7] .nil) 5 (trO [3, 6, 7] .nil))) 3 (.fork 0 (trO [4, 5, 6, 7] .nil) 4 (.fork 0 (trO [5, 6, 7] .nil) 5 (.fork 0 (trO [6, 7] .nil) 6 (trO [0, 7] .nil)))) 4 (.fork3 0 (.fork 3 (trO [5, 6, 7] .nil) 5 (trO [3, 6, 7] .nil)) 3 (.fork 0 (trO [5, 6, 7] .nil) 5 (.fork 0 (trO [6, 7] .nil) 6 (trO [0, 7] .nil))) 5 (.fork 0 (trO [3, 6, 7] .nil) 3 (.fork 0 (trO [6, 7] .nil) 6 (trO [0, 7] .nil))))) 4 (.fork3 0 (.fork 1 (.fork 3 (trO [5, 6, 7] .nil) 5 (trO [3, 6, 7] .nil)) 5 (trO [1, 3, 6, 7] .nil)) 1 (.fork3 0 (.fork 3 (trO [5, 6, 7] .nil) 5 (trO [3, 6, 7] .nil)) 3 (.fork 0 (trO [5, 6, 7] .nil) 5 (.fork 0 (trO [6, 7] .nil) 6 (trO [0, 7] .nil))) 5 (.fork 0 (trO [3, 6, 7] .nil) 3 (.fork 0 (trO [6, 7] .nil) 6 (trO [0, 7] .nil)))) 5 (.fork 0 (trO [1, 3, 6, 7] .nil) 1 (.fork 0 (trO [3, 6, 7] .nil) 3 (.fork 0 (trO [6, 7] .nil) 6 (trO [0, 7] .nil))))))) [0, 1, 3, 4, 5, 6, 7] [3, 6] mixed_ok (by kernel_rfl) ?_)
  all_goals first | exact ⟨rfl, _, hb, rfl⟩ | skip
  clear hgr hkn
  rintro fr σ ⟨b, hb, hv⟩
  refine w_keep [1, 3, 5, 6, 20] hv rfl ?_
  clear hv
  cases b
  · obtain ⟨b, e, h28, h29⟩ := hK (hb rfl)
    clear hb hK
    cases b
    all_goals
      repeat' (first | refine s_op rfl ?_ | (apply s_move; (iterate 4 (exact rfl))) | (apply s_ld_f tab_ok; (iterate 6 (exact rfl))) | (apply s_assign; (iterate 4 (exact rfl))) | (apply s_pick_t; (iterate 5 (exact rfl))) | (apply s_ext; (iterate 5 (exact rfl))) | (apply s_eql_t; (iterate 5 (exact rfl)); omega) | (apply s_booleq bool_ok; (iterate 5 (exact rfl))) | (apply s_call; (iterate 6 (exact rfl)); first | (exact h28; rintro _ rfl) | (exact h29; rintro _ rfl)) | refine al_nil ?_ | refine q_then_n ?_ | refine aw_seq ?_ | refine aw_reg ?_ | refine aw_false rfl ?_ | refine aw_skip ?_ | refine aw_ret ?_)
      all_goals exact q_retB (resB_1 rfl (resV_t rfl)) ⟨_, rfl, rfl⟩
  · repeat' (first | refine s_op rfl ?_ | (apply s_assign; (iterate 4 (exact rfl))) | refine al_nil ?_ | refine q_then_n ?_ | refine q_then_r ?_ | refine aw_seq ?_ | refine aw_reg ?_ | refine aw_true rfl ?_ | refine aw_ret ?_)
    all_goals exact q_retB (resB_1 rfl (resV_t rfl)) ⟨_, rfl, rfl⟩
theorem coverCovers_c (g : Sg) (hg : g.Low) (l : List Pat) (hll : l.length ≤ 1599289640354) (hl : ∀ p ∈ l, p.low) (p : Pat) (hp : p.low) :
    RunsP Try.prog 6 [.agg (sigD g), patsD l, .agg (patD p)] (fun r => r = .v (.bool true)) := by
  have hgr := great_c hg (l := l ++ [p]) (fun q hq => (List.mem_append.1 hq).elim (hl q) fun h => by rw [List.mem_singleton.1 h]; exact hp) (by rw [List.length_append]; simp; omega)
  have hkn := known_c
  refine cv_walk hkn hll hgr fun hm => ?_
  have F : FewP g (l ++ [p]) := ⟨hm.1.small, hm.1.fields, by have := hm.2; omega⟩
  have hac := F.ac
  by_cases hok : mayZ g (l ++ [p]) = 0
  · obtain ⟨hsv, hall⟩ := mayZ_iff.1 hok
    have h28 := covers_c F.sm (m := 1000000) (A := 300) (by omega) (by omega) F.ar F.sl 100000 (by omega) (by omega)
    unfold coversD at h28
    rw [if_pos hok] at h28
    obtain ⟨a1, a2, a3⟩ := agree hsv hall F.ar (f := 100000) (n := 300) (by omega) (by omega)
    have h29 := rcovers_ok F.sm (by omega : 1000000 ≤ 1000000000) F.sl hok a2 (all_c F.sm hsv (by have := F.mass; omega) hall (by omega))
    have := a3 l.length p (by simp)
    rw [List.take_left' rfl] at this
    rw [← this] at h29
    exact ⟨_, _, h28, h29⟩
  · exact ⟨_, _, covers_no F hok, rcovers_bad F.sm (by omega : 1000000 ≤ 1000000000) F.sl hok⟩
end Go.Proofs.Ytjflembhgjcgkaa

/- C69: the law's walk: CoverWithout. -/
-- ALLUNDEF -- BOXZ
-- LEN: patD_len
-- ROW: patR_get row_map
-- DEF GRT: (apply s_call; (iterate 6 (exact rfl)); exact hgr; rintro _ ⟨b, rfl, hb⟩; cases b)
-- DEF LI28: (apply s_litO tab_ok tabZ_ok (d := 28) (m := 0); (iterate 12 (exact rfl)); intro locA σ hc; have hA := hc.at'; clear hc)
-- DEF AP30: (apply s_appW tab_ok tabZ_ok (d := 30) (rows2 := patR l) (rows3 := patR l) (m := (patR l).length); (iterate 11 (exact rfl)); exact hA; exact src_of (Tab.slIs tab_ok (t := 26) rfl) (rows_d rfl); exact rfl; (refine ⟨rfl, ?_, ?_⟩ <;> omega); intro σ hc; replace hA := hc.at'; clear hc)
-- DEF L32: (apply s_lit tab_ok tabZ_ok (d := 32); (iterate 10 (exact rfl)))
-- DEF AP33: (apply s_appW tab_ok tabZ_ok (d := 33) (rows2 := [patD (.mk pk pn pi ps pa pb pc pl)]) (rows3 := patR (l ++ [.mk pk pn pi ps pa pb pc pl])) (m := (patR l).length + 1); (iterate 11 (exact rfl)); exact hA; exact src_of (Tab.slIs tab_ok (t := 26) rfl) (rows_d rfl); (rw [patR_append]; rfl); (refine ⟨rfl, ?_, rfl⟩; simp only [List.length_cons, List.length_nil]; omega); intro σ hc; replace hA := hc.at'; clear hc)
-- DEF FR33: (refine o_freezeF 33 rfl hA (by rw [patR_append]; simp [patR]) ?_; intro σ hc; clear hc hA) || (apply s_assign; (iterate 4 (exact rfl)))
-- DEF HEAD: (apply s_litO tab_ok tabZ_ok (d := 28) (m := 0); (iterate 12 (exact rfl)); intro locA σ hc; have hA := hc.at'; clear hc) || (apply s_appW tab_ok tabZ_ok (d := 30) (rows2 := patR l) (rows3 := patR l) (m := (patR l).length); (iterate 11 (exact rfl)); exact hA; exact src_of (Tab.slIs tab_ok (t := 26) rfl) (rows_d rfl); exact rfl; (refine ⟨rfl, ?_, ?_⟩ <;> omega); intro σ hc; replace hA := hc.at'; clear hc) || (apply s_lit tab_ok tabZ_ok (d := 32); (iterate 10 (exact rfl))) || (apply s_appW tab_ok tabZ_ok (d := 33) (rows2 := [patD (.mk pk pn pi ps pa pb pc pl)]) (rows3 := patR (l ++ [.mk pk pn pi ps pa pb pc pl])) (m := (patR l).length + 1); (iterate 11 (exact rfl)); exact hA; exact src_of (Tab.slIs tab_ok (t := 26) rfl) (rows_d rfl); (rw [patR_append]; rfl); (refine ⟨rfl, ?_, rfl⟩; simp only [List.length_cons, List.length_nil]; omega); intro σ hc; replace hA := hc.at'; clear hc) || (refine o_freezeF 33 rfl hA (by rw [patR_append]; simp [patR]) ?_; intro σ hc; clear hc hA) || (apply s_assign; (iterate 4 (exact rfl)))
-- DEF AL8: (apply s_allocF tabZ_ok (d := 8); (iterate 6 (exact rfl)); intro locX σ hc; have hX := hc.at'; clear hc)
-- DEF STX: (apply s_storeF tab_ok; (iterate 7 (exact rfl)); exact hX; (iterate 2 (exact rfl)); intro σ hc; clear hc hX)
-- DEF AL12: (apply s_allocF tabZ_ok (d := 12); (iterate 6 (exact rfl)); intro locX σ hc; have hX := hc.at'; clear hc)
-- DEF AL15: (apply s_allocF tabZ_ok (d := 15); (iterate 6 (exact rfl)); intro locX σ hc; have hX := hc.at'; (try have nAX := hc.ne hA); (try replace hA := hc.keep hA); clear hc)
-- DEF KAX: intro σ hc; replace hA := hc.at'; (try replace hX := hc.keep (by first | assumption | (apply Ne.symm; assumption)) hX); clear hc
-- DEF NAX: intro locA σ hc; have hA := hc.at'; (try have nXA := hc.ne hX); (try replace hX := hc.keep hX); clear hc
-- DEF FAX: intro σ hc2; (try replace hX := hc2.keep (by first | assumption | (apply Ne.symm; assumption)) hX); clear hc2 hA
-- DEF AL23: (apply s_allocF tabZ_ok (d := 23); (iterate 6 (exact rfl)); intro locX σ hc; have hX := hc.at'; clear hc)
-- DEF TL: (refine w_keep [1, 3, 5, 7, 10] rfl rfl ?_; exact htl _ rfl)
namespace Go.Proofs.Ytjflembhgjcgkaa
open Go.RowKit

/-- The first region's number. -/
def headR : Code → Option Nat
  | .region i _ _ => some i
  | .seq a _ => headR a
  | _ => none
def findSeq (n : Nat) : Code → Option Code
  | .seq a b => if headR a = some n then some (.seq a b) else match findSeq n a with
    | some c => some c
    | none => findSeq n b
  | .block _ c => findSeq n c
  | .cond _ a b => match findSeq n a with
    | some c => some c
    | none => findSeq n b
  | .loop c => findSeq n c
  | _ => none
/-- What comes behind Check's answer. -/
noncomputable def tail7 : Option Code := match Try.f7.body with
  | some c => findSeq 18 c
  | none => none
def post7 : AV → List AObj → Prop := fun v _ => ∃ d, v = .d d ∧ d = .v (.bool true)
def fr7 (g : Sg) (l : List Pat) (p : Pat) (e : Int) : Fr := [(1, .d (patsD l)), (3, .d (.fptr (sigD g))), (5, .d (.fptr (patD p))), (7, .d (patsD (l ++ [p]))), (10, .d (.v (.int .i64 e)))]
section
variable {g : Sg} {l : List Pat} {p : Pat} {e : Int} {σ : List AObj}
set_option maxRecDepth 100000 in
set_option maxHeartbeats 8000000 in
theorem tail_arg {X : Code} (hX : tail7 = some X) : AWk Try.prog 176 X (retQB tab Try.f7 post7) (fr7 g l p 2) σ := by
  cases hX
  unfold fr7
  repeat' (first | refine s_op rfl ?_ | (apply s_move; (iterate 4 (exact rfl))) | (apply s_assign; (iterate 4 (exact rfl))) | (apply s_eql_t; (iterate 5 (exact rfl)); omega) | refine al_nil ?_ | refine q_then_n ?_ | refine q_then_r ?_ | refine aw_seq ?_ | refine aw_reg ?_ | refine aw_true rfl ?_ | refine aw_ret ?_)
  all_goals exact q_retB (resB_1 rfl (resV_t rfl)) ⟨_, rfl, rfl⟩
set_option maxRecDepth 100000 in
set_option maxHeartbeats 8000000 in
theorem tail_bad (he : e ≠ 2) (h1 : RunsP Try.prog 28 [.agg (sigD g), patsD l, .agg (patD p)] (fun v => v = .tup [.v (.bool false), .v (.int .i64 2)])) {X : Code} (hX : tail7 = some X) : AWk Try.prog 176 X (retQB tab Try.f7 post7) (fr7 g l p e) σ := by
  obtain ⟨pk, pn, pi, ps, pa, pb, pc, pl⟩ := p
  cases hX
  unfold fr7
  repeat' (first | refine s_op rfl ?_ | (apply s_move; (iterate 4 (exact rfl))) | (apply s_ld_f tab_ok; (iterate 6 (exact rfl))) | (apply s_assign; (iterate 4 (exact rfl))) | (apply s_ext; (iterate 5 (exact rfl))) | (apply s_eql_t; (iterate 5 (exact rfl)); omega) | (apply s_eql_f; (iterate 5 (exact rfl)); omega) | (apply s_neq_t; (iterate 5 (exact rfl)); omega) | (apply s_call; (iterate 6 (exact rfl)); first | (exact h1; rintro _ rfl)) | refine al_nil ?_ | refine q_then_n ?_ | refine q_then_r ?_ | refine aw_seq ?_ | refine aw_reg ?_ | refine aw_true rfl ?_ | refine aw_false rfl ?_ | refine aw_skip ?_ | refine aw_ret ?_)
  all_goals exact q_retB (resB_1 rfl (resV_t rfl)) ⟨_, rfl, rfl⟩
set_option maxRecDepth 100000 in
set_option maxHeartbeats 8000000 in
theorem tail_ok (he : e ≠ 2) (hll : l.length ≤ 1000000) {b : Bool} (h1 : RunsP Try.prog 28 [.agg (sigD g), patsD l, .agg (patD p)] (fun v => v = .tup [.v (.bool b), .v (.int .i64 0)])) (h2 : RunsP Try.prog 28 [.agg (sigD g), patsD (l ++ [p]), .agg (patD p)] (fun v => v = .tup [.v (.bool true), .v (.int .i64 0)]))
    (h3 : RunsP Try.prog 28 [.agg (sigD g), patsD (p :: l), .agg (patD p)] (fun v => v = .tup [.v (.bool true), .v (.int .i64 0)])) {q : Pat} {n i : Int} (h4 : RunsP Try.prog 22 [.agg (sigD g), patsD (l ++ [p])] (fun v => v = resC q n i)) (hi : b = true → (e = 150 ↔ i = 150)) {X : Code} (hX : tail7 = some X) : AWk Try.prog 176 X (retQB tab Try.f7 post7) (fr7 g l p e) σ := by
  have e1 := patR_len l
  obtain ⟨pk, pn, pi, ps, pa, pb, pc, pl⟩ := p
  obtain ⟨qk, qn, qi, qs, qa, qb, qc, ql⟩ := q
  cases hX
  unfold fr7
  repeat' (first | refine s_op rfl ?_ | (apply s_move; (iterate 4 (exact rfl))) | (apply s_ld_f tab_ok; (iterate 6 (exact rfl))) | (apply s_assign; (iterate 4 (exact rfl))) | (apply s_ext; (iterate 5 (exact rfl))) | (apply s_eql_f; (iterate 5 (exact rfl)); omega) | (apply s_neq_f; (iterate 5 (exact rfl)); omega) | (refine w_mid (c := .region 24 _ _) (fun fr _ => getO [3, 7, 10, 18, 19, 20, 21, 22] fr = some [.d (.fptr (sigD g)), .d (patsD (l ++ [.mk pk pn pi ps pa pb pc pl])), .d (.v (.int .i64 e)), .d (.v (.bool b)), .d (.v (.int .i64 0)), .d (.v (.bool true)), .d (.v (.bool true)), .d (.v (.int .i64 0))]) ?_ ?_) | (apply s_litO tab_ok tabZ_ok (d := 139) (m := 1); (iterate 12 (exact rfl)); intro locA σ hc; have hA := hc.at'; clear hc) | (apply s_appF tab_ok tabZ_ok (d := 141) (rows2 := patR l) (rows3 := patR (.mk pk pn pi ps pa pb pc pl :: l)) (m := 1 + (patR l).length); (iterate 10 (exact rfl)); exact hA; exact src_of (Tab.slIs tab_ok (t := 26) rfl) (rows_d rfl); exact rfl; (refine ⟨rfl, ?_, rfl⟩; omega); intro σ hc; replace hA := hc.at'; clear hc) | (refine o_freezeF 141 rfl hA (by simp [patR]; omega) ?_; intro σ hc; clear hc hA) | (apply s_call; (iterate 6 (exact rfl)); first | (exact h1; rintro _ rfl) | (exact h2; rintro _ rfl) | (exact h3; rintro _ rfl)) | refine al_nil ?_ | refine q_then_n ?_ | refine aw_seq ?_ | refine aw_reg ?_ | refine aw_false rfl ?_ | refine aw_skip ?_ | refine al_fork ?_ ?_ | refine al_fork3 ?_ ?_ ?_ | refine aw_draws (id := 24) (trO [1, 3] (.fork3 0 (.fork 2 (.fork 4 (trO [5, 6, 7, 8, 9, 10, 11] .nil) 5 (trO [4, 6, 7, 8, 9, 10, 11] .nil)) 5 (trO [2, 4, 6, 7, 8, 9, 10, 11] .nil)) 2 (.fork3 0 (.fork 4 (trO [5, 6, 7, 8, 9, 10, 11] .nil) 5 (trO [4, 6, 7, 8, 9, 10, 11] .nil)) 4 (.fork 0 (trO [5, 6, 7, 8, 9, 10, 11] .nil) 5 (trO [0, 6, 7, 8, 9, 10, 11] .nil)) 5 (.fork 0 (trO [4, 6, 7, 8, 9, 10, 11] .nil) 4 (trO [0, 6, 7, 8, 9, 10, 11] .nil))) 5 (.fork 0 (trO [2, 4, 6, 7, 8, 9, 10, 11] .nil) 2 (.fork 0 (trO [4, 6, 7, 8, 9, 10, 11] .nil) 4 (trO [0, 6, 7, 8, 9, 10, 11] .nil))))) [0, 2, 4, 5, 6] [4] mixed_ok (by kernel_rfl) ?_)
  all_goals first | exact ⟨rfl, rfl⟩ | skip
  clear h1 h2 h3
  rintro fr σ hv
  refine w_keep [3, 7, 10, 18, 19, 20, 21, 22] hv rfl ?_
  clear hv
  cases b
  · repeat' (first | refine s_op rfl ?_ | (apply s_skipV; (iterate 2 (exact rfl))) | (apply s_move; (iterate 4 (exact rfl))) | (apply s_ld_f tab_ok; (iterate 6 (exact rfl))) | (apply s_assign; (iterate 4 (exact rfl))) | (apply s_pick_t; (iterate 5 (exact rfl))) | (apply s_ext; (iterate 5 (exact rfl))) | (apply s_not_f; (iterate 4 (exact rfl))) | (apply s_eql_t; (iterate 5 (exact rfl)); omega) | (apply s_allocF tabZ_ok (d := 23); (iterate 6 (exact rfl)); intro locX σ hc; have hX := hc.at'; clear hc) | (apply s_storeF tab_ok; (iterate 7 (exact rfl)); exact hX; (iterate 2 (exact rfl)); intro σ hc; clear hc hX) | (apply s_call; (iterate 6 (exact rfl)); first | (exact h4; rintro _ rfl)) | refine al_nil ?_ | refine q_then_n ?_ | refine aw_seq ?_ | refine aw_reg ?_ | refine aw_ret ?_)
    all_goals exact q_retB (resB_1 rfl (resV_t rfl)) ⟨_, rfl, rfl⟩
  · have hi := hi rfl
    by_cases hA0 : e = 150
    · have hi2 := hi.1 hA0
      subst hA0 hi2
      repeat' (first | refine s_op rfl ?_ | (apply s_move; (iterate 4 (exact rfl))) | (apply s_ld_f tab_ok; (iterate 6 (exact rfl))) | (apply s_assign; (iterate 4 (exact rfl))) | (apply s_pick_t; (iterate 5 (exact rfl))) | (apply s_pick_f; (iterate 5 (exact rfl))) | (apply s_ext; (iterate 5 (exact rfl))) | (apply s_not_t; (iterate 4 (exact rfl))) | (apply s_eql_t; (iterate 5 (exact rfl)); omega) | (apply s_booleq bool_ok; (iterate 5 (exact rfl))) | (apply s_allocF tabZ_ok (d := 23); (iterate 6 (exact rfl)); intro locX σ hc; have hX := hc.at'; clear hc) | (apply s_storeF tab_ok; (iterate 7 (exact rfl)); exact hX; (iterate 2 (exact rfl)); intro σ hc; clear hc hX) | (apply s_call; (iterate 6 (exact rfl)); first | (exact h4; rintro _ rfl)) | refine al_nil ?_ | refine q_then_n ?_ | refine aw_seq ?_ | refine aw_reg ?_ | refine aw_ret ?_)
      all_goals exact q_retB (resB_1 rfl (resV_t rfl)) ⟨_, rfl, rfl⟩
    · have hi2 : i ≠ 150 := fun h => hA0 (hi.2 h)
      repeat' (first | refine s_op rfl ?_ | (apply s_move; (iterate 4 (exact rfl))) | (apply s_ld_f tab_ok; (iterate 6 (exact rfl))) | (apply s_assign; (iterate 4 (exact rfl))) | (apply s_pick_t; (iterate 5 (exact rfl))) | (apply s_pick_f; (iterate 5 (exact rfl))) | (apply s_ext; (iterate 5 (exact rfl))) | (apply s_not_t; (iterate 4 (exact rfl))) | (apply s_eql_t; (iterate 5 (exact rfl)); omega) | (apply s_eql_f; (iterate 5 (exact rfl)); omega) | (apply s_booleq bool_ok; (iterate 5 (exact rfl))) | (apply s_allocF tabZ_ok (d := 23); (iterate 6 (exact rfl)); intro locX σ hc; have hX := hc.at'; clear hc) | (apply s_storeF tab_ok; (iterate 7 (exact rfl)); exact hX; (iterate 2 (exact rfl)); intro σ hc; clear hc hX) | (apply s_call; (iterate 6 (exact rfl)); first | (exact h4; rintro _ rfl)) | refine al_nil ?_ | refine q_then_n ?_ | refine aw_seq ?_ | refine aw_reg ?_ | refine aw_ret ?_)
      all_goals exact q_retB (resB_1 rfl (resV_t rfl)) ⟨_, rfl, rfl⟩
end
/-- What comes behind all. -/
noncomputable def tail4 : Option Code := match Try.f7.body with
  | some c => findSeq 4 c
  | none => none
def fr4 (g : Sg) (l : List Pat) (p : Pat) : Fr := [(1, .d (patsD l)), (3, .d (.fptr (sigD g))), (5, .d (.fptr (patD p))), (7, .d (patsD (l ++ [p])))]
set_option maxRecDepth 100000 in
set_option maxHeartbeats 8000000 in
theorem cw_head {g : Sg} {l : List Pat} {p : Pat} (hkn : RunsP Try.prog 21 [] (fun v => v = .v (.bool true))) (hll : l.length ≤ 1599289640354) (h4 : ∀ {σ : List AObj} (X : Code), tail4 = some X → AWk Try.prog 176 X (retQB tab Try.f7 post7) (fr4 g l p) σ) : RunsP Try.prog 7 [.agg (sigD g), patsD l, .agg (patD p)] (fun v => v = .v (.bool true)) := by
  have e1 := patR_len l
  obtain ⟨pk, pn, pi, ps, pa, pb, pc, pl⟩ := p
  refine enterPB 176 tab_ok Try.func7 rfl (by kernel_rfl) rfl rfl rfl ?_
  repeat' (first | refine s_op rfl ?_ | (apply s_move; (iterate 4 (exact rfl))) | (apply s_ld_f tab_ok; (iterate 6 (exact rfl))) | (apply s_boxZ; (iterate 5 (exact rfl)); first | exact rfl | exact allD_mapd _) | (apply s_not_t; (iterate 4 (exact rfl))) | (refine w_mid (c := .region 3 _ _) (fun fr _ => getO [1, 3, 5, 7] fr = some [.d (patsD l), .d (.fptr (sigD g)), .d (.fptr (patD (.mk pk pn pi ps pa pb pc pl))), .d (patsD (l ++ [.mk pk pn pi ps pa pb pc pl]))]) ?_ ?_) | (apply s_litO tab_ok tabZ_ok (d := 28) (m := 0); (iterate 12 (exact rfl)); intro locA σ hc; have hA := hc.at'; clear hc) | (apply s_appW tab_ok tabZ_ok (d := 30) (rows2 := patR l) (rows3 := patR l) (m := (patR l).length); (iterate 11 (exact rfl)); exact hA; exact src_of (Tab.slIs tab_ok (t := 26) rfl) (rows_d rfl); exact rfl; (refine ⟨rfl, ?_, ?_⟩ <;> omega); intro σ hc; replace hA := hc.at'; clear hc) | (apply s_lit tab_ok tabZ_ok (d := 32); (iterate 10 (exact rfl))) | (apply s_appW tab_ok tabZ_ok (d := 33) (rows2 := [patD (.mk pk pn pi ps pa pb pc pl)]) (rows3 := patR (l ++ [.mk pk pn pi ps pa pb pc pl])) (m := (patR l).length + 1); (iterate 11 (exact rfl)); exact hA; exact src_of (Tab.slIs tab_ok (t := 26) rfl) (rows_d rfl); (rw [patR_append]; rfl); (refine ⟨rfl, ?_, rfl⟩; simp only [List.length_cons, List.length_nil]; omega); intro σ hc; replace hA := hc.at'; clear hc) | (refine o_freezeF 33 rfl hA (by rw [patR_append]; simp [patR]) ?_; intro σ hc; clear hc hA) | (apply s_assign; (iterate 4 (exact rfl))) | (apply s_call; (iterate 6 (exact rfl)); first | (exact hkn; rintro _ rfl)) | refine al_nil ?_ | refine q_then_n ?_ | refine aw_seq ?_ | refine aw_reg ?_ | refine aw_false rfl ?_ | refine aw_skip ?_ | refine al_fork ?_ ?_ | refine aw_draws (id := 3) (trO [1] (.fork 0 (.fork 2 (trO [3, 4, 5, 6] .nil) 3 (.fork 2 (trO [4, 5, 6] .nil) 4 (trO [2, 5, 6] .nil))) 3 (.fork 0 (.fork 2 (trO [4, 5, 6] .nil) 4 (trO [2, 5, 6] .nil)) 4 (trO [0, 2, 5, 6] .nil)))) [0, 2, 3, 4, 5] [2, 5] mixed_ok (by kernel_rfl) ?_)
  all_goals first | exact ⟨rfl, rfl⟩ | skip
  rintro fr σ hv
  refine w_keep [1, 3, 5, 7] hv rfl ?_
  exact h4 _ rfl
section
variable {g : Sg} {l : List Pat} {p : Pat} {σ : List AObj} {K : Prop} (hgr : RunsP Try.prog 13 [.agg (sigD g), patsD (l ++ [p])] (fun v => ∃ b : Bool, v = .v (.bool b) ∧ (b = false → K)))
include hgr
set_option maxRecDepth 100000 in
set_option maxHeartbeats 8000000 in
theorem cw_great (hK : ¬ K) {X : Code} (hX : tail4 = some X) : AWk Try.prog 176 X (retQB tab Try.f7 post7) (fr4 g l p) σ := by
  cases hX
  unfold fr4
  repeat' (first | refine s_op rfl ?_ | (apply s_move; (iterate 4 (exact rfl))) | (apply s_ld_f tab_ok; (iterate 6 (exact rfl))) | (apply s_assign; (iterate 4 (exact rfl))) | (apply s_call; (iterate 6 (exact rfl)); exact hgr; rintro _ ⟨b, rfl, hb⟩; (have hb1 : b = true := by cases b; exact absurd (hb rfl) hK; rfl); subst hb1) | refine al_nil ?_ | refine q_then_n ?_ | refine q_then_r ?_ | refine aw_seq ?_ | refine aw_reg ?_ | refine aw_true rfl ?_ | refine aw_ret ?_)
  all_goals exact q_retB (resB_1 rfl (resV_t rfl)) ⟨_, rfl, rfl⟩
variable {q : Pat} {n e : Int} (hc : RunsP Try.prog 22 [.agg (sigD g), patsD l] (fun v => v = resC q n e)) (htl : ∀ {σ : List AObj} (X : Code), tail7 = some X → AWk Try.prog 176 X (retQB tab Try.f7 post7) (fr7 g l p e) σ)
include hc htl
set_option maxRecDepth 100000 in
set_option maxHeartbeats 8000000 in
theorem cw_plain (h1 : e ≠ 150) (h2 : e ≠ 151) {X : Code} (hX : tail4 = some X) : AWk Try.prog 176 X (retQB tab Try.f7 post7) (fr4 g l p) σ := by
  obtain ⟨qk, qn, qi, qs, qa, qb, qc, ql⟩ := q
  cases hX
  unfold fr4
  repeat' (first | refine s_op rfl ?_ | (apply s_move; (iterate 4 (exact rfl))) | (apply s_ld_f tab_ok; (iterate 6 (exact rfl))) | (apply s_assign; (iterate 4 (exact rfl))) | (apply s_ext; (iterate 5 (exact rfl))) | (apply s_eql_f; (iterate 5 (exact rfl)); omega) | (refine w_keep [1, 3, 5, 7, 10] rfl rfl ?_; exact htl _ rfl) | (apply s_call; (iterate 6 (exact rfl)); exact hgr; rintro _ ⟨b, rfl, hb⟩; cases b) | (apply s_allocF tabZ_ok (d := 8); (iterate 6 (exact rfl)); intro locX σ hc; have hX := hc.at'; clear hc) | (apply s_storeF tab_ok; (iterate 7 (exact rfl)); exact hX; (iterate 2 (exact rfl)); intro σ hc; clear hc hX) | (apply s_call; (iterate 6 (exact rfl)); first | (exact hc; rintro _ rfl)) | refine al_nil ?_ | refine q_then_n ?_ | refine q_then_r ?_ | refine aw_seq ?_ | refine aw_reg ?_ | refine aw_true rfl ?_ | refine aw_false rfl ?_ | refine aw_skip ?_ | refine aw_ret ?_)
  all_goals exact q_retB (resB_1 rfl (resV_t rfl)) ⟨_, rfl, rfl⟩
set_option maxRecDepth 100000 in
set_option maxHeartbeats 8000000 in
theorem cw_useless (hl2 : l.length ≤ 1000000) {k : Nat} (hk : k < l.length) (hn : n = k) (he : e = 151) {r : Pat} {m f : Int} (hless : RunsP Try.prog 22 [.agg (sigD g), patsD (l.take k ++ l.drop (k + 1))] (fun v => v = resC r m f)) (hf : f = 0 ∨ f = 151 ∧ (k : Int) ≤ m) {X : Code} (hX : tail4 = some X) : AWk Try.prog 176 X (retQB tab Try.f7 post7) (fr4 g l p) σ := by
  have e1 := patR_len l
  subst hn he
  obtain ⟨qk, qn, qi, qs, qa, qb, qc, ql⟩ := q
  obtain ⟨rk, rn, ri, rs, ra, rb, rc, rl⟩ := r
  have e2 : (patR (l.take k)).length = k := by rw [patR_len, List.length_take]; omega
  have e3 : (patR (l.drop (k + 1))).length = l.length - (k + 1) := by rw [patR_len, List.length_drop]
  cases hX
  unfold fr4
  rcases hf with hf | ⟨hf, hkm⟩
  all_goals
    subst hf
    repeat' (first | refine s_op rfl ?_ | (apply s_skipV; (iterate 2 (exact rfl))) | (apply s_move; (iterate 4 (exact rfl))) | (apply s_ld_f tab_ok; (iterate 6 (exact rfl))) | (apply s_assign; (iterate 4 (exact rfl))) | (apply s_pick_t; (iterate 5 (exact rfl))) | (apply s_pick_f; (iterate 5 (exact rfl))) | (apply s_len tab_ok; (iterate 5 (exact rfl))) | (apply s_ext; (iterate 5 (exact rfl))) | (apply s_eql_t; (iterate 5 (exact rfl)); omega) | (apply s_eql_f; (iterate 5 (exact rfl)); omega) | (apply s_lss_f; (iterate 5 (exact rfl)); omega) | (apply s_geq_f; (iterate 5 (exact rfl)); omega) | (apply s_add64; (iterate 5 (exact rfl)); omega) | (refine w_keep [1, 3, 5, 7, 10] rfl rfl ?_; exact htl _ rfl) | (apply s_call; (iterate 6 (exact rfl)); exact hgr; rintro _ ⟨b, rfl, hb⟩; cases b) | (apply s_allocF tabZ_ok (d := 8); (iterate 6 (exact rfl)); intro locX σ hc; have hX := hc.at'; clear hc) | (apply s_allocF tabZ_ok (d := 12); (iterate 6 (exact rfl)); intro locX σ hc; have hX := hc.at'; clear hc) | (apply s_storeF tab_ok; (iterate 7 (exact rfl)); exact hX; (iterate 2 (exact rfl)); intro σ hc; clear hc hX) | (apply s_litO tab_ok tabZ_ok (d := 54) (m := 0); (iterate 12 (exact rfl)); intro locA σ hc; have hA := hc.at'; clear hc) | (apply s_sliceE tab_ok (d := 57) (rows' := patR (l.take k)); (iterate 8 (exact rfl)); (exact ⟨by simp, by simp, by simp; omega⟩); (simp [patR_take])) | (apply s_sliceE tab_ok (d := 62) (rows' := patR (l.drop (k + 1))); (iterate 8 (exact rfl)); (exact ⟨by simp; omega, by simp; omega, by simp⟩); (simp [patR_drop])) | (apply s_appF tab_ok tabZ_ok (d := 58) (rows2 := patR (l.take k)) (rows3 := patR (l.take k)) (m := (patR (l.take k)).length); (iterate 10 (exact rfl)); exact hA; exact src_of (Tab.slIs tab_ok (t := 26) rfl) (rows_d rfl); exact rfl; (refine ⟨rfl, ?_, ?_⟩ <;> omega); intro σ hc; replace hA := hc.at'; clear hc) | (apply s_appF tab_ok tabZ_ok (d := 63) (rows2 := patR (l.drop (k + 1))) (rows3 := patR (l.take k ++ l.drop (k + 1))) (m := (patR (l.take k)).length + (patR (l.drop (k + 1))).length); (iterate 10 (exact rfl)); exact hA; exact src_of (Tab.slIs tab_ok (t := 26) rfl) (rows_d rfl); (rw [patR_append]); (refine ⟨rfl, ?_, rfl⟩; omega); intro σ hc; replace hA := hc.at'; clear hc) | (refine w_freezeF 11 rfl hA (by rw [patR_append]; simp) ?_; intro σ hc2; clear hc2 hA) | (apply s_call; (iterate 6 (exact rfl)); first | (exact hc; rintro _ rfl) | (exact hless; rintro _ rfl)) | refine al_nil ?_ | refine q_then_n ?_ | refine q_then_r ?_ | refine aw_seq ?_ | refine aw_reg ?_ | refine aw_true rfl ?_ | refine aw_false rfl ?_ | refine aw_skip ?_ | refine aw_ret ?_ | refine aw_draws (id := 10) (trO [1, 2, 3, 5, 6, 7, 8, 0, 4, 9, 10] .nil) [0, 4, 9] [4, 9] mixed_ok (by kernel_rfl) ?_)
    all_goals exact q_retB (resB_1 rfl (resV_t rfl)) ⟨_, rfl, rfl⟩
set_option maxRecDepth 100000 in
set_option maxHeartbeats 8000000 in
theorem cw_missing (hl2 : l.length ≤ 1000000) (he : e = 150) {r : Pat} {m f : Int} (hmore : RunsP Try.prog 22 [.agg (sigD g), patsD (l ++ [anyP])] (fun v => v = resC r m f)) (hf : f = 0 ∨ f = 151 ∧ m < l.length) {X : Code} (hX : tail4 = some X) : AWk Try.prog 176 X (retQB tab Try.f7 post7) (fr4 g l p) σ := by
  have e1 := patR_len l
  subst he
  have han := anyone_c
  obtain ⟨qk, qn, qi, qs, qa, qb, qc, ql⟩ := q
  obtain ⟨rk, rn, ri, rs, ra, rb, rc, rl⟩ := r
  cases hX
  unfold fr4
  repeat' (first | refine s_op rfl ?_ | (apply s_move; (iterate 4 (exact rfl))) | (apply s_ld_f tab_ok; (iterate 6 (exact rfl))) | (apply s_assign; (iterate 4 (exact rfl))) | (apply s_ext; (iterate 5 (exact rfl))) | (apply s_eql_t; (iterate 5 (exact rfl)); omega) | (apply s_eql_f; (iterate 5 (exact rfl)); omega) | (refine w_mid (c := .region 15 _ _) (fun fr _ => getO [1, 3, 5, 7, 10, 16, 17] fr = some [.d (patsD l), .d (.fptr (sigD g)), .d (.fptr (patD p)), .d (patsD (l ++ [p])), .d (.v (.int .i64 150)), .d (.v (.int .i64 m)), .d (.v (.int .i64 f))]) ?_ ?_) | (apply s_call; (iterate 6 (exact rfl)); exact hgr; rintro _ ⟨b, rfl, hb⟩; cases b) | (apply s_allocF tabZ_ok (d := 8); (iterate 6 (exact rfl)); intro locX σ hc; have hX := hc.at'; clear hc) | (apply s_allocF tabZ_ok (d := 15); (iterate 6 (exact rfl)); intro locX σ hc; have hX := hc.at'; (try have nAX := hc.ne hA); (try replace hA := hc.keep hA); clear hc) | (apply s_storeF tab_ok; (iterate 7 (exact rfl)); exact hX; (iterate 2 (exact rfl)); intro σ hc; clear hc hX) | (apply s_litO tab_ok tabZ_ok (d := 90) (m := 0); (iterate 12 (exact rfl)); intro locA σ hc; have hA := hc.at'; (try have nXA := hc.ne hX); (try replace hX := hc.keep hX); clear hc) | (apply s_lit tab_ok tabZ_ok (d := 94); (iterate 10 (exact rfl))) | (apply s_appF tab_ok tabZ_ok (d := 92) (rows2 := patR l) (rows3 := patR l) (m := (patR l).length); (iterate 10 (exact rfl)); exact hA; exact src_of (Tab.slIs tab_ok (t := 26) rfl) (rows_d rfl); exact rfl; (refine ⟨rfl, ?_, ?_⟩ <;> omega); intro σ hc; replace hA := hc.at'; (try replace hX := hc.keep (by first | assumption | (apply Ne.symm; assumption)) hX); clear hc) | (apply s_appF tab_ok tabZ_ok (d := 95) (rows2 := [patD anyP]) (rows3 := patR (l ++ [anyP])) (m := (patR l).length + 1); (iterate 10 (exact rfl)); exact hA; exact src_of (Tab.slIs tab_ok (t := 26) rfl) (rows_d rfl); (rw [patR_append]; rfl); (refine ⟨rfl, ?_, rfl⟩; simp only [List.length_cons, List.length_nil]; omega); intro σ hc; replace hA := hc.at'; (try replace hX := hc.keep (by first | assumption | (apply Ne.symm; assumption)) hX); clear hc) | (refine o_freezeF 95 rfl hA (by rw [patR_append]; simp [patR]) ?_; intro σ hc2; (try replace hX := hc2.keep (by first | assumption | (apply Ne.symm; assumption)) hX); clear hc2 hA) | (apply s_call; (iterate 6 (exact rfl)); first | (exact han; rintro _ rfl) | (exact hc; rintro _ rfl) | (exact hmore; rintro _ rfl)) | refine al_nil ?_ | refine q_then_n ?_ | refine q_then_r ?_ | refine aw_seq ?_ | refine aw_reg ?_ | refine aw_true rfl ?_ | refine aw_false rfl ?_ | refine aw_skip ?_ | refine aw_ret ?_ | refine al_fork ?_ ?_ | refine al_fork3 ?_ ?_ ?_ | refine aw_draws (id := 15) (trO [2] (.fork3 0 (.fork 1 (.fork 3 (.fork 4 (.fork 5 (.fork 6 (.fork 7 (trO [8, 9, 10, 11, 12, 13, 14, 15] .nil) 12 (trO [7, 8, 9, 10, 11, 13, 14, 15] .nil)) 12 (trO [6, 7, 8, 9, 10, 11, 13, 14, 15] .nil)) 12 (trO [5, 6, 7, 8, 9, 10, 11, 13, 14, 15] .nil)) 12 (trO [4, 5, 6, 7, 8, 9, 10, 11, 13, 14, 15] .nil)) 12 (trO [3, 4, 5, 6, 7, 8, 9, 10, 11, 13, 14, 15] .nil)) 12 (trO [1, 3, 4, 5, 6, 7, 8, 9, 10, 11, 13, 14, 15] .nil)) 1 (.fork3 0 (.fork 3 (.fork 4 (.fork 5 (.fork 6 (.fork 7 (trO [8, 9, 10, 11, 12, 13, 14, 15] .nil) 12 (trO [7, 8, 9, 10, 11, 13, 14, 15] .nil)) 12 (trO [6, 7, 8, 9, 10, 11, 13, 14, 15] .nil)) 12 (trO [5, 6, 7, 8, 9, 10, 11, 13, 14, 15] .nil)) 12 (trO [4, 5, 6, 7, 8, 9, 10, 11, 13, 14, 15] .nil)) 12 (trO [3, 4, 5, 6, 7, 8, 9, 10, 11, 13, 14, 15] .nil)) 3 (.fork3 0 (.fork 4 (.fork 5 (.fork 6 (.fork 7 (trO [8, 9, 10, 11, 12, 13, 14, 15] .nil) 12 (trO [7, 8, 9, 10, 11, 13, 14, 15] .nil)) 12 (trO [6, 7, 8, 9, 10, 11, 13, 14, 15] .nil)) 12 (trO [5, 6, 7, 8, 9, 10, 11, 13, 14, 15] .nil)) 12 (trO [4, 5, 6, 7, 8, 9, 10, 11, 13, 14, 15] .nil)) 4 (.fork3 0 (.fork 5 (.fork 6 (.fork 7 (trO [8, 9, 10, 11, 12, 13, 14, 15] .nil) 12 (trO [7, 8, 9, 10, 11, 13, 14, 15] .nil)) 12 (trO [6, 7, 8, 9, 10, 11, 13, 14, 15] .nil)) 12 (trO [5, 6, 7, 8, 9, 10, 11, 13, 14, 15] .nil)) 5 (.fork3 0 (.fork 6 (.fork 7 (trO [8, 9, 10, 11, 12, 13, 14, 15] .nil) 12 (trO [7, 8, 9, 10, 11, 13, 14, 15] .nil)) 12 (trO [6, 7, 8, 9, 10, 11, 13, 14, 15] .nil)) 6 (.fork 0 (.fork 7 (trO [8, 9, 10, 11, 12, 13, 14, 15] .nil) 12 (trO [7, 8, 9, 10, 11, 13, 14, 15] .nil)) 12 (trO [0, 7, 8, 9, 10, 11, 13, 14, 15] .nil)) 12 (.fork 0 (trO [6, 7, 8, 9, 10, 11, 13, 14, 15] .nil) 6 (trO [0, 7, 8, 9, 10, 11, 13, 14, 15] .nil))) 12 (.fork 0 (trO [5, 6, 7, 8, 9, 10, 11, 13, 14, 15] .nil) 5 (.fork 0 (trO [6, 7, 8, 9, 10, 11, 13, 14, 15] .nil) 6 (trO [0, 7, 8, 9, 10, 11, 13, 14, 15] .nil)))) 12 (.fork 0 (trO [4, 5, 6, 7, 8, 9, 10, 11, 13, 14, 15] .nil) 4 (.fork 0 (trO [5, 6, 7, 8, 9, 10, 11, 13, 14, 15] .nil) 5 (.fork 0 (trO [6, 7, 8, 9, 10, 11, 13, 14, 15] .nil) 6 (trO [0, 7, 8, 9, 10, 11, 13, 14, 15] .nil))))) 12 (.fork 0 (trO [3, 4, 5, 6, 7, 8, 9, 10, 11, 13, 14, 15] .nil) 3 (.fork 0 (trO [4, 5, 6, 7, 8, 9, 10, 11, 13, 14, 15] .nil) 4 (.fork 0 (trO [5, 6, 7, 8, 9, 10, 11, 13, 14, 15] .nil) 5 (.fork 0 (trO [6, 7, 8, 9, 10, 11, 13, 14, 15] .nil) 6 (trO [0, 7, 8, 9, 10, 11, 13, 14, 15] .nil)))))) 12 (.fork 0 (trO [1, 3, 4, 5, 6, 7, 8, 9, 10, 11, 13, 14, 15] .nil) 1 (.fork 0 (trO [3, 4, 5, 6, 7, 8, 9, 10, 11, 13, 14, 15] .nil) 3 (.fork 0 (trO [4, 5, 6, 7, 8, 9, 10, 11, 13, 14, 15] .nil) 4 (.fork 0 (trO [5, 6, 7, 8, 9, 10, 11, 13, 14, 15] .nil) 5 (.fork 0 (trO [6, 7, 8, 9, 10, 11, 13, 14, 15] .nil) 6 (trO [0, 7, 8, 9, 10, 11, 13, 14, 15] .nil)))))))) [0, 1, 3, 4, 5, 6, 7, 12, 13] [3, 6, 13] mixed_ok (by kernel_rfl) ?_)
  all_goals first | exact ⟨rfl, rfl⟩ | exact q_retB (resB_1 rfl (resV_t rfl)) ⟨_, rfl, rfl⟩ | skip
  rintro fr σ hv
  refine w_keep [1, 3, 5, 7, 10, 16, 17] hv rfl ?_
  clear hv hmore hc hgr han
  rcases hf with hf | ⟨hf, hkm⟩
  all_goals
    subst hf
    repeat' (first | refine s_op rfl ?_ | (apply s_skipV; (iterate 2 (exact rfl))) | (apply s_move; (iterate 4 (exact rfl))) | (apply s_pick_t; (iterate 5 (exact rfl))) | (apply s_pick_f; (iterate 5 (exact rfl))) | (apply s_len tab_ok; (iterate 5 (exact rfl))) | (apply s_eql_t; (iterate 5 (exact rfl)); omega) | (apply s_eql_f; (iterate 5 (exact rfl)); omega) | (apply s_geq_f; (iterate 5 (exact rfl)); omega) | (refine w_keep [1, 3, 5, 7, 10] rfl rfl ?_; exact htl _ rfl) | refine al_nil ?_ | refine q_then_n ?_ | refine aw_seq ?_ | refine aw_reg ?_ | refine aw_false rfl ?_ | refine aw_skip ?_)
    all_goals exact q_retB (resB_1 rfl (resV_t rfl)) ⟨_, rfl, rfl⟩
end
theorem coverWithout_c (g : Sg) (hg : g.Low) (l : List Pat) (hll : l.length ≤ 1599289640354) (hl : ∀ p ∈ l, p.low) (p : Pat) (hp : p.low) :
    RunsP Try.prog 7 [.agg (sigD g), patsD l, .agg (patD p)] (fun r => r = .v (.bool true)) := by
  have hgr := great_c hg (l := l ++ [p]) (fun q hq => (List.mem_append.1 hq).elim (hl q) fun h => by rw [List.mem_singleton.1 h]; exact hp) (by rw [List.length_append]; simp; omega)
  have hkn := known_c
  refine cw_head hkn hll fun {σ} X hX => ?_
  by_cases hm : g.Tiny ∧ massL (l ++ [p]) ≤ 50
  · have hma := massL_append l [p]
    have hm2 := hm.2
    have hml := massL_len l
    have hp1 : massL [p] = massP p := by simp [massL]
    have F : FewP g (l ++ [p]) := ⟨hm.1.small, hm.1.fields, by omega⟩
    have Fl : FewP g l := F.of (by omega)
    obtain ⟨q, n, e, hc, hA⟩ := check_ans Fl
    -- the tail
    have tl : e ≠ 2 → mayZ g l = 0 → ∀ {σ : List AObj} (X : Code), tail7 = some X → AWk Try.prog 176 X (retQB tab Try.f7 post7) (fr7 g l p e) σ := fun he hokl {σ} X hX => by
      by_cases hok : mayZ g (l ++ [p]) = 0
      · obtain ⟨hsv, hall⟩ := mayZ_iff.1 hok
        obtain ⟨m1, m2⟩ := all2_more hall
        obtain ⟨b1, c1, r1⟩ := covers_ans F hok
        have F2 : FewP g ((l ++ [p]) ++ [p]) := F.of (by rw [massL_append]; omega)
        have hF3 : massL ((p :: l) ++ [p]) = massP p + massL l + massL [p] := by rw [massL_append]; simp only [massL]
        have F3 : FewP g ((p :: l) ++ [p]) := F.of (by omega)
        obtain ⟨b2, c2, r2⟩ := covers_ans F2 (mayZ_iff.2 ⟨hsv, m1⟩)
        obtain ⟨b3, c3, r3⟩ := covers_ans F3 (mayZ_iff.2 ⟨hsv, m2⟩)
        rw [r2.2 (ahead_covers (by simp))] at c2
        rw [r3.2 (ahead_covers (by simp))] at c3
        obtain ⟨q4, n4, e4, c4, h4⟩ := check_ans F
        exact tail_ok he (by omega) c1 c2 c3 c4 (fun hb => covered_same hall (r1.1 hb) hA h4 hok he) hX
      · exact tail_bad he (covers_no F hok) hX
    rcases hA with ⟨he, h2⟩ | ⟨he, hok, hM⟩ | ⟨he, hok, _⟩ | ⟨he, hok, hM, k, hk, hkl, hci, hck⟩
    · exact cw_plain hgr hc (fun X hX => by rw [he]; exact tail_arg hX) (by omega) (by omega) hX
    · obtain ⟨hsv, hall⟩ := mayZ_iff.1 hok
      have Fm : FewP g (l ++ [anyP]) := F.of (by rw [massL_append]; have : massL [anyP] = 1 := rfl; omega)
      obtain ⟨r, m, f, hmore, hB⟩ := check_ans Fm
      exact cw_missing hgr hc (tl (by omega) hok) (by omega) he hmore (more_ok hsv hall hM hB) hX
    · exact cw_plain hgr hc (tl (by omega) hok) (by omega) (by omega) hX
    · obtain ⟨hsv, hall⟩ := mayZ_iff.1 hok
      have hdm : massL (l.take k ++ l.drop (k + 1)) ≤ massL l := by
        obtain ⟨pk, hpk⟩ := getS hkl
        have h1 := massL_take hpk
        have h2 := massL_append (l.take (k + 1)) (l.drop (k + 1))
        rw [List.take_append_drop] at h2
        rw [massL_append]; omega
      obtain ⟨r, m, f, hless, hB⟩ := check_ans (F.of (by omega : massL (l.take k ++ l.drop (k + 1)) ≤ 200))
      exact cw_useless hgr hc (tl (by omega) hok) (by omega) hkl hk he hless (without_ok hsv hall hkl hM hci hck hB) hX
  · exact cw_great hgr hm hX
end Go.Proofs.Ytjflembhgjcgkaa
