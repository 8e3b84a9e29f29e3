/- C42: names and their places: Binds, of the program and of the document. -/
import Derived.Test.YtjflembhgjcgkaaTP11XC34C35
import Derived.Test.YtjflembhgjcgkaaTP11C39x3
import Derived.Test.YtjflembhgjcgkaaTP11XM1M11C1x2
set_option linter.unusedSimpArgs false
set_option linter.unusedVariables false
namespace Go.Proofs.Ytjflembhgjcgkaa
open Go.RowKit

section
variable {P : Program} {nt : Nat} {Q : Exit → Fr → List AObj → Prop} {fr : Fr} {σ : List AObj}
theorem w_end {c : Code} (M : Fr → List AObj → Prop) (h1 : AWk P nt c (midQ M) fr σ) (h2 : ∀ fr σ, M fr σ → Q .normal fr σ) : AWk P nt c Q fr σ :=
  h1.mono fun e fr σ ⟨he, hm⟩ => by subst he; exact h2 fr σ hm
end
def tabF : Tab := ⟨[(107, 1, 8, false)], [], []⟩
def tabFZ : TabZ := ⟨[(107, [.nilFunc])], []⟩
theorem tabF_ok : okTab Try.prog tabF = true := by kernel_rfl
theorem tabFZ_ok : okTabZ Try.prog tabFZ = true := by kernel_rfl
mutual
theorem bindsF_len : ∀ (p : Pat) (path : List Int), (bindsF p path).length ≤ massP p
  | .mk k n i s a b c l, path => by
    have := bindsL_len l path 0
    simp only [bindsF, massP]
    split
    · simp; omega
    · split
      · omega
      · simp
theorem bindsL_len : ∀ (l : List Pat) (path : List Int) (i : Nat), (bindsL l path i).length ≤ massL l
  | [], _, _ => by simp [bindsL]
  | p :: l, path, i => by
    have h1 := bindsF_len p (path ++ [(i : Int)])
    have h2 := bindsL_len l path (i + 1)
    simp only [bindsL, massL, List.length_append]
    omega
end
theorem bindsL_append (path : List Int) : ∀ (l m : List Pat) (i : Nat), bindsL (l ++ m) path i = bindsL l path i ++ bindsL m path (i + l.length)
  | [], m, i => by simp [bindsL]
  | p :: l, m, i => by
    simp only [List.cons_append, bindsL, bindsL_append path l m (i + 1), List.length_cons, List.append_assoc]
    rw [show i + 1 + l.length = i + (l.length + 1) by omega]
theorem binds_take {path : List Int} {l : List Pat} {k : Nat} {p : Pat} (h : l[k]? = some p) : bindsL (l.take (k + 1)) path 0 = bindsL (l.take k) path 0 ++ bindsF p (path ++ [(k : Int)]) := by
  have hk := (List.getElem?_eq_some_iff.1 h).1
  rw [List.take_add_one, h, bindsL_append, List.length_take, Nat.min_eq_left (by omega), Nat.zero_add]
  simp [bindsL]

structure Held (locO locA locW ver : Nat) (rows : List (List DV)) (σ : List AObj) : Prop where
  o : σ[locO]? = some (.row 43 [.own locA ver 2 0 rows.length])
  a : σ[locA]? = some (.arr 47 2 ver rows)
  w : σ[locW]? = some (.row 107 [.clo (.func 57) [] [.ptr locO 0 0, .ptr locW 0 0]])
def Walked (locO locA locW : Nat) (rows : List (List DV)) (v : AV) (σ : List AObj) : Prop := v = .tup [] ∧ ∃ ver, Held locO locA locW ver rows σ

set_option maxRecDepth 100000 in
set_option maxHeartbeats 4000000 in
theorem walk57 : ∀ (p : Pat) (path : List Int) (rows : List (List DV)) (σ0 : List AObj) (locO locA locW ver : Nat), massP p + path.length ≤ 10000000 → rows.length + massP p ≤ 10000000 → locO ≠ locA → locO ≠ locW → locA ≠ locW → Held locO locA locW ver rows σ0 →
    Runs Try.prog 57 [.d (.agg (patD p)), .d (intsD path), .ptr locO 0 0, .ptr locW 0 0] σ0 (Walked locO locA locW (rows ++ (bindsF p path).map bindD)) := by
  refine rec_pat fun pk pn pi ps pa pb pc l ih path rows σ0 locO locA locW ver hm hr nOA nOW nAW hH => ?_
  obtain ⟨hO, hA, hW⟩ := hH
  have e1 := patR_len l
  have e2 : (path.map intRow).length = path.length := by simp
  simp only [massP] at hm hr
  have hml := massL_len l
  have hcl := fun σ => cloneI_o (path.map intRow) σ (by omega)
  simp only [bindsF]
  refine enter 39 Try.func57 rfl (by kernel_rfl) rfl rfl rfl ?_
  by_cases h1 : pk = 1
  · rw [if_pos h1]
    repeat' (first | refine s_op rfl ?_ | (apply s_move; (iterate 4 (exact rfl))) | (apply s_fa_f tab_ok; (iterate 6 (exact rfl))) | (apply s_ld_f tab_ok; (iterate 6 (exact rfl))) | (apply s_assign; (iterate 4 (exact rfl))) | (apply s_boxZ; (iterate 5 (exact rfl)); first | exact rfl | exact allD_mapd _) | (apply s_lit tab_ok tabZ_ok; (iterate 10 (exact rfl))) | (apply s_eql_t; (iterate 5 (exact rfl)); omega) | (apply s_ldF tab_ok; (iterate 5 (exact rfl)); (first | exact hO | exact hX); exact rfl) | (apply s_callS; (iterate 6 (exact rfl)); exact hcl _; rintro _ σ ⟨locC, verC, rfl, hc⟩; have hC := hc.at'; have nOC := hc.ne hO; have nAC := hc.ne hA; have nWC := hc.ne hW; replace hO := hc.keep hO; replace hA := hc.keep hA; replace hW := hc.keep hW; clear hc) | (refine o_freezeF 16 rfl hC (by simp) ?_; intro σ hc; replace hO := hc.keep (by first | assumption | (apply Ne.symm; assumption) | omega) hO; replace hA := hc.keep (by first | assumption | (apply Ne.symm; assumption) | omega) hA; replace hW := hc.keep (by first | assumption | (apply Ne.symm; assumption) | omega) hW; clear hc hC) | (apply s_build tabZ_ok; (iterate 5 (exact rfl))) | (apply s_appF tab_ok tabZ_ok (rows2 := [bindD ⟨pn, path⟩]) (rows3 := rows ++ [bindD ⟨pn, path⟩]) (m := (rows ++ [bindD ⟨pn, path⟩]).length); (iterate 10 (exact rfl)); exact hA; exact src_of (Tab.slIs tab_ok (t := 43) rfl) (rows_d rfl); exact rfl; (simp; omega); intro σ hc; replace hA := hc.at'; replace hO := hc.keep (by first | assumption | (apply Ne.symm; assumption) | omega) hO; replace hW := hc.keep (by first | assumption | (apply Ne.symm; assumption) | omega) hW; clear hc) | (apply s_storeF tab_ok; (iterate 7 (exact rfl)); exact hO; (iterate 2 (exact rfl)); intro σ hc; replace hO := hc.at'; replace hA := hc.keep (by first | assumption | (apply Ne.symm; assumption) | omega) hA; replace hW := hc.keep (by first | assumption | (apply Ne.symm; assumption) | omega) hW; clear hc) | refine al_nil ?_ | refine q_then_n ?_ | refine q_blk_n ?_ | refine aw_block ?_ | refine aw_seq ?_ | refine aw_reg ?_ | refine aw_true rfl ?_ | refine al_fork ?_ ?_ | refine al_fork3 ?_ ?_ ?_ | refine aw_draws (id := 3) (trO [1, 3] (.fork3 0 (.fork 2 (trO [4, 5, 6, 7, 8] .nil) 4 (trO [2, 5, 6, 7, 8] .nil)) 2 (.fork 0 (trO [4, 5, 6, 7, 8] .nil) 4 (trO [5] (.fork 0 (trO [6, 7, 8] .nil) 6 (trO [0, 7, 8] .nil)))) 4 (.fork 0 (trO [2, 5, 6, 7, 8] .nil) 2 (trO [5] (.fork 0 (trO [6, 7, 8] .nil) 6 (trO [0, 7, 8] .nil)))))) [0, 2, 4, 6, 7, 8] [4, 7, 8] mixed_ok (by kernel_rfl) ?_)
    all_goals exact q_end rfl ⟨rfl, _, hO, hA, hW⟩
  · rw [if_neg h1]
    by_cases h5 : pk = 5
    · rw [if_pos h5]
      repeat' (first | refine s_op rfl ?_ | (apply s_move; (iterate 4 (exact rfl))) | (apply s_fa_f tab_ok; (iterate 6 (exact rfl))) | (apply s_ld_f tab_ok; (iterate 6 (exact rfl))) | (apply s_assign; (iterate 4 (exact rfl))) | (apply s_len tab_ok; (iterate 5 (exact rfl))) | (apply s_boxZ; (iterate 5 (exact rfl)); first | exact rfl | exact allD_mapd _) | (apply s_eql_t; (iterate 5 (exact rfl)); omega) | (apply s_eql_f; (iterate 5 (exact rfl)); omega) | refine al_nil ?_ | refine q_then_n ?_ | refine aw_block ?_ | refine aw_seq ?_ | refine aw_reg ?_ | refine aw_true rfl ?_ | refine aw_false rfl ?_)
      refine w_loop [1, 2, 3, 23, 24, 25] (fun n0 vs σ => ∃ k ver : Nat, vs = [.d (intsD path), .ptr locO 0 0, .ptr locW 0 0, .d (patsD l), .d (.v (.int .i64 ((patR l).length : Int))), .d (.v (.int .i64 (k : Int)))] ∧ Held locO locA locW ver (rows ++ (bindsL (l.take k) path 0).map bindD) σ ∧ k ≤ l.length ∧ n0 = l.length - k) rfl ⟨0, ver, rfl, ⟨by simpa [bindsL] using hO, by simpa [bindsL] using hA, hW⟩, by omega, rfl⟩ ?_
      clear hO hA hW
      rintro n0 vs σ ⟨k, ver, rfl, ⟨hO, hA, hW⟩, hk, rfl⟩ fr hfr
      cases hfr
      have hbl := bindsL_len (l.take k) path 0
      by_cases hlt : k < l.length
      · obtain ⟨⟨qk, qn, qi, qs, qa, qb, qc, ql⟩, hq⟩ := getS hlt
        have hqm := massL_mem (List.mem_of_getElem? hq)
        have hmt := massL_take hq
        have hmt2 : massL (l.take (k + 1)) ≤ massL l := by
          have := massL_append (l.take (k + 1)) (l.drop (k + 1))
          rw [List.take_append_drop] at this; omega
        have hi := fun {σ : List AObj} h => ih (.mk qk qn qi qs qa qb qc ql) (List.mem_of_getElem? hq) (path ++ [(k : Int)]) (rows ++ (bindsL (l.take k) path 0).map bindD) σ locO locA locW ver (by simp only [List.length_append, List.length_cons, List.length_nil]; omega) (by simp only [List.length_append, List.length_map]; omega) nOA nOW nAW h
        have ht := binds_take (path := path) hq
        repeat' (first | refine s_op rfl ?_ | (apply s_move; (iterate 4 (exact rfl))) | (apply s_ld_f tab_ok; (iterate 6 (exact rfl))) | (apply s_assign; (iterate 4 (exact rfl))) | (apply s_idx tab_ok; (iterate 7 (exact rfl)); (first | exact patR_get (by assumption) | exact valR_get (by assumption) | exact row_map (by assumption) | exact brR_get (by assumption) | exact treeR_get (by assumption) | exact facts_get (by assumption) | assumption)) | (apply s_lss_t; (iterate 5 (exact rfl)); omega) | (refine w_mid (c := .region 7 _ _) (fun fr σ => ∃ locX, getO [1, 2, 3, 6, 7, 23, 24, 25] fr = some [.d (intsD path), .ptr locO 0 0, .ptr locW 0 0, .d (.v (.int .i64 (k : Int))), .ptr locX 0 0, .d (patsD l), .d (.v (.int .i64 ((patR l).length : Int))), .d (.v (.int .i64 (k : Int)))] ∧ σ[locX]? = some (.row 41 ((patD (.mk qk qn qi qs qa qb qc ql)).map .d)) ∧ Held locO locA locW ver (rows ++ (bindsL (l.take k) path 0).map bindD) σ ∧ locO ≠ locX ∧ locA ≠ locX ∧ locW ≠ locX) ?_ ?_) | (apply s_allocF tabZ_ok (d := 7); (iterate 6 (exact rfl)); intro locX σ hc; have hX := hc.at'; have nOX := hc.ne hO; replace hO := hc.keep hO; have nAX := hc.ne hA; replace hA := hc.keep hA; have nWX := hc.ne hW; replace hW := hc.keep hW; clear hc) | (apply s_storeF tab_ok; (iterate 7 (exact rfl)); exact hX; (iterate 2 (exact rfl)); intro σ hc; replace hX := hc.at'; replace hO := hc.keep (by first | assumption | (apply Ne.symm; assumption) | omega) hO; replace hA := hc.keep (by first | assumption | (apply Ne.symm; assumption) | omega) hA; replace hW := hc.keep (by first | assumption | (apply Ne.symm; assumption) | omega) hW; clear hc) | refine al_nil ?_ | refine q_then_n ?_ | refine aw_block ?_ | refine aw_seq ?_ | refine aw_reg ?_ | refine aw_true rfl ?_ | refine aw_skip ?_)
        all_goals first | exact ⟨rfl, _, rfl, hX, ⟨hO, hA, hW⟩, nOX, nAX, nWX⟩ | skip
        clear hO hA hW
        rintro fr σ ⟨locX, hv, hX, ⟨hO, hA, hW⟩, nOX, nAX, nWX⟩
        refine w_keep [1, 2, 3, 6, 7, 23, 24, 25] hv rfl ?_
        clear hv
        refine w_end (fun fr σ => ∃ ver', getO [1, 2, 3, 23, 24, 25] fr = some [.d (intsD path), .ptr locO 0 0, .ptr locW 0 0, .d (patsD l), .d (.v (.int .i64 ((patR l).length : Int))), .d (.v (.int .i64 (k : Int)))] ∧ Held locO locA locW ver' ((rows ++ (bindsL (l.take k) path 0).map bindD) ++ (bindsF (.mk qk qn qi qs qa qb qc ql) (path ++ [(k : Int)])).map bindD) σ) ?_ ?_
        · refine aw_drawsQ (id := 8) (trO [2, 4] (.fork4 0 (.fork3 1 (.fork 3 (trO [5, 6, 7] .nil) 5 (trO [3, 6, 7] .nil)) 3 (.fork 1 (trO [5, 6, 7] .nil) 5 (.fork 1 (trO [6, 7] .nil) 6 (trO [1, 7] .nil))) 5 (.fork 1 (trO [3, 6, 7] .nil) 3 (.fork 1 (trO [6, 7] .nil) 6 (trO [1, 7] .nil)))) 1 (.fork3 0 (.fork 3 (trO [5, 6, 7] .nil) 5 (trO [3, 6, 7] .nil)) 3 (.fork 0 (trO [5, 6, 7] .nil) 5 (.fork 0 (trO [6, 7] .nil) 6 (trO [0, 7] .nil))) 5 (.fork 0 (trO [3, 6, 7] .nil) 3 (.fork 0 (trO [6, 7] .nil) 6 (trO [0, 7] .nil)))) 3 (.fork3 0 (.fork 1 (trO [5, 6, 7] .nil) 5 (.fork 1 (trO [6, 7] .nil) 6 (trO [1, 7] .nil))) 1 (.fork 0 (trO [5, 6, 7] .nil) 5 (.fork 0 (trO [6, 7] .nil) 6 (trO [0, 7] .nil))) 5 (.fork3 0 (.fork 1 (trO [6, 7] .nil) 6 (trO [1, 7] .nil)) 1 (.fork 0 (trO [6, 7] .nil) 6 (trO [0, 7] .nil)) 6 (.fork 0 (trO [1, 7] .nil) 1 (trO [0, 7] .nil)))) 5 (.fork3 0 (.fork 1 (trO [3, 6, 7] .nil) 3 (.fork 1 (trO [6, 7] .nil) 6 (trO [1, 7] .nil))) 1 (.fork 0 (trO [3, 6, 7] .nil) 3 (.fork 0 (trO [6, 7] .nil) 6 (trO [0, 7] .nil))) 3 (.fork3 0 (.fork 1 (trO [6, 7] .nil) 6 (trO [1, 7] .nil)) 1 (.fork 0 (trO [6, 7] .nil) 6 (trO [0, 7] .nil)) 6 (.fork 0 (trO [1, 7] .nil) 1 (trO [0, 7] .nil)))))) [0, 1, 3, 5, 6, 7] [3, 6, 7] mixed_ok (by kernel_rfl) ?_
          intro Qv hQv
          repeat' (first | refine s_op rfl ?_ | (apply s_move; (iterate 4 (exact rfl))) | (apply s_ldF tab_ok; (iterate 5 (exact rfl)); exact hX; exact rfl) | (apply s_ldF tabF_ok; (iterate 5 (exact rfl)); exact hW; exact rfl) | (apply s_lit tab_ok tabZ_ok; (iterate 10 (exact rfl))) | (apply s_callS; (iterate 6 (exact rfl)); exact hcl _; rintro _ σ ⟨locC, verC, rfl, hc⟩; have hC := hc.at'; have nOC := hc.ne hO; have nAC := hc.ne hA; have nWC := hc.ne hW; have nXC := hc.ne hX; replace hO := hc.keep hO; replace hA := hc.keep hA; replace hW := hc.keep hW; replace hX := hc.keep hX; clear hc) | (apply s_appF tab_ok tabZ_ok (rows2 := [intRow (k : Int)]) (rows3 := (path ++ [(k : Int)]).map intRow) (m := ((path ++ [(k : Int)]).map intRow).length); (iterate 10 (exact rfl)); exact hC; exact src_of (Tab.slIs tab_ok (t := 29) rfl) (rows_d rfl); (simp); (simp; omega); intro σ hc; replace hC := hc.at'; replace hO := hc.keep (by first | assumption | (apply Ne.symm; assumption) | omega) hO; replace hA := hc.keep (by first | assumption | (apply Ne.symm; assumption) | omega) hA; replace hW := hc.keep (by first | assumption | (apply Ne.symm; assumption) | omega) hW; replace hX := hc.keep (by first | assumption | (apply Ne.symm; assumption) | omega) hX; clear hc) | (refine o_freezeF 36 rfl hC (by simp) ?_; intro σ hc; replace hO := hc.keep (by first | assumption | (apply Ne.symm; assumption) | omega) hO; replace hA := hc.keep (by first | assumption | (apply Ne.symm; assumption) | omega) hA; replace hW := hc.keep (by first | assumption | (apply Ne.symm; assumption) | omega) hW; replace hX := hc.keep (by first | assumption | (apply Ne.symm; assumption) | omega) hX; clear hc hC) | (apply s_callS; (iterate 6 (exact rfl)); exact hi ⟨hO, hA, hW⟩; rintro _ σ ⟨rfl, ver', hO', hA', hW'⟩; clear hO hA hW hX; have hO := hO'; have hA := hA'; have hW := hW'; clear hO' hA' hW') | refine al_nil ?_ | refine al_fork ?_ ?_ | refine al_fork3 ?_ ?_ ?_ | refine al_fork4 ?_ ?_ ?_ ?_)
          all_goals (refine q_abs hQv ?_; clear hQv Qv)
          all_goals exact ⟨rfl, _, rfl, hO, hA, hW⟩
        clear hO hA hW hX
        rintro fr σ ⟨ver', hv, hO, hA, hW⟩
        repeat' (first | refine q_then_n ?_ | refine q_blk_n ?_)
        refine w_keep [1, 2, 3, 23, 24, 25] hv rfl ?_
        clear hv
        repeat' (first | refine s_op rfl ?_ | (apply s_move; (iterate 4 (exact rfl))) | (apply s_add64; (iterate 5 (exact rfl)); omega) | refine al_nil ?_ | refine q_then_n ?_ | refine aw_reg ?_)
        all_goals exact ⟨_, _, rfl, by omega, k + 1, ver', rfl, by rw [ht, List.map_append, ← List.append_assoc]; exact ⟨hO, hA, hW⟩, by omega, rfl⟩
      · rw [List.take_of_length_le (by omega)] at hO hA
        repeat' (first | refine s_op rfl ?_ | (apply s_lss_f; (iterate 5 (exact rfl)); omega) | refine al_nil ?_ | refine q_then_n ?_ | refine q_blk_n ?_ | refine q_blk_e ?_ | refine q_then_e ?_ | refine aw_exit ?_ | refine aw_seq ?_ | refine aw_reg ?_ | refine aw_false rfl ?_)
        all_goals exact q_end rfl ⟨rfl, _, hO, hA, hW⟩
    · rw [if_neg h5]
      repeat' (first | refine s_op rfl ?_ | (apply s_fa_f tab_ok; (iterate 6 (exact rfl))) | (apply s_ld_f tab_ok; (iterate 6 (exact rfl))) | (apply s_assign; (iterate 4 (exact rfl))) | (apply s_boxZ; (iterate 5 (exact rfl)); first | exact rfl | exact allD_mapd _) | (apply s_eql_f; (iterate 5 (exact rfl)); omega) | refine al_nil ?_ | refine q_then_n ?_ | refine q_blk_n ?_ | refine aw_block ?_ | refine aw_seq ?_ | refine aw_reg ?_ | refine aw_false rfl ?_ | refine aw_skip ?_)
      all_goals exact q_end rfl ⟨rfl, _, by simpa using hO, by simpa using hA, hW⟩

set_option maxRecDepth 100000 in
set_option maxHeartbeats 4000000 in
theorem Binds_c (p : Pat) (hm : massP p ≤ 1000000) : RunsP Try.prog 18 [.agg (patD p)] (fun v => v = .lst 2 ((bindsF p []).map bindD)) := by
  refine RunsP.ofOwn ?_
  obtain ⟨pk, pn, pi, ps, pa, pb, pc, l⟩ := p
  have hw := fun σ0 locO locA locW h1 h2 h3 h => (walk57 (.mk pk pn pi ps pa pb pc l) [] [] σ0 locO locA locW 0 (by simp; omega) (by simp; omega) h1 h2 h3 h).wk (args' := [.d (.agg (patD (.mk pk pn pi ps pa pb pc l))), .d .nil, .ptr locO 0 0, .ptr locW 0 0]) fun x us h => by
    obtain ⟨u0, us0, rfl, r0, u1, us1, rfl, r1, r2⟩ := h
    exact ⟨u0, _, rfl, r0, u1, _, rfl, Wk.nil 1 _ _ r1, r2⟩
  refine enter 10 Try.func18 rfl (by kernel_rfl) rfl rfl rfl ?_
  repeat' (first | refine s_op rfl ?_ | (apply s_assign; (iterate 4 (exact rfl))) | (apply s_mkf; (iterate 4 (exact rfl))) | (apply s_boxZ; (iterate 5 (exact rfl)); first | exact rfl | exact allD_mapd _) | (apply s_allocF tabZ_ok (d := 3); (iterate 6 (exact rfl)); intro locO σ hc; have hO := hc.at'; clear hc) | (apply s_allocF tabFZ_ok (d := 4); (iterate 6 (exact rfl)); intro locW σ hc; have hW := hc.at'; have nOW := hc.ne hO; replace hO := hc.keep hO; clear hc) | (apply s_storeF tabF_ok; (iterate 7 (exact rfl)); exact hW; (iterate 2 (exact rfl)); intro σ hc; replace hW := hc.at'; replace hO := hc.keep (by first | assumption | (apply Ne.symm; assumption) | omega) hO; clear hc) | refine al_nil ?_ | refine q_then_n ?_ | refine aw_seq ?_ | refine aw_reg ?_)
  refine o_adoptC locO 0 47 2 hO rfl ?_
  intro locA σ hc
  have hA := hc.arr
  have nOA := hc.ne
  have nWA := hc.fresh _ _ hW
  have hW' : σ[locW]? = some (.row 107 [.clo (.func 57) [] [.ptr locO 0 0, .ptr locW 0 0]]) := hc.keep (by first | assumption | (apply Ne.symm; assumption)) hW
  clear hW
  have hO' := hc.row
  clear hc hO
  have hcall := hw σ locO locA locW (by first | assumption | (apply Ne.symm; assumption)) (by first | assumption | (apply Ne.symm; assumption)) (by first | assumption | (apply Ne.symm; assumption)) ⟨hO', hA, hW'⟩
  clear hw
  repeat' (first | refine s_op rfl ?_ | (apply s_ld_f tab_ok; (iterate 6 (exact rfl))) | (apply s_assign; (iterate 4 (exact rfl))) | (apply s_ldF tabF_ok; (iterate 5 (exact rfl)); exact hW'; exact rfl) | (apply s_callS; (iterate 6 (exact rfl)); exact hcall; rintro _ σ ⟨rfl, ver', hO2, hA2, hW2⟩; clear hO' hA hW') | (apply s_ldF tab_ok; (iterate 5 (exact rfl)); exact hO2; exact rfl) | refine al_nil ?_ | refine q_then_n ?_ | refine aw_seq ?_ | refine aw_reg ?_ | refine aw_ret ?_)
  exact q_ret rfl ⟨locA, ver', 47, rfl, hA2⟩
end Go.Proofs.Ytjflembhgjcgkaa
