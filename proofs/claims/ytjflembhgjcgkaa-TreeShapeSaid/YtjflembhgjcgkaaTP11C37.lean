/- C37: build, of the tree. -/
import Derived.Test.YtjflembhgjcgkaaTP11C36
import Derived.Test.YtjflembhgjcgkaaTP11XM10CZM12
set_option linter.unusedSimpArgs false
set_option linter.unusedVariables false
namespace Go.Proofs.Ytjflembhgjcgkaa
open Go.RowKit

theorem casesF_len {g : Sg} (hs : g.Small) {M : Nat} (hM : M ≤ 100000) {rows : List RowT} (hr : RowsM g M rows) (path : List Int) (p : Pat) : (casesF g rows path p).length ≤ 10000000000 := by
  unfold casesF
  split
  · rw [List.length_map]
    unfold Sg.consOf Sg.dat
    split
    · rename_i d hd
      split at hd
      · have := hs.each d (List.mem_of_getElem? hd); omega
      · cases hd
    · simp
  · have h1 := outC_len path (fun r hr' => Nat.le_trans (hr.asks r hr') hM) rows.length (Nat.le_refl _)
    unfold outC at h1
    rw [List.take_length] at h1
    have := hr.len
    have : rows.length * 100000 ≤ 100000 * 100000 := Nat.mul_le_mul_right _ (by omega)
    omega
theorem buildF_bd {g : Sg} (hs : g.Small) {M : Nat} (hM : M ≤ 100000) : ∀ (f : Nat) (left : Int) (rows : List RowT), RowsM g M rows → 1 ≤ left → -(1 + (f : Int) * 20000000000) ≤ (buildF g f left rows).2 ∧ (buildF g f left rows).2 ≤ left - 1
  | 0, left, rows, hr, h => by simp only [buildF]; omega
  | f + 1, left, rows, hr, h => by
    unfold buildF
    split
    · omega
    · split
      · simp only; omega
      · rename_i r rest
        split
        · simp only; omega
        · rename_i a asks ha
          have hl := casesF_len hs hM hr a.path a.p
          have hF : ∀ left s, (left ≤ 0 → (buildF g f left (narrowF (r :: rest) a.path s)).2 = left - 1) ∧ (1 ≤ left → -(1 + (f : Int) * 20000000000) ≤ (buildF g f left (narrowF (r :: rest) a.path s)).2 ∧ (buildF g f left (narrowF (r :: rest) a.path s)).2 ≤ left - 1) :=
            fun left s => ⟨fun h => (buildF_low h).1, fun h => buildF_bd hs hM f left _ (hr.narrow s) h⟩
          have hb := (branchesF_bd (K := 1 + (f : Int) * 20000000000) (by omega) hF (casesF g (r :: rest) a.path a.p) (left - 1)).2 (by omega)
          simp only
          split
          · simp only; omega
          · simp only
            generalize (branchesF (fun left p => buildF g f left (narrowF (r :: rest) a.path p)) (casesF g (r :: rest) a.path a.p) (left - 1)).2 = lb at hb ⊢
            have h3 := hF lb none
            by_cases h0 : lb ≤ 0
            · have := h3.1 h0; omega
            · have := h3.2 (by omega); omega

theorem branchesF_len (F : Int → Option Pat → TreeT × Int) : ∀ (l : List Pat) (left : Int), (branchesF F l left).1.length = l.length
  | [], _ => rfl
  | p :: l, left => by simp [branchesF, branchesF_len F l]
theorem asD_own {σ : List AObj} {l U sz ver : Nat} {rows : List (List DV)} (h : σ[l]? = some (.arr U sz ver rows)) : asD σ (.own l ver sz 0 rows.length) l (.lst sz rows) := ⟨rfl, U, rows, h, by simp, by omega⟩
/-- What building answers. -/
def BuiltR (g : Sg) (locB : Nat) (r : TreeT × Int) (σ0 : List AObj) (v : AV) (σ' : List AObj) : Prop :=
  v = .d (.agg (treeD r.1)) ∧ σ'[locB]? = some (.row 101 (bldV g r.2)) ∧ KeptP (· ≠ locB) σ0 σ'
def BuiltW (g : Sg) (locB : Nat) (r : TreeT × Int) (σ0 : List AObj) (v : AV) (σ' : List AObj) : Prop :=
  ∃ x, v = .d x ∧ Wk x (.agg (treeD r.1)) ∧ σ'[locB]? = some (.row 101 (bldV g r.2)) ∧ KeptP (· ≠ locB) σ0 σ'
theorem wk_bare (k n : Int) : Wk (.agg [.v (.int .u8 k), .v (.int .i64 n), .nil, .nil, .nil]) (.agg (treeD (bare k n [] [] []))) :=
  Wk.agg ⟨Wk.refl _, Wk.refl _, Wk.nil 1, Wk.nil 9, Wk.nil 5, trivial⟩

section
variable {g : Sg} {rows : List RowT} {left : Int} {σ0 : List AObj} {locB : Nat}

set_option maxRecDepth 100000 in
set_option maxHeartbeats 8000000 in
theorem build_low (h0 : left ≤ 0) (h1 : -1000000000000000000 ≤ left) (hB : σ0[locB]? = some (.row 101 (bldV g left))) :
    Runs Try.prog 55 [.ptr locB 0 0, .d (rowsTD rows)] σ0 (BuiltW g locB (bare 0 0 [] [] [], left - 1) σ0) := by
  have hK := KeptP.refl (· ≠ locB) σ0
  have oB : OutP (· ≠ locB) σ0 locB := fun o h => absurd rfl h
  refine enterB 97 tab_ok Try.func55 rfl (by kernel_rfl) rfl rfl rfl ?_
  repeat' (first | refine s_op rfl ?_ | (apply s_move; (iterate 4 (exact rfl))) | (apply s_fa_p tab_ok; (iterate 5 (exact rfl))) | (apply s_nilc; (iterate 5 (exact rfl))) | (apply s_build tabZ_ok; (iterate 5 (exact rfl))) | (apply s_lss_t; (iterate 5 (exact rfl)); omega) | (apply s_sub64; (iterate 5 (exact rfl)); omega) | (apply s_allocF tabZ_ok (d := 4); (iterate 6 (exact rfl)); intro locR σ hc; have hR := hc.at'; have nBR := hc.ne hB; replace hB := hc.keep hB; have oR := hK.out hc; replace hK := hK.fresh hc; clear hc) | (apply s_storeF tab_ok; (iterate 7 (exact rfl)); exact hB; (iterate 2 (exact rfl)); intro σ hc; replace hB := hc.at'; replace hR := hc.keep (by first | assumption | (apply Ne.symm; assumption) | omega) hR; replace hK := hK.chg oB hc; clear hc) | (apply s_storeF tab_ok; (iterate 7 (exact rfl)); exact hR; (iterate 2 (exact rfl)); intro σ hc; replace hR := hc.at'; replace hB := hc.keep (by first | assumption | (apply Ne.symm; assumption) | omega) hB; replace hK := hK.chg oR hc; clear hc) | (apply s_ldF tab_ok; (iterate 5 (exact rfl)); (first | exact hB | exact hT | exact hX | exact hR); exact rfl) | refine al_nil ?_ | refine q_then_n ?_ | refine q_then_r ?_ | refine aw_seq ?_ | refine aw_reg ?_ | refine aw_true rfl ?_ | refine aw_ret ?_)
  all_goals exact q_retB (resB_1 rfl (resV_c (t := 33) rfl rfl hR rfl)) ⟨_, rfl, wk_bare 0 0, hB, hK⟩

set_option maxRecDepth 100000 in
set_option maxHeartbeats 8000000 in
theorem build_none (h0 : 1 ≤ left) (h1 : left ≤ 1000000) (hB : σ0[locB]? = some (.row 101 (bldV g left))) :
    Runs Try.prog 55 [.ptr locB 0 0, .d (rowsTD [])] σ0 (BuiltW g locB (bare 1 0 [] [] [], left - 1) σ0) := by
  have hK := KeptP.refl (· ≠ locB) σ0
  have oB : OutP (· ≠ locB) σ0 locB := fun o h => absurd rfl h
  have e1 : (([] : List RowT).map rowTD).length = 0 := rfl
  refine enterB 97 tab_ok Try.func55 rfl (by kernel_rfl) rfl rfl rfl ?_
  repeat' (first | refine s_op rfl ?_ | (apply s_move; (iterate 4 (exact rfl))) | (apply s_fa_p tab_ok; (iterate 5 (exact rfl))) | (apply s_len tab_ok; (iterate 5 (exact rfl))) | (apply s_nilc; (iterate 5 (exact rfl))) | (apply s_build tabZ_ok; (iterate 5 (exact rfl))) | (apply s_eql_t; (iterate 5 (exact rfl)); omega) | (apply s_lss_f; (iterate 5 (exact rfl)); omega) | (apply s_sub64; (iterate 5 (exact rfl)); omega) | (apply s_allocF tabZ_ok (d := 4); (iterate 6 (exact rfl)); intro locR σ hc; have hR := hc.at'; have nBR := hc.ne hB; replace hB := hc.keep hB; have oR := hK.out hc; replace hK := hK.fresh hc; clear hc) | (apply s_storeF tab_ok; (iterate 7 (exact rfl)); exact hB; (iterate 2 (exact rfl)); intro σ hc; replace hB := hc.at'; replace hR := hc.keep (by first | assumption | (apply Ne.symm; assumption) | omega) hR; replace hK := hK.chg oB hc; clear hc) | (apply s_storeF tab_ok; (iterate 7 (exact rfl)); exact hR; (iterate 2 (exact rfl)); intro σ hc; replace hR := hc.at'; replace hB := hc.keep (by first | assumption | (apply Ne.symm; assumption) | omega) hB; replace hK := hK.chg oR hc; clear hc) | (apply s_ldF tab_ok; (iterate 5 (exact rfl)); (first | exact hB | exact hT | exact hX | exact hR); exact rfl) | refine al_nil ?_ | refine q_then_n ?_ | refine q_then_r ?_ | refine aw_seq ?_ | refine aw_reg ?_ | refine aw_true rfl ?_ | refine aw_false rfl ?_ | refine aw_skip ?_ | refine aw_ret ?_)
  all_goals exact q_retB (resB_1 rfl (resV_c (t := 33) rfl rfl hR rfl)) ⟨_, rfl, wk_bare 1 0, hB, hK⟩

set_option maxRecDepth 100000 in
set_option maxHeartbeats 8000000 in
theorem build_arm {rn : Int} {rest : List RowT} (hl : rest.length ≤ 1000000) (h0 : 1 ≤ left) (h1 : left ≤ 1000000) (hB : σ0[locB]? = some (.row 101 (bldV g left))) :
    Runs Try.prog 55 [.ptr locB 0 0, .d (rowsTD (⟨[], rn⟩ :: rest))] σ0 (BuiltW g locB (bare 2 rn [] [] [], left - 1) σ0) := by
  have hK := KeptP.refl (· ≠ locB) σ0
  have oB : OutP (· ≠ locB) σ0 locB := fun o h => absurd rfl h
  have e1 : ((⟨[], rn⟩ :: rest : List RowT).map rowTD).length = rest.length + 1 := by simp
  have e2 : ((RowT.asks ⟨[], rn⟩).map askD).length = 0 := rfl
  refine enterB 97 tab_ok Try.func55 rfl (by kernel_rfl) rfl rfl rfl ?_
  repeat' (first | refine s_op rfl ?_ | (apply s_move; (iterate 4 (exact rfl))) | (apply s_fa_p tab_ok; (iterate 5 (exact rfl))) | (apply s_fa_f tab_ok; (iterate 6 (exact rfl))) | (apply s_ld_f tab_ok; (iterate 6 (exact rfl))) | (apply s_len tab_ok; (iterate 5 (exact rfl))) | (apply s_nilc; (iterate 5 (exact rfl))) | (apply s_build tabZ_ok; (iterate 5 (exact rfl))) | (apply s_eql_t; (iterate 5 (exact rfl)); omega) | (apply s_eql_f; (iterate 5 (exact rfl)); omega) | (apply s_lss_f; (iterate 5 (exact rfl)); omega) | (apply s_sub64; (iterate 5 (exact rfl)); omega) | (apply s_allocF tabZ_ok (d := 4); (iterate 6 (exact rfl)); intro locR σ hc; have hR := hc.at'; have nBR := hc.ne hB; replace hB := hc.keep hB; have oR := hK.out hc; replace hK := hK.fresh hc; clear hc) | (apply s_storeF tab_ok; (iterate 7 (exact rfl)); exact hB; (iterate 2 (exact rfl)); intro σ hc; replace hB := hc.at'; replace hR := hc.keep (by first | assumption | (apply Ne.symm; assumption) | omega) hR; replace hK := hK.chg oB hc; clear hc) | (apply s_storeF tab_ok; (iterate 7 (exact rfl)); exact hR; (iterate 2 (exact rfl)); intro σ hc; replace hR := hc.at'; replace hB := hc.keep (by first | assumption | (apply Ne.symm; assumption) | omega) hB; replace hK := hK.chg oR hc; clear hc) | (apply s_ldF tab_ok; (iterate 5 (exact rfl)); (first | exact hB | exact hT | exact hX | exact hR); exact rfl) | (apply s_idx tab_ok (row := rowTD ⟨[], rn⟩); (iterate 7 (exact rfl)); exact rfl) | refine al_nil ?_ | refine q_then_n ?_ | refine q_then_r ?_ | refine aw_seq ?_ | refine aw_reg ?_ | refine aw_true rfl ?_ | refine aw_false rfl ?_ | refine aw_skip ?_ | refine aw_ret ?_)
  all_goals exact q_retB (resB_1 rfl (resV_c (t := 33) rfl rfl hR rfl)) ⟨_, rfl, wk_bare 2 rn, hB, hK⟩

set_option maxRecDepth 100000 in
set_option maxHeartbeats 16000000 in
theorem build_look (F : Int → Option Pat → TreeT × Int) (cs : List Pat) {path : List Int} {ak an ai : Int} {as' : ByteArray} {aa ab ac : Int} {al : List Pat} {asks : List AskT} {rn : Int} {rest : List RowT} (h0 : 1 ≤ left) (h1 : left ≤ 1000000) (hB : σ0[locB]? = some (.row 101 (bldV g left)))
    (hl : rest.length ≤ 1000000) (hla : asks.length ≤ 1000000) (hp : path.length ≤ 1000000) (hcl0 : cs.length ≤ 10000000000)
    (hcs : ∀ {σ : List AObj}, σ[locB]? = some (.row 101 (bldV g (left - 1))) → Runs Try.prog 85 [.ptr locB 0 0, .d (rowsTD (⟨⟨path, .mk ak an ai as' aa ab ac al⟩ :: asks, rn⟩ :: rest)), .d (intsD path), .d (.agg (patD (.mk ak an ai as' aa ab ac al)))] σ (fun v σ' => v = .d (patsD cs) ∧ KeptP (fun _ => True) σ σ'))
    (hnar : ∀ s : Option Pat, RunsP Try.prog 86 [rowsTD (⟨⟨path, .mk ak an ai as' aa ab ac al⟩ :: asks, rn⟩ :: rest), intsD path, patsD s.toList] (fun v => v = rowsTD (narrowF (⟨⟨path, .mk ak an ai as' aa ab ac al⟩ :: asks, rn⟩ :: rest) path s)))
    (hrec : ∀ (l : Int) (s : Option Pat) (σ : List AObj), -1000000000000000000 ≤ l → l ≤ left - 1 → σ[locB]? = some (.row 101 (bldV g l)) → Runs Try.prog 55 [.ptr locB 0 0, .d (rowsTD (narrowF (⟨⟨path, .mk ak an ai as' aa ab ac al⟩ :: asks, rn⟩ :: rest) path s))] σ (BuiltR g locB (F l s) σ))
    (hbd : ∀ k, k ≤ cs.length → -1000000000000000000 ≤ (branchesF F (cs.take k) (left - 1)).2 ∧ (branchesF F (cs.take k) (left - 1)).2 ≤ left - 1) :
    Runs Try.prog 55 [.ptr locB 0 0, .d (rowsTD (⟨⟨path, .mk ak an ai as' aa ab ac al⟩ :: asks, rn⟩ :: rest))] σ0
      (BuiltW g locB (if ak = 5 then (bare 3 0 path (branchesF F cs (left - 1)).1 [], (branchesF F cs (left - 1)).2) else (bare 3 0 path (branchesF F cs (left - 1)).1 [(F (branchesF F cs (left - 1)).2 none).1], (F (branchesF F cs (left - 1)).2 none).2)) σ0) := by
  have hK := KeptP.refl (· ≠ locB) σ0
  have oB : OutP (· ≠ locB) σ0 locB := fun o h => absurd rfl h
  have e1 : ((⟨⟨path, .mk ak an ai as' aa ab ac al⟩ :: asks, rn⟩ :: rest : List RowT).map rowTD).length = rest.length + 1 := by simp
  have e2 : ((RowT.asks ⟨⟨path, .mk ak an ai as' aa ab ac al⟩ :: asks, rn⟩).map askD).length = asks.length + 1 := by simp
  have e3 := patR_len cs
  have e4 : (path.map intRow).length = path.length := by simp
  have hcl := fun σ => cloneI_o (path.map intRow) σ (by omega)
  refine enterB 97 tab_ok Try.func55 rfl (by kernel_rfl) rfl rfl rfl ?_
  repeat' (first | refine s_op rfl ?_ | (apply s_move; (iterate 4 (exact rfl))) | (apply s_fa_p tab_ok; (iterate 5 (exact rfl))) | (apply s_fa_f tab_ok; (iterate 6 (exact rfl))) | (apply s_ld_f tab_ok; (iterate 6 (exact rfl))) | (apply s_len tab_ok; (iterate 5 (exact rfl))) | (apply s_nilc; (iterate 5 (exact rfl))) | (apply s_eql_f; (iterate 5 (exact rfl)); omega) | (apply s_lss_f; (iterate 5 (exact rfl)); omega) | (apply s_sub64; (iterate 5 (exact rfl)); omega) | (apply s_allocF tabZ_ok (d := 4); (iterate 6 (exact rfl)); intro locR σ hc; have hR := hc.at'; have nBR := hc.ne hB; replace hB := hc.keep hB; have oR := hK.out hc; replace hK := hK.fresh hc; clear hc) | (apply s_storeF tab_ok; (iterate 7 (exact rfl)); exact hB; (iterate 2 (exact rfl)); intro σ hc; replace hB := hc.at'; replace hR := hc.keep (by first | assumption | (apply Ne.symm; assumption) | omega) hR; replace hK := hK.chg oB hc; clear hc) | (apply s_allocF tabZ_ok (d := 5); (iterate 6 (exact rfl)); intro locX σ hc; have hX := hc.at'; have nBX := hc.ne hB; replace hB := hc.keep hB; have nRX := hc.ne hR; replace hR := hc.keep hR; have oX := hK.out hc; replace hK := hK.fresh hc; clear hc) | (apply s_storeF tab_ok; (iterate 7 (exact rfl)); exact hX; (iterate 2 (exact rfl)); intro σ hc; replace hX := hc.at'; replace hB := hc.keep (by first | assumption | (apply Ne.symm; assumption) | omega) hB; replace hR := hc.keep (by first | assumption | (apply Ne.symm; assumption) | omega) hR; replace hK := hK.chg oX hc; clear hc; refine s_freezeP 5 rfl hX rfl ?_; intro σ hc; replace hB := hc.keep (by first | assumption | (apply Ne.symm; assumption) | omega) hB; replace hR := hc.keep (by first | assumption | (apply Ne.symm; assumption) | omega) hR; replace hK := hK.chg oX hc; clear hc hX oX) | (apply s_allocF tabZ_ok (d := 6); (iterate 6 (exact rfl)); intro locT σ hc; have hT := hc.at'; have nBT := hc.ne hB; replace hB := hc.keep hB; have nRT := hc.ne hR; replace hR := hc.keep hR; have oT := hK.out hc; replace hK := hK.fresh hc; clear hc) | (apply s_storeF tab_ok; (iterate 7 (exact rfl)); exact hT; (iterate 2 (exact rfl)); intro σ hc; replace hT := hc.at'; replace hB := hc.keep (by first | assumption | (apply Ne.symm; assumption) | omega) hB; replace hR := hc.keep (by first | assumption | (apply Ne.symm; assumption) | omega) hR; replace hK := hK.chg oT hc; clear hc) | (apply s_ldF tab_ok; (iterate 5 (exact rfl)); (first | exact hB | exact hT | exact hX | exact hR); exact rfl) | (apply s_callS; (iterate 6 (exact rfl)); exact hcl _; rintro _ σ ⟨locC, verC, rfl, hc⟩; have hC := hc.at'; have nBC := hc.ne hB; have nRC := hc.ne hR; replace hB := hc.keep hB; replace hR := hc.keep hR; have oC := hK.out hc; replace hK := hK.fresh hc; clear hc) | (refine o_freezeF 46 rfl hC (by simp) ?_; intro σ hc; replace hB := hc.keep (by first | assumption | (apply Ne.symm; assumption) | omega) hB; replace hR := hc.keep (by first | assumption | (apply Ne.symm; assumption) | omega) hR; replace hK := hK.chg oC hc; clear hc hC oC) | (apply s_build tabZ_ok; (iterate 5 (exact rfl))) | (apply s_idx tab_ok (row := rowTD ⟨⟨path, .mk ak an ai as' aa ab ac al⟩ :: asks, rn⟩); (iterate 7 (exact rfl)); exact rfl) | (apply s_idx tab_ok (row := askD ⟨path, .mk ak an ai as' aa ab ac al⟩); (iterate 7 (exact rfl)); exact rfl) | (apply s_callS; (iterate 6 (exact rfl)); exact hcs hB; rintro _ σ ⟨rfl, hk⟩; replace hB := hk.all hB; replace hR := hk.all hR; replace hT := hk.all hT; replace hK := hK.trans (hk.of fun _ _ => trivial); clear hk) | refine al_nil ?_ | refine q_then_n ?_ | refine aw_block ?_ | refine aw_seq ?_ | refine aw_reg ?_ | refine aw_false rfl ?_ | refine aw_skip ?_)
  refine w_adoptC locT 3 81 9 hT rfl ?_
  intro locA σ hc
  have hA := hc.arr
  have nAT := hc.ne
  have nBA := hc.fresh _ _ hB
  have nRA := hc.fresh _ _ hR
  have oA := (hK.adopt oT hc).2
  replace hK := (hK.adopt oT hc).1
  replace hB := hc.keep nBT hB
  replace hR := hc.keep nRT hR
  replace hT := hc.row
  clear hc
  refine w_loop [0, 1, 4, 5, 6, 54, 55, 56] (fun n vs σ => ∃ k ver : Nat, vs = [.ptr locB 0 0, .d (rowsTD (⟨⟨path, .mk ak an ai as' aa ab ac al⟩ :: asks, rn⟩ :: rest)), .ptr locR 0 0, .d (.fptr (askD ⟨path, .mk ak an ai as' aa ab ac al⟩)), .ptr locT 0 0, .d (patsD cs), .d (.v (.int .i64 ((patR cs).length : Int))), .d (.v (.int .i64 (k : Int)))] ∧
    σ[locB]? = some (.row 101 (bldV g (branchesF F (cs.take k) (left - 1)).2)) ∧ σ[locR]? = some (.row 33 [.d (.v (.int .u8 0)), .d (.v (.int .i64 0)), .d .nil, .d .nil, .d .nil]) ∧
    σ[locT]? = some (.row 33 [.d (.v (.int .u8 3)), .d (.v (.int .i64 0)), .d (.lst 1 (path.map intRow)), .own locA ver 9 0 (brR (branchesF F (cs.take k) (left - 1)).1).length, .d .nil]) ∧
    σ[locA]? = some (.arr 81 9 ver (brR (branchesF F (cs.take k) (left - 1)).1)) ∧ KeptP (· ≠ locB) σ0 σ ∧ k ≤ cs.length ∧ n = cs.length - k) rfl ⟨0, 0, rfl, hB, hR, hT, hA, hK, by omega, rfl⟩ ?_
  clear hB hR hT hA hK
  rintro n vs σ ⟨k, ver, rfl, hB, hR, hT, hA, hK, hk, rfl⟩ fr hfr
  cases hfr
  have hbk := hbd k hk
  by_cases hlt : k < cs.length
  · obtain ⟨⟨pk, pn, pi, ps, pa, pb, pc, pl⟩, hq⟩ := getS hlt
    have ht : cs.take (k + 1) = cs.take k ++ [.mk pk pn pi ps pa pb pc pl] := by rw [List.take_add_one, hq]; rfl
    have hsn := branchesF_snoc F (cs.take k) (.mk pk pn pi ps pa pb pc pl) (left - 1)
    rw [← ht] at hsn
    have htl : (cs.take k).length = k := by rw [List.length_take]; omega
    have htsl := branchesF_len F (cs.take k) (left - 1)
    generalize branchesF F (cs.take k) (left - 1) = b at hsn hB hT hA hbk htsl
    obtain ⟨ts, lk⟩ := b
    simp only at hsn hB hT hA hbk htsl
    have hr1 := fun {σ : List AObj} => hrec lk (some (.mk pk pn pi ps pa pb pc pl)) σ hbk.1 hbk.2
    have hn1 := hnar (some (.mk pk pn pi ps pa pb pc pl))
    generalize narrowF _ path (some (.mk pk pn pi ps pa pb pc pl)) = nw at hr1 hn1
    generalize F lk (some (.mk pk pn pi ps pa pb pc pl)) = r at hr1 hsn
    obtain ⟨⟨bk, bn, bi, bs, tk, tn, tp, tc, te⟩, lk'⟩ := r
    have hbr : brR ts ++ [brD (.mk pk pn pi ps tk tn tp tc te)] = brR (ts ++ [(TreeT.mk bk bn bi bs tk tn tp tc te).at pk pn pi ps]) := by rw [brR_append]; rfl
    have hbl := brR_len ts
    repeat' (first | refine s_op rfl ?_ | (apply s_move; (iterate 4 (exact rfl))) | (apply s_fa_p tab_ok; (iterate 5 (exact rfl))) | (apply s_fa_f tab_ok; (iterate 6 (exact rfl))) | (apply s_ld_f tab_ok; (iterate 6 (exact rfl))) | (apply s_idx tab_ok; (iterate 7 (exact rfl)); (first | exact patR_get (by assumption) | exact valR_get (by assumption) | exact row_map (by assumption) | assumption)) | (apply s_build tabZ_ok; (iterate 5 (exact rfl))) | (apply s_lit tab_ok tabZ_ok; (iterate 10 (exact rfl))) | (apply s_lss_t; (iterate 5 (exact rfl)); omega) | (apply s_add64; (iterate 5 (exact rfl)); omega) | (apply s_allocF tabZ_ok (d := 8); (iterate 6 (exact rfl)); intro locX σ hc; have hX := hc.at'; have nBX := hc.ne hB; replace hB := hc.keep hB; have nRX := hc.ne hR; replace hR := hc.keep hR; have nTX := hc.ne hT; replace hT := hc.keep hT; have nAX := hc.ne hA; replace hA := hc.keep hA; have oX := hK.out hc; replace hK := hK.fresh hc; clear hc) | (apply s_storeF tab_ok; (iterate 7 (exact rfl)); exact hX; (iterate 2 (exact rfl)); intro σ hc; replace hX := hc.at'; replace hB := hc.keep (by first | assumption | (apply Ne.symm; assumption) | omega) hB; replace hR := hc.keep (by first | assumption | (apply Ne.symm; assumption) | omega) hR; replace hT := hc.keep (by first | assumption | (apply Ne.symm; assumption) | omega) hT; replace hA := hc.keep (by first | assumption | (apply Ne.symm; assumption) | omega) hA; replace hK := hK.chg oX hc; clear hc; refine s_freezeP 8 rfl hX rfl ?_; intro σ hc; replace hB := hc.keep (by first | assumption | (apply Ne.symm; assumption) | omega) hB; replace hR := hc.keep (by first | assumption | (apply Ne.symm; assumption) | omega) hR; replace hT := hc.keep (by first | assumption | (apply Ne.symm; assumption) | omega) hT; replace hA := hc.keep (by first | assumption | (apply Ne.symm; assumption) | omega) hA; replace hK := hK.chg oX hc; clear hc hX oX) | (apply s_allocF tabZ_ok (d := 9); (iterate 6 (exact rfl)); intro locY σ hc; have hY := hc.at'; have nBY := hc.ne hB; replace hB := hc.keep hB; have nRY := hc.ne hR; replace hR := hc.keep hR; have nTY := hc.ne hT; replace hT := hc.keep hT; have nAY := hc.ne hA; replace hA := hc.keep hA; have oY := hK.out hc; replace hK := hK.fresh hc; clear hc) | (apply s_storeF tab_ok; (iterate 7 (exact rfl)); exact hY; (iterate 2 (exact rfl)); intro σ hc; replace hY := hc.at'; replace hB := hc.keep (by first | assumption | (apply Ne.symm; assumption) | omega) hB; replace hR := hc.keep (by first | assumption | (apply Ne.symm; assumption) | omega) hR; replace hT := hc.keep (by first | assumption | (apply Ne.symm; assumption) | omega) hT; replace hA := hc.keep (by first | assumption | (apply Ne.symm; assumption) | omega) hA; replace hK := hK.chg oY hc; clear hc; refine s_freezeP 9 rfl hY rfl ?_; intro σ hc; replace hB := hc.keep (by first | assumption | (apply Ne.symm; assumption) | omega) hB; replace hR := hc.keep (by first | assumption | (apply Ne.symm; assumption) | omega) hR; replace hT := hc.keep (by first | assumption | (apply Ne.symm; assumption) | omega) hT; replace hA := hc.keep (by first | assumption | (apply Ne.symm; assumption) | omega) hA; replace hK := hK.chg oY hc; clear hc hY oY) | (apply s_storeF tab_ok; (iterate 7 (exact rfl)); exact hT; (iterate 2 (exact rfl)); intro σ hc; replace hT := hc.at'; replace hB := hc.keep (by first | assumption | (apply Ne.symm; assumption) | omega) hB; replace hR := hc.keep (by first | assumption | (apply Ne.symm; assumption) | omega) hR; replace hA := hc.keep (by first | assumption | (apply Ne.symm; assumption) | omega) hA; replace hK := hK.chg oT hc; clear hc) | (apply s_ldF tab_ok; (iterate 5 (exact rfl)); (first | exact hB | exact hT | exact hX | exact hR); exact rfl) | (apply s_callS; (iterate 6 (exact rfl)); exact hr1 hB; rintro _ σ ⟨rfl, hb, hk⟩; replace hR := hk.but (Ne.symm nBR) hR; replace hT := hk.but (Ne.symm nBT) hT; replace hA := hk.but (Ne.symm nBA) hA; replace hB := hb; replace hK := hK.trans hk; clear hk hb) | (apply s_appF tab_ok tabZ_ok (rows2 := [brD (.mk pk pn pi ps tk tn tp tc te)]) (rows3 := brR (ts ++ [(TreeT.mk bk bn bi bs tk tn tp tc te).at pk pn pi ps])) (m := (brR (ts ++ [(TreeT.mk bk bn bi bs tk tn tp tc te).at pk pn pi ps])).length); (iterate 10 (exact rfl)); exact hA; exact src_of (Tab.slIs tab_ok (t := 30) rfl) (rows_d rfl); exact hbr; (simp only [brR_len, List.length_append, List.length_cons, List.length_nil, and_true, true_and]; omega); intro σ hc; replace hA := hc.at'; replace hB := hc.keep (by first | assumption | (apply Ne.symm; assumption) | omega) hB; replace hR := hc.keep (by first | assumption | (apply Ne.symm; assumption) | omega) hR; replace hT := hc.keep (by first | assumption | (apply Ne.symm; assumption) | omega) hT; replace hK := hK.chg oA hc; clear hc) | (apply s_call; (iterate 6 (exact rfl)); first | (exact hn1; rintro _ rfl)) | refine al_nil ?_ | refine q_then_n ?_ | refine q_blk_n ?_ | refine aw_block ?_ | refine aw_seq ?_ | refine aw_reg ?_ | refine aw_true rfl ?_ | refine aw_skip ?_)
    all_goals exact ⟨_, _, rfl, by omega, k + 1, ver + 1, rfl, by rw [hsn]; exact hB, hR, by rw [hsn]; exact hT, by rw [hsn]; exact hA, hK, by omega, rfl⟩
  · have hkk : k = cs.length := by omega
    subst hkk
    rw [List.take_length] at hB hT hA hbk
    generalize branchesF F cs (left - 1) = b at hB hT hA hbk ⊢
    obtain ⟨ts, lk⟩ := b
    simp only at hB hT hA hbk ⊢
    by_cases h5 : ak = 5
    · rw [if_pos h5]
      repeat' (first | refine s_op rfl ?_ | (apply s_fa_f tab_ok; (iterate 6 (exact rfl))) | (apply s_ld_f tab_ok; (iterate 6 (exact rfl))) | (apply s_neq_f; (iterate 5 (exact rfl)); omega) | (apply s_lss_f; (iterate 5 (exact rfl)); omega) | (refine o_freezeA 96 (ds := [.v (.int .u8 3), .v (.int .i64 0), .lst 1 (path.map intRow), .lst 9 (brR ts), .nil]) rfl hA ⟨_, _, rfl, .inl rfl, _, _, rfl, .inl rfl, _, _, rfl, .inl rfl, _, _, rfl, .inr (asD_own hA), _, _, rfl, .inl rfl, rfl⟩ ?_; intro σ hc; replace hB := hc.keep (by first | assumption | (apply Ne.symm; assumption) | omega) hB; replace hR := hc.keep (by first | assumption | (apply Ne.symm; assumption) | omega) hR; replace hT := hc.keep (by first | assumption | (apply Ne.symm; assumption) | omega) hT; replace hK := hK.chg oA hc; clear hc hA oA) | (apply s_storeF tab_ok; (iterate 7 (exact rfl)); exact hR; (iterate 2 (exact rfl)); intro σ hc; replace hR := hc.at'; replace hB := hc.keep (by first | assumption | (apply Ne.symm; assumption) | omega) hB; replace hT := hc.keep (by first | assumption | (apply Ne.symm; assumption) | omega) hT; replace hK := hK.chg oR hc; clear hc) | (apply s_ldF tab_ok; (iterate 5 (exact rfl)); (first | exact hB | exact hT | exact hX | exact hR); exact rfl) | refine al_nil ?_ | refine q_then_n ?_ | refine q_blk_e ?_ | refine q_then_e ?_ | refine aw_exit ?_ | refine aw_seq ?_ | refine aw_reg ?_ | refine aw_false rfl ?_ | refine aw_skip ?_ | refine aw_ret ?_)
      all_goals exact q_retB (resB_1 rfl (resV_c (t := 33) rfl rfl hR rfl)) ⟨_, rfl, Wk.agg ⟨Wk.refl _, Wk.refl _, Wk.refl _, Wk.refl _, Wk.nil 5, trivial⟩, hB, hK⟩
    · rw [if_neg h5]
      have hr1 := fun {σ : List AObj} => hrec lk none σ hbk.1 hbk.2
      have hn1 := hnar none
      generalize narrowF _ path none = nw at hr1 hn1
      generalize F lk none = r at hr1 ⊢
      obtain ⟨⟨bk, bn, bi, bs, tk, tn, tp, tc, te⟩, lk'⟩ := r
      have hn1 := hn1.wkA (.cons (Wk.refl _) (.cons (Wk.refl _) (.cons (Wk.nil 8) .nil)))
      repeat' (first | refine s_op rfl ?_ | (apply s_move; (iterate 4 (exact rfl))) | (apply s_fa_p tab_ok; (iterate 5 (exact rfl))) | (apply s_fa_f tab_ok; (iterate 6 (exact rfl))) | (apply s_ld_f tab_ok; (iterate 6 (exact rfl))) | (apply s_lit tab_ok tabZ_ok; (iterate 10 (exact rfl))) | (apply s_neq_t; (iterate 5 (exact rfl)); omega) | (apply s_lss_f; (iterate 5 (exact rfl)); omega) | (refine o_freezeA 96 (ds := [.v (.int .u8 3), .v (.int .i64 0), .lst 1 (path.map intRow), .lst 9 (brR ts), .lst 5 [treeD (.mk bk bn bi bs tk tn tp tc te)]]) rfl hA ⟨_, _, rfl, .inl rfl, _, _, rfl, .inl rfl, _, _, rfl, .inl rfl, _, _, rfl, .inr (asD_own hA), _, _, rfl, .inl rfl, rfl⟩ ?_; intro σ hc; replace hB := hc.keep (by first | assumption | (apply Ne.symm; assumption) | omega) hB; replace hR := hc.keep (by first | assumption | (apply Ne.symm; assumption) | omega) hR; replace hT := hc.keep (by first | assumption | (apply Ne.symm; assumption) | omega) hT; replace hK := hK.chg oA hc; clear hc hA oA) | (apply s_storeF tab_ok; (iterate 7 (exact rfl)); exact hT; (iterate 2 (exact rfl)); intro σ hc; replace hT := hc.at'; replace hB := hc.keep (by first | assumption | (apply Ne.symm; assumption) | omega) hB; replace hR := hc.keep (by first | assumption | (apply Ne.symm; assumption) | omega) hR; replace hA := hc.keep (by first | assumption | (apply Ne.symm; assumption) | omega) hA; replace hK := hK.chg oT hc; clear hc) | (apply s_storeF tab_ok; (iterate 7 (exact rfl)); exact hR; (iterate 2 (exact rfl)); intro σ hc; replace hR := hc.at'; replace hB := hc.keep (by first | assumption | (apply Ne.symm; assumption) | omega) hB; replace hT := hc.keep (by first | assumption | (apply Ne.symm; assumption) | omega) hT; replace hK := hK.chg oR hc; clear hc) | (apply s_ldF tab_ok; (iterate 5 (exact rfl)); (first | exact hB | exact hT | exact hX | exact hR); exact rfl) | (apply s_callS; (iterate 6 (exact rfl)); exact hr1 hB; rintro _ σ ⟨rfl, hb, hk⟩; replace hR := hk.but (Ne.symm nBR) hR; replace hT := hk.but (Ne.symm nBT) hT; replace hA := hk.but (Ne.symm nBA) hA; replace hB := hb; replace hK := hK.trans hk; clear hk hb) | (apply s_call; (iterate 6 (exact rfl)); first | (exact hn1; rintro _ rfl)) | refine al_nil ?_ | refine q_then_n ?_ | refine q_blk_e ?_ | refine q_then_e ?_ | refine aw_exit ?_ | refine aw_seq ?_ | refine aw_reg ?_ | refine aw_true rfl ?_ | refine aw_false rfl ?_ | refine aw_ret ?_)
      all_goals exact q_retB (resB_1 rfl (resV_c (t := 33) rfl rfl hR rfl)) ⟨_, rfl, Wk.agg ⟨Wk.refl _, Wk.refl _, Wk.refl _, Wk.refl _, Wk.refl _, trivial⟩, hB, hK⟩
end
end Go.Proofs.Ytjflembhgjcgkaa
