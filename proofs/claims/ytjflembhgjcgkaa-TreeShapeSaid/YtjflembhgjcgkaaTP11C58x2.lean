/- C58: may a check begin (24). -/
import Derived.Test.YtjflembhgjcgkaaTP11C10
import Derived.Test.YtjflembhgjcgkaaTP11XM6C17C18
import Derived.Test.YtjflembhgjcgkaaTP11C37
set_option linter.unusedSimpArgs false
set_option linter.unusedVariables false
namespace Go.Proofs.Ytjflembhgjcgkaa
open Go.RowKit

def mayZ (g : Sg) (l : List Pat) : Int := if servesB g = true ∧ togB g l = true then 0 else 2
set_option maxRecDepth 100000 in
theorem may24_c {g : Sg} (hs : g.Small) {m : Nat} (hm : m ≤ 1000000000) {l : List Pat} (hl : SmallP m l) : RunsP Try.prog 24 [.agg (sigD g), patsD l] (fun v => v = .v (.int .i64 (mayZ g l))) := by
  have h1 := serves_c g hs
  have h2 := tog_c g hs m hm l hl
  unfold mayZ
  cases e1 : servesB g <;> rw [e1] at h1
  · refine enterP 14 Try.func24 rfl (by kernel_rfl) rfl rfl rfl ?_
    repeat' (first | refine s_op rfl ?_ | (apply s_skipV; (iterate 2 (exact rfl))) | (apply s_move; (iterate 4 (exact rfl))) | (apply s_ld_f tab_ok; (iterate 6 (exact rfl))) | (apply s_assign; (iterate 4 (exact rfl))) | (apply s_pick_t; (iterate 5 (exact rfl))) | (apply s_boxZ; (iterate 5 (exact rfl)); first | exact rfl | exact allD_mapd _) | (apply s_not_f; (iterate 4 (exact rfl))) | (apply s_call; (iterate 6 (exact rfl)); first | (exact h1; rintro _ rfl) | (exact h2; rintro _ rfl)) | refine al_nil ?_ | refine q_then_n ?_ | refine q_then_r ?_ | refine aw_seq ?_ | refine aw_reg ?_ | refine aw_true rfl ?_ | refine aw_ret ?_)
    exact q_ret rfl ⟨_, rfl, rfl⟩
  cases e2 : togB g l <;> rw [e2] at h2
  · refine enterP 14 Try.func24 rfl (by kernel_rfl) rfl rfl rfl ?_
    repeat' (first | refine s_op rfl ?_ | (apply s_move; (iterate 4 (exact rfl))) | (apply s_ld_f tab_ok; (iterate 6 (exact rfl))) | (apply s_assign; (iterate 4 (exact rfl))) | (apply s_pick_f; (iterate 5 (exact rfl))) | (apply s_boxZ; (iterate 5 (exact rfl)); first | exact rfl | exact allD_mapd _) | (apply s_not_t; (iterate 4 (exact rfl))) | (apply s_not_f; (iterate 4 (exact rfl))) | (apply s_call; (iterate 6 (exact rfl)); first | (exact h1; rintro _ rfl) | (exact h2; rintro _ rfl)) | refine al_nil ?_ | refine q_then_n ?_ | refine q_then_r ?_ | refine aw_seq ?_ | refine aw_reg ?_ | refine aw_true rfl ?_ | refine aw_ret ?_)
    exact q_ret rfl ⟨_, rfl, rfl⟩
  · refine enterP 14 Try.func24 rfl (by kernel_rfl) rfl rfl rfl ?_
    repeat' (first | refine s_op rfl ?_ | (apply s_move; (iterate 4 (exact rfl))) | (apply s_ld_f tab_ok; (iterate 6 (exact rfl))) | (apply s_assign; (iterate 4 (exact rfl))) | (apply s_pick_f; (iterate 5 (exact rfl))) | (apply s_boxZ; (iterate 5 (exact rfl)); first | exact rfl | exact allD_mapd _) | (apply s_not_t; (iterate 4 (exact rfl))) | (apply s_call; (iterate 6 (exact rfl)); first | (exact h1; rintro _ rfl) | (exact h2; rintro _ rfl)) | refine al_nil ?_ | refine q_then_n ?_ | refine aw_seq ?_ | refine aw_reg ?_ | refine aw_false rfl ?_ | refine aw_skip ?_ | refine aw_ret ?_)
    exact q_ret rfl ⟨_, rfl, rfl⟩
end Go.Proofs.Ytjflembhgjcgkaa
/- C38: build, joined; Build, of the tree. -/
set_option linter.unusedSimpArgs false
set_option linter.unusedVariables false
namespace Go.Proofs.Ytjflembhgjcgkaa
open Go.RowKit

theorem caseOk {g : Sg} (hs : g.Small) (hsv : Serves g) {p : Pat} (hw : Wf g p) : CaseOk g p := by
  intro h5
  obtain ⟨h1, h2, _⟩ := alone_con hw.alone h5
  obtain ⟨m, hm⟩ : ∃ m : Nat, p.n = m := ⟨p.n.toNat, by omega⟩
  obtain ⟨c, hc⟩ : ∃ c, g.cons[m]? = some c := getS (by omega)
  obtain ⟨d, hd, _⟩ := hsv.con m c hc
  unfold Sg.dat at hd
  split at hd
  · rename_i h0
    exact ⟨m, c.data.toNat, c, d, hm, hc, by omega, hd, hs.each d (List.mem_of_getElem? hd)⟩
  · cases hd

theorem build_o (g : Sg) (hs : g.Small) (hsv : Serves g) {M : Nat} (hM : M ≤ 100000) : ∀ (f : Nat), f ≤ 10000 → ∀ (left : Int) (rows : List RowT), -1000000000000000000 ≤ left → left ≤ f → RowsM g M rows →
    ∀ (σ0 : List AObj) (locB : Nat), σ0[locB]? = some (.row 101 (bldV g left)) → Runs Try.prog 55 [.ptr locB 0 0, .d (rowsTD rows)] σ0 (BuiltR g locB (buildF g f left rows) σ0) := by
  intro f
  induction f with
  | zero => exact fun _ left rows h1 h2 hr σ0 locB hB => Runs.weakR (build_low (by omega) h1 hB)
  | succ f ih =>
    intro hf left rows h1 h2 hr σ0 locB hB
    by_cases h0 : left ≤ 0
    · have e := buildF_low (g := g) (f := f + 1) (rows := rows) h0
      have := Runs.weakR (build_low (rows := rows) h0 h1 hB)
      unfold BuiltR
      rw [e.1, e.2]
      exact this
    · match rows, hr with
      | [], _ =>
        have := Runs.weakR (build_none (by omega) (by omega) hB)
        unfold buildF
        rw [if_neg (by omega)]
        exact this
      | ⟨[], rn⟩ :: rest, hr =>
        have hl := hr.len
        simp only [List.length_cons] at hl
        have := Runs.weakR (build_arm (rn := rn) (rest := rest) (by omega) (by omega) (by omega) hB)
        unfold buildF
        rw [if_neg (by omega)]
        exact this
      | ⟨⟨path, .mk ak an ai as' aa ab ac al⟩ :: asks, rn⟩ :: rest, hr =>
        have hl := hr.len
        simp only [List.length_cons] at hl
        have hla := hr.asks _ (List.mem_cons_self ..)
        simp only [List.length_cons] at hla
        have hpl := hr.plen _ (List.mem_cons_self ..) _ (List.mem_cons_self ..)
        simp only at hpl
        have hwf := hr.wf _ (List.mem_cons_self ..) _ (List.mem_cons_self ..)
        simp only at hwf
        have hcl := casesF_len hs hM hr path (.mk ak an ai as' aa ab ac al)
        have hbd : ∀ k, k ≤ (casesF g (⟨⟨path, .mk ak an ai as' aa ab ac al⟩ :: asks, rn⟩ :: rest) path (.mk ak an ai as' aa ab ac al)).length → -1000000000000000000 ≤ (branchesF (fun left p => buildF g f left (narrowF (⟨⟨path, .mk ak an ai as' aa ab ac al⟩ :: asks, rn⟩ :: rest) path p)) ((casesF g (⟨⟨path, .mk ak an ai as' aa ab ac al⟩ :: asks, rn⟩ :: rest) path (.mk ak an ai as' aa ab ac al)).take k) (left - 1)).2 ∧ (branchesF (fun left p => buildF g f left (narrowF (⟨⟨path, .mk ak an ai as' aa ab ac al⟩ :: asks, rn⟩ :: rest) path p)) ((casesF g (⟨⟨path, .mk ak an ai as' aa ab ac al⟩ :: asks, rn⟩ :: rest) path (.mk ak an ai as' aa ab ac al)).take k) (left - 1)).2 ≤ left - 1 := by
          intro k hk
          have hF : ∀ left s, (left ≤ 0 → (buildF g f left (narrowF (⟨⟨path, .mk ak an ai as' aa ab ac al⟩ :: asks, rn⟩ :: rest) path s)).2 = left - 1) ∧ (1 ≤ left → -(1 + (f : Int) * 20000000000) ≤ (buildF g f left (narrowF (⟨⟨path, .mk ak an ai as' aa ab ac al⟩ :: asks, rn⟩ :: rest) path s)).2 ∧ (buildF g f left (narrowF (⟨⟨path, .mk ak an ai as' aa ab ac al⟩ :: asks, rn⟩ :: rest) path s)).2 ≤ left - 1) :=
            fun left s => ⟨fun h => (buildF_low h).1, fun h => buildF_bd hs hM f left _ (hr.narrow s) h⟩
          have hb := (branchesF_bd (K := 1 + (f : Int) * 20000000000) (by omega) hF ((casesF g (⟨⟨path, .mk ak an ai as' aa ab ac al⟩ :: asks, rn⟩ :: rest) path (.mk ak an ai as' aa ab ac al)).take k) (left - 1)).2 (by omega)
          have htl : ((casesF g (⟨⟨path, .mk ak an ai as' aa ab ac al⟩ :: asks, rn⟩ :: rest) path (.mk ak an ai as' aa ab ac al)).take k).length ≤ 10000000000 := by rw [List.length_take]; omega
          omega
        have := Runs.weakR (build_look (g := g) (left := left) (fun left p => buildF g f left (narrowF (⟨⟨path, .mk ak an ai as' aa ab ac al⟩ :: asks, rn⟩ :: rest) path p)) (casesF g (⟨⟨path, .mk ak an ai as' aa ab ac al⟩ :: asks, rn⟩ :: rest) path (.mk ak an ai as' aa ab ac al)) (by omega) (by omega) hB (by omega) (by omega) (by omega) hcl
          (fun {σ} h => cases_o g _ path _ (by omega) (fun r hr' => ⟨Nat.le_trans (hr.asks r hr') hM, fun a ha => by have := hr.plen r hr' a ha; omega⟩) (by have := hr.len; omega) (caseOk hs hsv hwf) h)
          (fun s => narrow_c _ path s (fun r hr' => ⟨by have := hr.asks r hr'; omega, fun a ha => ⟨by have := hr.plen r hr' a ha; omega, by have := hr.kids r hr' a ha; omega⟩⟩) (by have := hr.len; omega) (by omega))
          (fun l s σ h1 h2 h => ih (by omega) l _ h1 (by omega) (hr.narrow s) σ locB h) hbd)
        unfold buildF
        rw [if_neg (by omega)]
        simp only [Pat.kind]
        exact this

def rawR (k : Nat) (p : Pat) : List DV := [if testsB p = true then .lst 9 [.nil :: patD p] else .nil, .v (.int .i64 (k : Int))]
def rawRows : Nat → List Pat → List (List DV)
  | _, [] => []
  | i, p :: l => rawR i p :: rawRows (i + 1) l
theorem rawRows_len : ∀ (i : Nat) (l : List Pat), (rawRows i l).length = l.length
  | i, [] => rfl
  | i, p :: l => by simp [rawRows, rawRows_len (i + 1) l]
theorem rawRows_append : ∀ (i : Nat) (l m : List Pat), rawRows i (l ++ m) = rawRows i l ++ rawRows (i + l.length) m
  | i, [], m => by simp [rawRows]
  | i, p :: l, m => by
    simp only [List.cons_append, rawRows, rawRows_append (i + 1) l m, List.length_cons]
    rw [show i + 1 + l.length = i + (l.length + 1) by omega]
theorem rawRows_take {l : List Pat} {k : Nat} {p : Pat} (h : l[k]? = some p) : rawRows 0 (l.take (k + 1)) = rawRows 0 (l.take k) ++ [rawR k p] := by
  have hk := (List.getElem?_eq_some_iff.1 h).1
  rw [List.take_add_one, h, rawRows_append, List.length_take, Nat.min_eq_left (by omega), Nat.zero_add]
  simp [rawRows]
theorem wkR_raw : ∀ (i : Nat) (l : List Pat), WkR (rawRows i l) ((rowsOf i l).map rowTD)
  | i, [] => trivial
  | i, p :: l => by
    refine ⟨⟨?_, Wk.refl _, trivial⟩, wkR_raw (i + 1) l⟩
    split
    · exact Wk.lst ⟨⟨Wk.nil 1, WkL.refl _⟩, trivial⟩
    · exact Wk.nil 9

/-- What Build answers. -/
def builtD (r : TreeT × Int) : DV := .tup [.agg (treeD r.1), .v (.int .i64 r.2)]
section
variable {g : Sg} {l : List Pat}
theorem wk_built (k n e : Int) : Wk (.tup [.agg [.v (.int .u8 k), .v (.int .i64 n), .nil, .nil, .nil], .v (.int .i64 e)]) (builtD (bare k n [] [] [], e)) := Wk.tup ⟨wk_bare k n, Wk.refl _, trivial⟩

set_option maxRecDepth 100000 in
set_option maxHeartbeats 8000000 in
theorem Build_bad (hmay : RunsP Try.prog 24 [.agg (sigD g), patsD l] (fun v => v = .v (.int .i64 2))) : RunsP Try.prog 14 [.agg (sigD g), patsD l] (fun v => v = builtD (bare 0 0 [] [] [], 2)) := by
  refine RunsP.weak ?_
  refine enterPB 53 tab_ok Try.func14 rfl (by kernel_rfl) rfl rfl rfl ?_
  repeat' (first | refine s_op rfl ?_ | (apply s_move; (iterate 4 (exact rfl))) | (apply s_ld_f tab_ok; (iterate 6 (exact rfl))) | (apply s_assign; (iterate 4 (exact rfl))) | (apply s_build tabZ_ok; (iterate 5 (exact rfl))) | (apply s_neq_t; (iterate 5 (exact rfl)); omega) | (apply s_allocF tabZ_ok (d := 4); (iterate 6 (exact rfl)); intro locR σ hc; have hR := hc.at'; clear hc) | (apply s_storeF tab_ok; (iterate 7 (exact rfl)); exact hR; (iterate 2 (exact rfl)); intro σ hc; replace hR := hc.at'; clear hc) | (apply s_boxZ; (iterate 5 (exact rfl)); first | exact rfl | exact allD_mapd _) | (apply s_call; (iterate 6 (exact rfl)); first | (exact hmay; rintro _ rfl)) | refine al_nil ?_ | refine q_then_n ?_ | refine q_then_r ?_ | refine aw_seq ?_ | refine aw_reg ?_ | refine aw_true rfl ?_ | refine aw_ret ?_)
  all_goals exact q_retB (resB_2 rfl (resV_c (t := 33) rfl rfl hR rfl) (resV_t rfl) rfl) ⟨_, rfl, wk_built 0 0 2⟩

set_option maxRecDepth 100000 in
set_option maxHeartbeats 8000000 in
theorem Build_ok (hmay : RunsP Try.prog 24 [.agg (sigD g), patsD l] (fun v => v = .v (.int .i64 0))) (hl : l.length ≤ 1000000) (r : TreeT × Int)
    (hb : ∀ (σ0 : List AObj) (locB : Nat), σ0[locB]? = some (.row 101 (bldV g 2000)) → Runs Try.prog 55 [.ptr locB 0 0, .d (rowsTD (rowsOf 0 l))] σ0 (BuiltR g locB r σ0)) :
    RunsP Try.prog 14 [.agg (sigD g), patsD l] (fun v => v = builtD (if r.2 < 0 then (bare 0 0 [] [] [], 160) else (r.1, 0))) := by
  refine RunsP.weak ?_
  have e1 := patR_len l
  obtain ⟨⟨bk, bn, bi, bs, tk, tn, tp, tc, te⟩, lk⟩ := r
  refine enterPB 53 tab_ok Try.func14 rfl (by kernel_rfl) rfl rfl rfl ?_
  repeat' (first | refine s_op rfl ?_ | (apply s_move; (iterate 4 (exact rfl))) | (apply s_ld_f tab_ok; (iterate 6 (exact rfl))) | (apply s_assign; (iterate 4 (exact rfl))) | (apply s_len tab_ok; (iterate 5 (exact rfl))) | (apply s_neq_f; (iterate 5 (exact rfl)); omega) | (apply s_allocF tabZ_ok (d := 4); (iterate 6 (exact rfl)); intro locR σ hc; have hR := hc.at'; clear hc) | (apply s_boxZ; (iterate 5 (exact rfl)); first | exact rfl | exact allD_mapd _) | (apply s_call; (iterate 6 (exact rfl)); first | (exact hmay; rintro _ rfl)) | refine al_nil ?_ | refine q_then_n ?_ | refine aw_block ?_ | refine aw_seq ?_ | refine aw_reg ?_ | refine aw_false rfl ?_ | refine aw_skip ?_)
  refine w_adoptF 7 96 2 rfl ?_
  intro locA σ hc
  have hA := hc.at'
  have nRA := hc.ne hR
  replace hR := hc.keep hR
  clear hc
  refine w_loop [2, 4, 7, 20, 21, 22] (fun n vs σ => ∃ k ver : Nat, vs = [.d (.fptr (sigD g)), .ptr locR 0 0, .own locA ver 2 0 (rawRows 0 (l.take k)).length, .d (patsD l), .d (.v (.int .i64 ((patR l).length : Int))), .d (.v (.int .i64 (k : Int)))] ∧ σ[locR]? = some (.row 33 [.d (.v (.int .u8 0)), .d (.v (.int .i64 0)), .d .nil, .d .nil, .d .nil]) ∧ σ[locA]? = some (.arr 96 2 ver (rawRows 0 (l.take k))) ∧ k ≤ l.length ∧ n = l.length - k) rfl ⟨0, 0, rfl, hR, hA, by omega, rfl⟩ ?_
  clear hR hA
  rintro n vs σ ⟨k, ver, rfl, hR, hA, hk, rfl⟩ fr hfr
  cases hfr
  by_cases hlt : k < l.length
  · obtain ⟨⟨pk, pn, pi, ps, pa, pb, pc, pl⟩, hq⟩ := getS hlt
    have ht := rawRows_take hq
    have htl : (l.take k).length = k := by rw [List.length_take]; omega
    have htl' : (l.take (k + 1)).length = k + 1 := by rw [List.length_take]; omega
    have hts := tests_c (.mk pk pn pi ps pa pb pc pl)
    cases hbt : testsB (.mk pk pn pi ps pa pb pc pl) <;> rw [hbt] at hts
    · have hrw : rawR k (.mk pk pn pi ps pa pb pc pl) = [.nil, .v (.int .i64 (k : Int))] := by unfold rawR; rw [hbt]; rfl
      repeat' (first | refine s_op rfl ?_ | (apply s_move; (iterate 4 (exact rfl))) | (apply s_ld_f tab_ok; (iterate 6 (exact rfl))) | (apply s_assign; (iterate 4 (exact rfl))) | (apply s_idx tab_ok; (iterate 7 (exact rfl)); (first | exact patR_get (by assumption) | exact valR_get (by assumption) | exact row_map (by assumption) | assumption)) | (apply s_build tabZ_ok; (iterate 5 (exact rfl))) | (apply s_lit tab_ok tabZ_ok; (iterate 10 (exact rfl))) | (apply s_lss_t; (iterate 5 (exact rfl)); omega) | (apply s_add64; (iterate 5 (exact rfl)); omega) | (apply s_allocF tabZ_ok (d := 9); (iterate 6 (exact rfl)); intro locX σ hc; have hX := hc.at'; have nRX := hc.ne hR; replace hR := hc.keep hR; have nAX := hc.ne hA; replace hA := hc.keep hA; clear hc) | (apply s_storeF tab_ok; (iterate 7 (exact rfl)); exact hX; (iterate 2 (exact rfl)); intro σ hc; replace hX := hc.at'; replace hR := hc.keep (by first | assumption | (apply Ne.symm; assumption) | omega) hR; replace hA := hc.keep (by first | assumption | (apply Ne.symm; assumption) | omega) hA; clear hc; refine s_freezeP 9 rfl hX rfl ?_; intro σ hc; replace hR := hc.keep nRX hR; replace hA := hc.keep nAX hA; clear hc hX nRX nAX) | (apply s_allocF tabZ_ok (d := 10); (iterate 6 (exact rfl)); intro locW σ hc; have hW := hc.at'; have nRW := hc.ne hR; replace hR := hc.keep hR; have nAW := hc.ne hA; replace hA := hc.keep hA; clear hc) | (apply s_storeF tab_ok; (iterate 7 (exact rfl)); exact hW; (iterate 2 (exact rfl)); intro σ hc; replace hW := hc.at'; replace hR := hc.keep (by first | assumption | (apply Ne.symm; assumption) | omega) hR; replace hA := hc.keep (by first | assumption | (apply Ne.symm; assumption) | omega) hA; clear hc) | (apply s_ldF tab_ok; (iterate 5 (exact rfl)); (first | exact hW | exact hB); exact rfl) | (apply s_appF tab_ok tabZ_ok (rows2 := [rawR k (.mk pk pn pi ps pa pb pc pl)]) (rows3 := rawRows 0 (l.take (k + 1))) (m := (rawRows 0 (l.take (k + 1))).length); (iterate 10 (exact rfl)); exact hA; exact src_of (Tab.slIs tab_ok (t := 93) rfl) (by rw [hrw]; exact rows_d rfl); exact ht.symm; (simp only [rawRows_len, List.length_cons, List.length_nil, and_true, true_and, htl, htl']; omega); intro σ hc; replace hA := hc.at'; replace hR := hc.keep (by first | assumption | (apply Ne.symm; assumption) | omega) hR; replace hW := hc.keep (by first | assumption | (apply Ne.symm; assumption) | omega) hW; clear hc) | (apply s_call; (iterate 6 (exact rfl)); first | (exact hts; rintro _ rfl)) | refine al_nil ?_ | refine q_then_n ?_ | refine q_blk_n ?_ | refine aw_block ?_ | refine aw_seq ?_ | refine aw_reg ?_ | refine aw_true rfl ?_ | refine aw_false rfl ?_ | refine aw_skip ?_)
      all_goals exact ⟨_, _, rfl, by omega, k + 1, ver + 1, rfl, hR, hA, by omega, rfl⟩
    · have hrw : rawR k (.mk pk pn pi ps pa pb pc pl) = [.lst 9 [.nil :: patD (.mk pk pn pi ps pa pb pc pl)], .v (.int .i64 (k : Int))] := by unfold rawR; rw [hbt]; rfl
      repeat' (first | refine s_op rfl ?_ | (apply s_move; (iterate 4 (exact rfl))) | (apply s_fa_p tab_ok; (iterate 5 (exact rfl))) | (apply s_ld_f tab_ok; (iterate 6 (exact rfl))) | (apply s_assign; (iterate 4 (exact rfl))) | (apply s_idx tab_ok; (iterate 7 (exact rfl)); (first | exact patR_get (by assumption) | exact valR_get (by assumption) | exact row_map (by assumption) | assumption)) | (apply s_build tabZ_ok; (iterate 5 (exact rfl))) | (apply s_lit tab_ok tabZ_ok; (iterate 10 (exact rfl))) | (apply s_lss_t; (iterate 5 (exact rfl)); omega) | (apply s_add64; (iterate 5 (exact rfl)); omega) | (apply s_allocF tabZ_ok (d := 9); (iterate 6 (exact rfl)); intro locX σ hc; have hX := hc.at'; have nRX := hc.ne hR; replace hR := hc.keep hR; have nAX := hc.ne hA; replace hA := hc.keep hA; clear hc) | (apply s_storeF tab_ok; (iterate 7 (exact rfl)); exact hX; (iterate 2 (exact rfl)); intro σ hc; replace hX := hc.at'; replace hR := hc.keep (by first | assumption | (apply Ne.symm; assumption) | omega) hR; replace hA := hc.keep (by first | assumption | (apply Ne.symm; assumption) | omega) hA; clear hc; refine s_freezeP 9 rfl hX rfl ?_; intro σ hc; replace hR := hc.keep nRX hR; replace hA := hc.keep nAX hA; clear hc hX nRX nAX) | (apply s_allocF tabZ_ok (d := 10); (iterate 6 (exact rfl)); intro locW σ hc; have hW := hc.at'; have nRW := hc.ne hR; replace hR := hc.keep hR; have nAW := hc.ne hA; replace hA := hc.keep hA; clear hc) | (apply s_storeF tab_ok; (iterate 7 (exact rfl)); exact hW; (iterate 2 (exact rfl)); intro σ hc; replace hW := hc.at'; replace hR := hc.keep (by first | assumption | (apply Ne.symm; assumption) | omega) hR; replace hA := hc.keep (by first | assumption | (apply Ne.symm; assumption) | omega) hA; clear hc) | (apply s_ldF tab_ok; (iterate 5 (exact rfl)); (first | exact hW | exact hB); exact rfl) | (apply s_appF tab_ok tabZ_ok (rows2 := [rawR k (.mk pk pn pi ps pa pb pc pl)]) (rows3 := rawRows 0 (l.take (k + 1))) (m := (rawRows 0 (l.take (k + 1))).length); (iterate 10 (exact rfl)); exact hA; exact src_of (Tab.slIs tab_ok (t := 93) rfl) (by rw [hrw]; exact rows_d rfl); exact ht.symm; (simp only [rawRows_len, List.length_cons, List.length_nil, and_true, true_and, htl, htl']; omega); intro σ hc; replace hA := hc.at'; replace hR := hc.keep (by first | assumption | (apply Ne.symm; assumption) | omega) hR; replace hW := hc.keep (by first | assumption | (apply Ne.symm; assumption) | omega) hW; clear hc) | (apply s_call; (iterate 6 (exact rfl)); first | (exact hts; rintro _ rfl)) | refine al_nil ?_ | refine q_then_n ?_ | refine q_blk_n ?_ | refine aw_block ?_ | refine aw_seq ?_ | refine aw_reg ?_ | refine aw_true rfl ?_ | refine aw_skip ?_)
      all_goals exact ⟨_, _, rfl, by omega, k + 1, ver + 1, rfl, hR, hA, by omega, rfl⟩
  · rw [List.take_of_length_le (by omega)] at hA
    rw [List.take_of_length_le (by omega)]
    have hwk : Wk (.lst 2 (rawRows 0 l)) (rowsTD (rowsOf 0 l)) := Wk.lst (wkR_raw 0 l)
    by_cases h0 : lk < 0
    · rw [if_pos h0]
      repeat' (first | refine s_op rfl ?_ | (apply s_move; (iterate 4 (exact rfl))) | (apply s_fa_p tab_ok; (iterate 5 (exact rfl))) | (apply s_ld_f tab_ok; (iterate 6 (exact rfl))) | (apply s_assign; (iterate 4 (exact rfl))) | (apply s_nilc; (iterate 5 (exact rfl))) | (apply s_build tabZ_ok; (iterate 5 (exact rfl))) | (apply s_lss_t; (iterate 5 (exact rfl)); omega) | (apply s_lss_f; (iterate 5 (exact rfl)); omega) | (apply s_boxF (d := 42); (iterate 6 (exact rfl)); intro locB σ hc; have hB := hc.at'; have nRB := hc.ne hR; replace hR := hc.keep hR; have nAB := hc.ne hA; replace hA := hc.keep hA; clear hc) | (refine o_freezeF 44 rfl hA rfl ?_; intro σ hc; replace hR := hc.keep (by assumption) hR; replace hB := hc.keep (by first | assumption | (apply Ne.symm; assumption)) hB; clear hc hA) | (refine o_wk 44 (rowsTD (rowsOf 0 l)) rfl hwk ?_) | (apply s_callS; (iterate 6 (exact rfl)); exact hb _ _ hB; rintro _ σ ⟨rfl, hb', hk⟩; replace hR := hk.but (by assumption) hR; replace hB := hb'; clear hk hb') | (apply s_allocF tabZ_ok (d := 12); (iterate 6 (exact rfl)); intro locX σ hc; have hX := hc.at'; have nRX := hc.ne hR; replace hR := hc.keep hR; have nBX := hc.ne hB; replace hB := hc.keep hB; clear hc) | (apply s_storeF tab_ok; (iterate 7 (exact rfl)); exact hX; (iterate 2 (exact rfl)); intro σ hc; replace hX := hc.at'; replace hR := hc.keep (by first | assumption | (apply Ne.symm; assumption) | omega) hR; replace hB := hc.keep (by first | assumption | (apply Ne.symm; assumption) | omega) hB; clear hc) | (apply s_storeF tab_ok; (iterate 7 (exact rfl)); exact hR; (iterate 2 (exact rfl)); intro σ hc; replace hR := hc.at'; clear hc) | (apply s_ldF tab_ok; (iterate 5 (exact rfl)); (first | exact hW | exact hB); exact rfl) | refine al_nil ?_ | refine q_then_n ?_ | refine q_blk_e ?_ | refine q_then_e ?_ | refine aw_exit ?_ | refine q_then_r ?_ | refine aw_seq ?_ | refine aw_reg ?_ | refine aw_true rfl ?_ | refine aw_false rfl ?_ | refine aw_ret ?_)
      all_goals exact q_retB (resB_2 rfl (resV_c (t := 33) rfl rfl hR rfl) (resV_t rfl) rfl) ⟨_, rfl, wk_built 0 0 160⟩
    · rw [if_neg h0]
      repeat' (first | refine s_op rfl ?_ | (apply s_move; (iterate 4 (exact rfl))) | (apply s_fa_p tab_ok; (iterate 5 (exact rfl))) | (apply s_ld_f tab_ok; (iterate 6 (exact rfl))) | (apply s_assign; (iterate 4 (exact rfl))) | (apply s_nilc; (iterate 5 (exact rfl))) | (apply s_build tabZ_ok; (iterate 5 (exact rfl))) | (apply s_lss_f; (iterate 5 (exact rfl)); omega) | (apply s_boxF (d := 42); (iterate 6 (exact rfl)); intro locB σ hc; have hB := hc.at'; have nRB := hc.ne hR; replace hR := hc.keep hR; have nAB := hc.ne hA; replace hA := hc.keep hA; clear hc) | (refine o_freezeF 44 rfl hA rfl ?_; intro σ hc; replace hR := hc.keep (by assumption) hR; replace hB := hc.keep (by first | assumption | (apply Ne.symm; assumption)) hB; clear hc hA) | (refine o_wk 44 (rowsTD (rowsOf 0 l)) rfl hwk ?_) | (apply s_callS; (iterate 6 (exact rfl)); exact hb _ _ hB; rintro _ σ ⟨rfl, hb', hk⟩; replace hR := hk.but (by assumption) hR; replace hB := hb'; clear hk hb') | (apply s_allocF tabZ_ok (d := 12); (iterate 6 (exact rfl)); intro locX σ hc; have hX := hc.at'; have nRX := hc.ne hR; replace hR := hc.keep hR; have nBX := hc.ne hB; replace hB := hc.keep hB; clear hc) | (apply s_storeF tab_ok; (iterate 7 (exact rfl)); exact hX; (iterate 2 (exact rfl)); intro σ hc; replace hX := hc.at'; replace hR := hc.keep (by first | assumption | (apply Ne.symm; assumption) | omega) hR; replace hB := hc.keep (by first | assumption | (apply Ne.symm; assumption) | omega) hB; clear hc) | (apply s_storeF tab_ok; (iterate 7 (exact rfl)); exact hR; (iterate 2 (exact rfl)); intro σ hc; replace hR := hc.at'; clear hc) | (apply s_ldF tab_ok; (iterate 5 (exact rfl)); (first | exact hX | exact hB); exact rfl) | refine al_nil ?_ | refine q_then_n ?_ | refine q_blk_e ?_ | refine q_then_e ?_ | refine aw_exit ?_ | refine aw_seq ?_ | refine aw_reg ?_ | refine aw_false rfl ?_ | refine aw_skip ?_ | refine aw_ret ?_)
      all_goals exact q_retB (resB_2 rfl (resV_c (t := 33) rfl rfl hR rfl) (resV_t rfl) rfl) ⟨_, rfl, Wk.refl _⟩
end

theorem Build_c {g : Sg} (hs : g.Small) {l : List Pat} (hl : massL l ≤ 100000) : RunsP Try.prog 14 [.agg (sigD g), patsD l] (fun v => v = builtD (buildT g l (mayZ g l))) := by
  have hll := massL_len l
  have hsm := smallL_mass hl (by omega)
  have hmay := may24_c hs (m := 100000) (by omega) ⟨Pat.smallL_mem hsm, by omega⟩
  unfold buildT
  unfold mayZ at hmay ⊢
  by_cases hok : servesB g = true ∧ togB g l = true
  · rw [if_pos hok] at hmay
    rw [if_pos hok, if_neg (by simp)]
    have hw := tog_wf (togB_iff.1 hok.2)
    exact Build_ok hmay (by omega) (buildF g 2002 2000 (rowsOf 0 l)) fun σ0 locB hB => build_o g hs ((servesB_iff g).1 hok.1) (M := 100000) (by omega) 2002 (by omega) 2000 _ (by omega) (by omega) (rowsM_of hl hw) σ0 locB hB
  · rw [if_neg hok] at hmay
    rw [if_neg hok, if_pos (by simp)]
    exact Build_bad hmay
end Go.Proofs.Ytjflembhgjcgkaa
