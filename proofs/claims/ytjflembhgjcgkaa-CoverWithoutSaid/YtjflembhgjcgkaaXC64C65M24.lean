/- XC64C65M24: C64, C65, M24 in one. -/
import Derived.Test.YtjflembhgjcgkaaXC62C63
import Derived.Test.YtjflembhgjcgkaaXAlAl2
import Derived.Test.YtjflembhgjcgkaaC58
import Derived.Test.YtjflembhgjcgkaaXC23C25
import Derived.Test.YtjflembhgjcgkaaC11
import Derived.Test.YtjflembhgjcgkaaM23
import Derived.Test.YtjflembhgjcgkaaC28
set_option linter.unusedSimpArgs false
set_option linter.unusedVariables false
/- C64: All, Check, Covers, of the document. -/
-- ALLUNDEF -- BOXZ
-- LEN: patD_len
-- ROW: patR_get row_map
-- DEF ALR: (apply s_allocF tabZ_ok (d := 4); (iterate 6 (exact rfl)); intro locR σ hc; have hR := hc.at'; clear hc)
-- DEF MKC: (apply s_makeSliceF tab_ok tabZ_ok (patR l).length (t := 117) (rows := (List.replicate l.length false).map boolRow); (iterate 11 (exact rfl)); (refine ⟨by omega, ?_⟩; rw [patR_len, List.map_replicate]; rfl); intro locC σ hc; have hC := hc.at'; have nRC := hc.ne hR; replace hR := hc.keep hR; clear hc)
-- DEF ALF: (apply s_allocF tabZ_ok (d := 5); (iterate 6 (exact rfl)); intro locF σ hc; have hF := hc.at'; have nRF := hc.ne hR; replace hR := hc.keep hR; have nCF := hc.ne hC; replace hC := hc.keep hC; clear hc)
-- DEF STF: (apply s_storeF tab_ok; (iterate 7 (exact rfl)); exact hF; (iterate 2 (exact rfl)); intro σ hc; replace hF := hc.at'; replace hR := hc.keep (by first | assumption | (apply Ne.symm; assumption) | omega) hR; replace hC := hc.keep (by first | assumption | (apply Ne.symm; assumption) | omega) hC; clear hc)
-- DEF STR: (apply s_storeF tab_ok; (iterate 7 (exact rfl)); exact hR; (iterate 2 (exact rfl)); intro σ hc; replace hR := hc.at'; clear hc)
-- DEF LOOK: (apply s_callS; (iterate 6 (exact rfl)); exact hlook _ _ _ hF hC; rintro _ σ3 ⟨rfl, hF3, hC3, hK3⟩; replace hR := hK3 _ _ hR nRF nRC; replace hF := hF3; replace hC := hC3; clear hF3 hC3 hK3)
-- DEF WKA: (refine o_wk 13 (.agg (patD anyP)) rfl wk_anyB ?_)
-- DEF FRC: (refine o_freezeC locF 8 (rows := cm.map boolRow) hF rfl hC (by simp) ?_; intro σ hc; replace hF := hc.row; replace hR := hc.keep' _ _ hR nRF nRC; clear hc hC)
-- DEF LDF: (apply s_ldF tab_ok; (iterate 5 (exact rfl)); exact hF; exact rfl)
namespace Go.Proofs.Ytjflembhgjcgkaa
open Go.RowKit

theorem wk_anyB : Wk (.agg [.v (.int .u8 2), .v (.int .i64 0), .v (.int .i64 0), .v (.string ⟨#[]⟩), .v (.int .i64 0), .v (.int .i64 0), .v (.int .i64 0), .nil]) (.agg (patD anyP)) := Wk.agg ⟨Wk.refl _, Wk.refl _, Wk.refl _, Wk.refl _, Wk.refl _, Wk.refl _, Wk.refl _, Wk.nil 8, trivial⟩
def boolsD (l : List Bool) : DV := .lst 1 (l.map boolRow)
def foundD (f : FoundT) : List DV := missD f.missing ++ [boolsD f.come]
theorem room_sm {g : Sg} (hs : g.Small) (hsv : Serves g) {l : List Pat} (hm : massL l ≤ 100000) : RoomSm (roomOf g l) := by
  have h1 := lits_len l
  have h2 := texts_size l
  refine ⟨hs, hsv, by show (_ :: numsL l).length ≤ _; simp; omega, by show (_ :: textsL l).length ≤ _; simp; omega, fun s hs => ?_⟩
  have h46 : (⟨#[46]⟩ : ByteArray).size = 1 := rfl
  rcases List.mem_cons.1 hs with rfl | hs
  · unfold freeS
    rw [foldS_size]
    unfold maxLen; omega
  · have : s.size ≤ sumS (textsL l) := by
      obtain ⟨k, hk⟩ := List.getElem?_of_mem hs
      have a1 := sumS_get hk
      have a2 := sumS_take (textsL l) (k + 1)
      omega
    unfold maxLen; omega

section
variable {g : Sg} {l : List Pat}
set_option maxRecDepth 100000 in
set_option maxHeartbeats 8000000 in
theorem all_c0 (hml : l.length ≤ 100000) {R : List DV} (hof : RunsP Try.prog 96 [.agg (sigD g), patsD l] (fun v => v = .agg R)) {f : FoundT}
    (hlook : ∀ (σ : List AObj) (locF locC : Nat), σ[locF]? = some (.row 119 (foundC (startF l) locC 0)) → σ[locC]? = some (.arr 4 1 0 ((startF l).come.map boolRow)) → Runs Try.prog 97 [.d (.agg R), .d (.agg (patD anyP)), .ptr locF 0 0] σ (LookQ σ locF locC 0 f)) :
    RunsP Try.prog 66 [.agg (sigD g), patsD l] (fun v => v = .agg (foundD f)) := by
  obtain ⟨m, cm⟩ := f
  obtain ⟨c1, c2, c3, c4, c5, c6, c7, hmc⟩ := missD_cells m
  have e1 := patR_len l
  have e0 : (startF l).come.length = (patR l).length := by rw [e1]; simp [startF]
  have hlook : ∀ (σ : List AObj) (locF locC : Nat), σ[locF]? = some (.row 119 [.d (.v (.int .u8 0)), .d (.v (.int .i64 0)), .d (.v (.int .i64 0)), .d (.v (.string ⟨#[]⟩)), .d (.v (.int .i64 0)), .d (.v (.int .i64 0)), .d (.v (.int .i64 0)), .d .nil, .own locC 0 1 0 (patR l).length]) → σ[locC]? = some (.arr 4 1 0 ((List.replicate l.length false).map boolRow)) → Runs Try.prog 97 [.d (.agg R), .d (.agg (patD anyP)), .ptr locF 0 0] σ
      (fun v σ' => v = .tup [] ∧ σ'[locF]? = some (.row 119 [.d (.v (.int .u8 m.kind)), .d c1, .d c2, .d c3, .d c4, .d c5, .d c6, .d c7, .own locC 0 1 0 cm.length]) ∧ σ'[locC]? = some (.arr 4 1 0 (cm.map boolRow)) ∧ ∀ k o, σ[k]? = some o → k ≠ locF → k ≠ locC → σ'[k]? = some o) := fun σ locF locC h1 h2 =>
    (hlook σ locF locC (by rw [h1]; unfold foundC; rw [e0]; rfl) h2).mono fun v σ' h => ⟨h.ret, by rw [h.row]; unfold foundC; rw [hmc]; rfl, h.arr, h.keep⟩
  refine RunsP.mono (post := fun v => v = .agg [.v (.int .u8 m.kind), c1, c2, c3, c4, c5, c6, c7, boolsD cm]) ?_ (fun v h => by rw [h]; unfold foundD; rw [hmc]; rfl)
  generalize m.kind = mk at *
  clear e0
  refine enterPB 16 tab_ok Try.func66 rfl (by kernel_rfl) rfl rfl rfl ?_
  repeat' (first | refine s_op rfl ?_ | (apply s_move; (iterate 4 (exact rfl))) | (apply s_ld_f tab_ok; (iterate 6 (exact rfl))) | (apply s_len tab_ok; (iterate 5 (exact rfl))) | (apply s_build tabZ_ok; (iterate 5 (exact rfl))) | (apply s_boxZ; (iterate 5 (exact rfl)); first | exact rfl | exact allD_mapd _) | (apply s_allocF tabZ_ok (d := 4); (iterate 6 (exact rfl)); intro locR σ hc; have hR := hc.at'; clear hc) | (apply s_makeSliceF tab_ok tabZ_ok (patR l).length (t := 117) (rows := (List.replicate l.length false).map boolRow); (iterate 11 (exact rfl)); (refine ⟨by omega, ?_⟩; rw [patR_len, List.map_replicate]; rfl); intro locC σ hc; have hC := hc.at'; have nRC := hc.ne hR; replace hR := hc.keep hR; clear hc) | (apply s_allocF tabZ_ok (d := 5); (iterate 6 (exact rfl)); intro locF σ hc; have hF := hc.at'; have nRF := hc.ne hR; replace hR := hc.keep hR; have nCF := hc.ne hC; replace hC := hc.keep hC; clear hc) | (refine o_wk 13 (.agg (patD anyP)) rfl wk_anyB ?_) | (apply s_callS; (iterate 6 (exact rfl)); exact hlook _ _ _ hF hC; rintro _ σ3 ⟨rfl, hF3, hC3, hK3⟩; replace hR := hK3 _ _ hR nRF nRC; replace hF := hF3; replace hC := hC3; clear hF3 hC3 hK3) | (refine o_freezeC locF 8 (rows := cm.map boolRow) hF rfl hC (by simp) ?_; intro σ hc; replace hF := hc.row; replace hR := hc.keep' _ _ hR nRF nRC; clear hc hC) | (apply s_storeF tab_ok; (iterate 7 (exact rfl)); exact hF; (iterate 2 (exact rfl)); intro σ hc; replace hF := hc.at'; replace hR := hc.keep (by first | assumption | (apply Ne.symm; assumption) | omega) hR; replace hC := hc.keep (by first | assumption | (apply Ne.symm; assumption) | omega) hC; clear hc) | (apply s_storeF tab_ok; (iterate 7 (exact rfl)); exact hR; (iterate 2 (exact rfl)); intro σ hc; replace hR := hc.at'; clear hc) | (apply s_ldF tab_ok; (iterate 5 (exact rfl)); exact hF; exact rfl) | (apply s_call; (iterate 6 (exact rfl)); first | (exact hof; rintro _ rfl)) | refine al_nil ?_ | refine q_then_n ?_ | refine aw_seq ?_ | refine aw_reg ?_ | refine aw_ret ?_)
  all_goals exact q_retB (resB_1 rfl (resV_c (t := 119) rfl rfl hR rfl)) ⟨_, rfl, rfl⟩
end
theorem lit_any (r : RoomT) : litP (inI r) (inT r) anyP := ⟨fun e => by omega, fun e => by omega, trivial⟩
theorem small_masses {l : List Pat} (hm : massL l ≤ 100000) : ∀ q ∈ l, q.small 1000000000 := fun q hq => by
  have h := smallL_mass (m := 1000000000) (Nat.le_trans hm (by omega)) (by omega)
  exact Pat.smallL_mem h q hq
theorem sum_any : ∀ l : List Pat, (l.map (unrP anyP)).sum = acL l
  | [] => rfl
  | a :: l => by
    rw [List.map_cons, List.sum_cons, sum_any l]
    have e : unrP anyP a = acP a := by rw [unrP_def, if_pos (show openB anyP = true from rfl)]
    rw [e]; rfl
theorem all_c {g : Sg} (hs : g.Small) (hsv : Serves g) {l : List Pat} (hm : massL l ≤ 100000) (ha : All2 g l) {n : Nat} (hn : acL l < n) : RunsP Try.prog 66 [.agg (sigD g), patsD l] (fun v => v = .agg (foundD (lookF (roomOf g l) n anyP (startF l)))) := by
  have hll := massL_len l
  refine all_c0 (by omega) (of_c g l hm) fun σ locF locC hF hC => ?_
  have hq : ∀ q ∈ l, litP (inI (roomOf g l)) (inT (roomOf g l)) q := fun q hq => litP_of (fun x hx => List.mem_cons_of_mem _ ((nums_mem hq).1 x hx)) fun s hs => List.mem_cons_of_mem _ ((nums_mem hq).2 s hs)
  exact look_c (r := roomOf g l) (g := g) ⟨rfl, hsv⟩ (room_sm hs hsv hm) (by show l.length ≤ _; omega) (small_masses hm) hq n anyP (startF l) σ locF locC 0 (all2_cons ha (wf_any g) fun q _ => twoP_any q) (lit_any _) (small_any _) (by show (l.map (unrP anyP)).sum < n; rw [sum_any]; exact hn) (by simp [startF, roomOf]) hF hC
end Go.Proofs.Ytjflembhgjcgkaa

/- C65: Check, Covers, of the document. -/
-- ALLUNDEF -- BOXZ
-- LEN: patD_len
-- ROW: patR_get row_map
-- DEF ALH: (apply s_allocF tabZ_ok (d := 4); (iterate 6 (exact rfl)); intro locH σ hc; have hH := hc.at'; clear hc)
-- DEF ALX: (apply s_allocF tabZ_ok (d := 7); (iterate 6 (exact rfl)); intro locX σ hc; have hX := hc.at'; have nHX := hc.ne hH; replace hH := hc.keep hH; clear hc)
-- DEF STH: (apply s_storeF tab_ok; (iterate 7 (exact rfl)); exact hH; (iterate 2 (exact rfl)); intro σ hc; replace hH := hc.at'; (try replace hX := hc.keep (by first | assumption | (apply Ne.symm; assumption)) hX); clear hc)
-- DEF STX: (apply s_storeF tab_ok; (iterate 7 (exact rfl)); exact hX; (iterate 2 (exact rfl)); intro σ hc; replace hX := hc.at'; replace hH := hc.keep (by first | assumption | (apply Ne.symm; assumption) | omega) hH; clear hc)
-- DEF LDX: (apply s_ldF tab_ok; (iterate 5 (exact rfl)); exact hX; exact rfl)
-- DEF LDH: (apply s_ldF tab_ok; (iterate 5 (exact rfl)); exact hH; exact rfl)
namespace Go.Proofs.Ytjflembhgjcgkaa
open Go.RowKit

section
variable {g : Sg} {l : List Pat}
set_option maxRecDepth 100000 in
set_option maxHeartbeats 8000000 in
theorem rcheck_bad (hs : g.Small) {m : Nat} (hm : m ≤ 1000000000) (hl : SmallP m l) (h : mayZ g l ≠ 0) : RunsP Try.prog 23 [.agg (sigD g), patsD l] (fun v => v = resC zeroP 0 2) := by
  refine RunsP.weak ?_
  have h1 := rserves_c g hs
  have h2 := rtog_c g hs m hm l hl
  cases e1 : servesB g with
  | false =>
    rw [e1] at h1
    refine enterPB 43 tab_ok Try.func23 rfl (by kernel_rfl) rfl rfl rfl ?_
    repeat' (first | refine s_op rfl ?_ | (apply s_skipV; (iterate 2 (exact rfl))) | (apply s_move; (iterate 4 (exact rfl))) | (apply s_ld_f tab_ok; (iterate 6 (exact rfl))) | (apply s_assign; (iterate 4 (exact rfl))) | (apply s_pick_t; (iterate 5 (exact rfl))) | (apply s_build tabZ_ok; (iterate 5 (exact rfl))) | (apply s_boxZ; (iterate 5 (exact rfl)); first | exact rfl | exact allD_mapd _) | (apply s_not_f; (iterate 4 (exact rfl))) | (apply s_allocF tabZ_ok (d := 4); (iterate 6 (exact rfl)); intro locH σ hc; have hH := hc.at'; clear hc) | (apply s_storeF tab_ok; (iterate 7 (exact rfl)); exact hH; (iterate 2 (exact rfl)); intro σ hc; replace hH := hc.at'; (try replace hX := hc.keep (by first | assumption | (apply Ne.symm; assumption)) hX); clear hc) | (apply s_call; (iterate 6 (exact rfl)); first | (exact h1; rintro _ rfl)) | refine al_nil ?_ | refine q_then_n ?_ | refine q_then_r ?_ | refine aw_seq ?_ | refine aw_reg ?_ | refine aw_true rfl ?_ | refine aw_ret ?_)
    all_goals exact q_retB (resB_3 rfl (resV_c (t := 41) rfl rfl hH rfl) (resV_t rfl) (resV_t rfl) rfl) ⟨_, rfl, wk_resC 0 2⟩
  | true =>
    have e2 : togB g l = false := by
      cases e2 : togB g l with
      | false => rfl
      | true => exact absurd (by unfold mayZ; rw [if_pos ⟨e1, e2⟩]) h
    rw [e1] at h1
    rw [e2] at h2
    refine enterPB 43 tab_ok Try.func23 rfl (by kernel_rfl) rfl rfl rfl ?_
    repeat' (first | refine s_op rfl ?_ | (apply s_move; (iterate 4 (exact rfl))) | (apply s_ld_f tab_ok; (iterate 6 (exact rfl))) | (apply s_assign; (iterate 4 (exact rfl))) | (apply s_pick_f; (iterate 5 (exact rfl))) | (apply s_build tabZ_ok; (iterate 5 (exact rfl))) | (apply s_boxZ; (iterate 5 (exact rfl)); first | exact rfl | exact allD_mapd _) | (apply s_not_t; (iterate 4 (exact rfl))) | (apply s_not_f; (iterate 4 (exact rfl))) | (apply s_allocF tabZ_ok (d := 4); (iterate 6 (exact rfl)); intro locH σ hc; have hH := hc.at'; clear hc) | (apply s_storeF tab_ok; (iterate 7 (exact rfl)); exact hH; (iterate 2 (exact rfl)); intro σ hc; replace hH := hc.at'; (try replace hX := hc.keep (by first | assumption | (apply Ne.symm; assumption)) hX); clear hc) | (apply s_call; (iterate 6 (exact rfl)); first | (exact h1; rintro _ rfl) | (exact h2; rintro _ rfl)) | refine al_nil ?_ | refine q_then_n ?_ | refine q_then_r ?_ | refine aw_seq ?_ | refine aw_reg ?_ | refine aw_true rfl ?_ | refine aw_ret ?_)
    all_goals exact q_retB (resB_3 rfl (resV_c (t := 41) rfl rfl hH rfl) (resV_t rfl) (resV_t rfl) rfl) ⟨_, rfl, wk_resC 0 2⟩
set_option maxRecDepth 100000 in
set_option maxHeartbeats 8000000 in
theorem rcheck_ok (hs : g.Small) {m : Nat} (hm : m ≤ 1000000000) (hl : SmallP m l) (h : mayZ g l = 0) {f : FoundT} (hcl : f.come.length = l.length) (hall : RunsP Try.prog 66 [.agg (sigD g), patsD l] (fun v => v = .agg (foundD f))) : RunsP Try.prog 23 [.agg (sigD g), patsD l] (fun v => v = if f.missing.kind = 0 then doneC (fun i => f.come.getD i false) l.length else resC f.missing 0 150) := by
  have h1 := rserves_c g hs
  have h2 := rtog_c g hs m hm l hl
  have e1 : servesB g = true ∧ togB g l = true := by
    unfold mayZ at h
    split at h
    · assumption
    · cases h
  rw [e1.1] at h1
  rw [e1.2] at h2
  have elen := patR_len l
  have hll := hl.len
  obtain ⟨⟨mk, mn, mi, ms, ma, mb, mc, ml⟩, cm⟩ := f
  simp only at hcl
  show RunsP Try.prog 23 [.agg (sigD g), patsD l] (fun v => v = if mk = 0 then doneC (fun i => cm.getD i false) l.length else resC (.mk mk mn mi ms ma mb mc ml) 0 150)
  have e3 : (cm.map boolRow).length = cm.length := by simp
  by_cases h0 : mk = 0
  · subst h0
    rw [if_pos rfl]
    have hall : RunsP Try.prog 66 [.agg (sigD g), patsD l] (fun v => v = .agg [.v (.int .u8 0), .v (.int .i64 0), .v (.int .i64 0), .v (.string ⟨#[]⟩), .v (.int .i64 0), .v (.int .i64 0), .v (.int .i64 0), .nil, boolsD cm]) := hall
    refine RunsP.weak ?_
    refine enterPB 43 tab_ok Try.func23 rfl (by kernel_rfl) rfl rfl rfl ?_
    repeat' (first | refine s_op rfl ?_ | (apply s_move; (iterate 4 (exact rfl))) | (apply s_fa_p tab_ok; (iterate 5 (exact rfl))) | (apply s_ld_f tab_ok; (iterate 6 (exact rfl))) | (apply s_assign; (iterate 4 (exact rfl))) | (apply s_pick_f; (iterate 5 (exact rfl))) | (apply s_boxZ; (iterate 5 (exact rfl)); first | exact rfl | exact allD_mapd _) | (apply s_not_t; (iterate 4 (exact rfl))) | (apply s_neq_f; (iterate 5 (exact rfl)); omega) | (apply s_allocF tabZ_ok (d := 4); (iterate 6 (exact rfl)); intro locH σ hc; have hH := hc.at'; clear hc) | (apply s_allocF tabZ_ok (d := 7); (iterate 6 (exact rfl)); intro locX σ hc; have hX := hc.at'; have nHX := hc.ne hH; replace hH := hc.keep hH; clear hc) | (apply s_storeF tab_ok; (iterate 7 (exact rfl)); exact hX; (iterate 2 (exact rfl)); intro σ hc; replace hX := hc.at'; replace hH := hc.keep (by first | assumption | (apply Ne.symm; assumption) | omega) hH; clear hc) | (apply s_ldF tab_ok; (iterate 5 (exact rfl)); exact hX; exact rfl) | (apply s_call; (iterate 6 (exact rfl)); first | (exact h1; rintro _ rfl) | (exact h2; rintro _ rfl) | (exact hall; rintro _ rfl)) | refine al_nil ?_ | refine q_then_n ?_ | refine aw_block ?_ | refine aw_seq ?_ | refine aw_reg ?_ | refine aw_false rfl ?_ | refine aw_skip ?_)
    all_goals
      refine w_loop [1, 2, 4, 7, 8] (fun n' vs σ => ∃ k : Nat, vs = [.d (patsD l), .d (.fptr (sigD g)), .ptr locH 0 0, .ptr locX 0 0, .d (.v (.int .i64 (k : Int)))] ∧ σ[locH]? = some (.row 41 [.d (.v (.int .u8 0)), .d (.v (.int .i64 0)), .d (.v (.int .i64 0)), .d (.v (.string ⟨#[]⟩)), .d (.v (.int .i64 0)), .d (.v (.int .i64 0)), .d (.v (.int .i64 0)), .d .nil]) ∧ σ[locX]? = some (.row 119 [.d (.v (.int .u8 0)), .d (.v (.int .i64 0)), .d (.v (.int .i64 0)), .d (.v (.string ⟨#[]⟩)), .d (.v (.int .i64 0)), .d (.v (.int .i64 0)), .d (.v (.int .i64 0)), .d .nil, .d (boolsD cm)]) ∧ k ≤ l.length ∧ n' = l.length - k ∧ ∀ i, i < k → cm.getD i false = true) rfl ⟨0, rfl, hH, hX, by omega, rfl, fun i hi => absurd hi (Nat.not_lt_zero i)⟩ ?_
      clear hH hX
      rintro n' vs σ ⟨k, rfl, hH, hX, hkl, rfl, hdone⟩ fr hfr
      cases hfr
      by_cases hlt : k < l.length
      · obtain ⟨b, hb⟩ := getS (l := cm) (k := k) (by omega)
        have hgd : cm.getD k false = b := by rw [List.getD_eq_getElem?_getD, hb]; rfl
        have hbr := row_map (f := boolRow) hb
        cases b
        · have hf : firstB (fun i => cm.getD i false) l.length = some k := firstB_at (u := fun i => cm.getD i false) hdone hlt hgd
          unfold doneC
          rw [hf]
          repeat' (first | refine s_op rfl ?_ | (apply s_move; (iterate 4 (exact rfl))) | (apply s_fa_p tab_ok; (iterate 5 (exact rfl))) | (apply s_ld_f tab_ok; (iterate 6 (exact rfl))) | (apply s_assign; (iterate 4 (exact rfl))) | (apply s_len tab_ok; (iterate 5 (exact rfl))) | (apply s_idx tab_ok; (iterate 7 (exact rfl)); (first | exact patR_get (by assumption) | exact row_map (by assumption) | assumption)) | (apply s_build tabZ_ok; (iterate 5 (exact rfl))) | (apply s_not_f; (iterate 4 (exact rfl))) | (apply s_lss_t; (iterate 5 (exact rfl)); omega) | (apply s_ldF tab_ok; (iterate 5 (exact rfl)); exact hX; exact rfl) | (apply s_storeF tab_ok; (iterate 7 (exact rfl)); exact hH; (iterate 2 (exact rfl)); intro σ hc; replace hH := hc.at'; (try replace hX := hc.keep (by first | assumption | (apply Ne.symm; assumption)) hX); clear hc) | refine al_nil ?_ | refine q_then_n ?_ | refine q_blk_r ?_ | refine aw_block ?_ | refine q_then_r ?_ | refine aw_seq ?_ | refine aw_reg ?_ | refine aw_true rfl ?_ | refine aw_skip ?_ | refine aw_ret ?_)
          all_goals exact q_retB (resB_3 rfl (resV_c (t := 41) rfl rfl hH rfl) (resV_t rfl) (resV_t rfl) rfl) ⟨_, rfl, wk_resC k 151⟩
        · repeat' (first | refine s_op rfl ?_ | (apply s_move; (iterate 4 (exact rfl))) | (apply s_fa_p tab_ok; (iterate 5 (exact rfl))) | (apply s_ld_f tab_ok; (iterate 6 (exact rfl))) | (apply s_assign; (iterate 4 (exact rfl))) | (apply s_len tab_ok; (iterate 5 (exact rfl))) | (apply s_idx tab_ok; (iterate 7 (exact rfl)); (first | exact patR_get (by assumption) | exact row_map (by assumption) | assumption)) | (apply s_not_t; (iterate 4 (exact rfl))) | (apply s_lss_t; (iterate 5 (exact rfl)); omega) | (apply s_add64; (iterate 5 (exact rfl)); omega) | (apply s_ldF tab_ok; (iterate 5 (exact rfl)); exact hX; exact rfl) | refine al_nil ?_ | refine q_then_n ?_ | refine q_blk_n ?_ | refine aw_block ?_ | refine aw_seq ?_ | refine aw_reg ?_ | refine aw_true rfl ?_ | refine aw_false rfl ?_ | refine aw_skip ?_)
          all_goals exact ⟨_, _, rfl, by omega, k + 1, rfl, hH, hX, by omega, rfl, fun i hi => by
            by_cases e : i = k
            · rw [e]; exact hgd
            · exact hdone i (by omega)⟩
      · have hf : firstB (fun i => cm.getD i false) l.length = none := firstB_none (u := fun i => cm.getD i false) fun i hi => hdone i (by omega)
        unfold doneC
        rw [hf]
        repeat' (first | refine s_op rfl ?_ | (apply s_move; (iterate 4 (exact rfl))) | (apply s_assign; (iterate 4 (exact rfl))) | (apply s_len tab_ok; (iterate 5 (exact rfl))) | (apply s_build tabZ_ok; (iterate 5 (exact rfl))) | (apply s_lss_f; (iterate 5 (exact rfl)); omega) | (apply s_storeF tab_ok; (iterate 7 (exact rfl)); exact hH; (iterate 2 (exact rfl)); intro σ hc; replace hH := hc.at'; (try replace hX := hc.keep (by first | assumption | (apply Ne.symm; assumption)) hX); clear hc) | refine al_nil ?_ | refine q_then_n ?_ | refine q_blk_e ?_ | refine q_then_e ?_ | refine aw_exit ?_ | refine aw_seq ?_ | refine aw_reg ?_ | refine aw_false rfl ?_ | refine aw_ret ?_)
        all_goals exact q_retB (resB_3 rfl (resV_c (t := 41) rfl rfl hH rfl) (resV_t rfl) (resV_t rfl) rfl) ⟨_, rfl, wk_resC 0 0⟩
  · rw [if_neg h0]
    have e : missD (.mk mk mn mi ms ma mb mc ml) = patD (.mk mk mn mi ms ma mb mc ml) := if_neg h0
    unfold foundD at hall
    simp only at hall
    rw [e] at hall
    refine enterPB 43 tab_ok Try.func23 rfl (by kernel_rfl) rfl rfl rfl ?_
    repeat' (first | refine s_op rfl ?_ | (apply s_move; (iterate 4 (exact rfl))) | (apply s_fa_p tab_ok; (iterate 5 (exact rfl))) | (apply s_ld_f tab_ok; (iterate 6 (exact rfl))) | (apply s_assign; (iterate 4 (exact rfl))) | (apply s_pick_f; (iterate 5 (exact rfl))) | (apply s_boxZ; (iterate 5 (exact rfl)); first | exact rfl | exact allD_mapd _) | (apply s_not_t; (iterate 4 (exact rfl))) | (apply s_neq_t; (iterate 5 (exact rfl)); omega) | (apply s_allocF tabZ_ok (d := 4); (iterate 6 (exact rfl)); intro locH σ hc; have hH := hc.at'; clear hc) | (apply s_allocF tabZ_ok (d := 7); (iterate 6 (exact rfl)); intro locX σ hc; have hX := hc.at'; have nHX := hc.ne hH; replace hH := hc.keep hH; clear hc) | (apply s_storeF tab_ok; (iterate 7 (exact rfl)); exact hX; (iterate 2 (exact rfl)); intro σ hc; replace hX := hc.at'; replace hH := hc.keep (by first | assumption | (apply Ne.symm; assumption) | omega) hH; clear hc) | (apply s_storeF tab_ok; (iterate 7 (exact rfl)); exact hH; (iterate 2 (exact rfl)); intro σ hc; replace hH := hc.at'; (try replace hX := hc.keep (by first | assumption | (apply Ne.symm; assumption)) hX); clear hc) | (apply s_ldF tab_ok; (iterate 5 (exact rfl)); exact hX; exact rfl) | (apply s_call; (iterate 6 (exact rfl)); first | (exact h1; rintro _ rfl) | (exact h2; rintro _ rfl) | (exact hall; rintro _ rfl)) | refine al_nil ?_ | refine q_then_n ?_ | refine q_then_r ?_ | refine aw_seq ?_ | refine aw_reg ?_ | refine aw_true rfl ?_ | refine aw_false rfl ?_ | refine aw_skip ?_ | refine aw_ret ?_)
    all_goals exact q_retB (resB_3 rfl (resV_c (t := 41) rfl rfl hH rfl) (resV_t rfl) (resV_t rfl) rfl) ⟨_, rfl, rfl⟩
end
end Go.Proofs.Ytjflembhgjcgkaa

/- M24: the document's answer and the program's agree; what is told is small. No program in sight. -/
namespace Go.Proofs.Ytjflembhgjcgkaa
open Go.RowKit

theorem aas_small (i : Nat) : (aas i).size = i := by simp [aas, ByteArray.size]
theorem fresh_small {g : Sg} {m A : Nat} (hmm : m ≤ maxLen) (hAm : A ≤ m) (hA : ∀ c ∈ g.cons, c.fields.length ≤ A) {l : List Head} (hl : l.length ≤ m) {p : Pat} (h : freshP g l = some p) : p.small m := by
  match l, h, hl with
  | [], h, _ => injection h with h; rw [← h]; exact small_any m
  | h0 :: t, h, hl =>
    simp only [freshP] at h
    split at h
    · injection h with h; rw [← h]; exact ⟨by simp, by simp [ByteArray.size, maxLen], trivial⟩
    · split at h
      · injection h with h
        rw [← h]
        have := (freshN_spec headS_inj (h0 :: t)).2.2
        exact ⟨by simp, by rw [aas_small]; omega, trivial⟩
      · obtain ⟨c, _, e⟩ := Option.map_eq_some_iff.1 h
        rw [← e]
        have ha : g.arity c ≤ A := by
          unfold Sg.arity Sg.con
          split
          · rename_i d hd
            split at hd
            · exact hA _ (List.mem_of_getElem? hd)
            · cases hd
          · omega
        exact ⟨by simp [anysL]; omega, by simp [ByteArray.size, maxLen], Pat.smallL_of (small_anys m _)⟩
theorem useful_small {g : Sg} {m A : Nat} (hmm : m ≤ maxLen) (hAm : A ≤ m) (hA : ∀ c ∈ g.cons, c.fields.length ≤ A) : ∀ (f : Nat) (rows : List (List Pat)) (v : List Pat) (B : Nat) (w : List Pat), UOk g m A B rows v → usefulF g f rows v = some w → ∀ p ∈ w, p.small m
  | 0, rows, v, B, w, u, h => by simp [usefulF] at h
  | f + 1, rows, [], B, w, u, h => by
    simp only [usefulF] at h
    split at h
    · injection h with h; subst h; intro p hp; cases hp
    · cases h
  | f + 1, rows, v0 :: vs, B, w, u, h => by
    have step : ∀ (q : Pat) (hd : Head) (kids : List Pat) (w : List Pat), q.s.size ≤ maxLen → kids.length ≤ A → UOk g m A (B + A) (belowL rows hd kids.length) (kids ++ vs) → withF (usefulF g f) rows vs hd q kids = some w → ∀ p ∈ w, p.small m := fun q hd kids w hq hk u' hw => by
      unfold withF at hw
      obtain ⟨w', e1, e2⟩ := Option.map_eq_some_iff.1 hw
      have ih := useful_small hmm hAm hA f _ _ _ w' u' e1
      intro p hp
      rw [← e2] at hp
      rcases List.mem_cons.1 hp with rfl | hp
      · obtain ⟨k, n, i, s, a, b, c, l⟩ := q
        exact ⟨by rw [List.length_take]; omega, hq, Pat.smallL_of fun p hp => ih p (List.mem_of_mem_take hp)⟩
      · exact ih p (List.mem_of_mem_drop hp)
    simp only [usefulF] at h
    cases ha : asksH v0 with
    | some hd =>
      rw [ha] at h
      have hl : v0.l.length = arityH g hd := wf_len ha (u.vwf v0 (List.mem_cons_self ..))
      have hk : v0.l.length ≤ A := by rw [hl]; exact arity_le hA hd
      have u' := u.below (h := hd) (kids := v0.l) hk (fun p hp hw => by rw [hl]; exact wf_len hp hw) (small_kids (u.vsmall v0 (List.mem_cons_self ..))).each (u.vwf v0 (List.mem_cons_self ..)).kids
      refine step v0 hd v0.l w ?_ hk u' h
      have := u.vsmall v0 (List.mem_cons_self ..)
      obtain ⟨k, n, i, s, a, b, c, l⟩ := v0
      exact this.2.1
    | none =>
      rw [ha] at h
      have hfs : ∀ w, ((headsL rows).findSome? fun hd => withF (usefulF g f) rows vs hd (patH hd) (anysL (arityH g hd))) = some w → ∀ p ∈ w, p.small m := fun w h => by
        obtain ⟨hd, hm, hw⟩ := List.exists_of_findSome?_eq_some h
        obtain ⟨p, rest, hp, hpa⟩ := headsL_mem hm
        have hk : (anysL (arityH g hd)).length ≤ A := by simp [anysL]; exact arity_le hA hd
        have u' := u.below (h := hd) (kids := anysL (arityH g hd)) hk (fun p hp hw => by rw [show (anysL (arityH g hd)).length = arityH g hd by simp [anysL]]; exact wf_len hp hw) (small_anys m _) (wf_anys g _)
        refine step (patH hd) hd _ w ?_ hk u' hw
        have hps := u.small _ hp p (List.mem_cons_self ..)
        obtain ⟨k, n, i, s, a, b, c, l⟩ := p
        rcases asks_iff.1 hpa with ⟨_, e⟩ | ⟨_, e⟩ | ⟨_, e⟩ <;> subst e
        · show (⟨#[]⟩ : ByteArray).size ≤ _; simp [ByteArray.size, maxLen]
        · exact hps.2.1
        · show (⟨#[]⟩ : ByteArray).size ≤ _; simp [ByteArray.size, maxLen]
      cases hp : freshP g (headsL rows) with
      | none =>
        rw [hp] at h
        exact hfs w h
      | some p =>
        rw [hp] at h
        cases hw : usefulF g f (othersL rows) vs with
        | none =>
          rw [hw] at h
          exact hfs w h
        | some w' =>
          rw [hw] at h
          injection h with h
          subst h
          intro q hq
          rcases List.mem_cons.1 hq with rfl | hq
          · exact fresh_small hmm hAm hA (Nat.le_trans (headsL_len rows) u.len) hp
          · exact useful_small hmm hAm hA f _ _ _ w' u.others hw q hq

theorem ones_eq (l : List Pat) : onesL l = onesL' l := rfl
/-- What Look says is what useful says. -/
theorem agree {g : Sg} (hsv : Serves g) {l : List Pat} (ha : All2 g l) {A : Nat} (hA : ∀ c ∈ g.cons, c.fields.length ≤ A) {f n : Nat} (hf : acL l * (A + 1) + 1 < f) (hn : acL l < n) :
    ((usefulF g f (onesL l) (anysL 1)).isSome = true ↔ (lookF (roomOf g l) n anyP (startF l)).missing.kind ≠ 0) ∧ (lookF (roomOf g l) n anyP (startF l)).come.length = l.length ∧ ∀ i p, l[i]? = some p → (usefulF g f (onesL (l.take i)) [p]).isSome = (lookF (roomOf g l) n anyP (startF l)).come.getD i false := by
  obtain ⟨h1, h2, h3⟩ := all_sem hsv ha hn
  refine ⟨by rw [h1]; exact miss_useful hsv ha hA hf, h2, fun i p hp => ?_⟩
  have hc := come_useful hsv ha hA hf hp
  have h3 := h3 i
  rw [List.getD_eq_getElem?_getD]
  obtain ⟨b, hb⟩ := getS (l := (lookF (roomOf g l) n anyP (startF l)).come) (k := i) (by rw [h2]; exact (List.getElem?_eq_some_iff.1 hp).1)
  rw [hb] at h3 ⊢
  show _ = b
  cases b with
  | true => exact hc.2 (h3.1 rfl)
  | false =>
    cases hu : (usefulF g f (onesL (l.take i)) [p]).isSome with
    | false => rfl
    | true => have := h3.2 (hc.1 hu); injection this with this; cases this
theorem firstB_congr {u v : Nat → Bool} {n : Nat} (h : ∀ i, i < n → u i = v i) : firstB u n = firstB v n := by
  unfold firstB
  have : ∀ l : List Nat, (∀ i ∈ l, i < n) → l.find? (fun i => !u i) = l.find? (fun i => !v i) := fun l hl => by
    induction l with
    | nil => rfl
    | cons a l ih =>
      simp only [List.find?_cons]
      rw [h a (hl a (List.mem_cons_self ..)), ih fun i hi => hl i (List.mem_cons_of_mem _ hi)]
  exact this _ fun i hi => List.mem_range.1 hi
theorem doneC_congr {u v : Nat → Bool} {n : Nat} (h : ∀ i, i < n → u i = v i) : doneC u n = doneC v n := by
  unfold doneC; rw [firstB_congr h]
end Go.Proofs.Ytjflembhgjcgkaa
