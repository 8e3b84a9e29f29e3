/- C16: together, of the program: a round over the patterns. -/
import Derived.Test.YtjflembhgjcgkaaTP11C13x2
import Derived.Test.YtjflembhgjcgkaaTP11XM4M7M5
set_option linter.unusedSimpArgs false
set_option linter.unusedVariables false
namespace Go.Proofs.Ytjflembhgjcgkaa
open Go.RowKit

theorem mapP_ok : Try.prog.underlying 168 = some (.map 3 26) := by kernel_rfl
theorem z26 : ∃ u, (∀ w : World, (zeroValue 26).run Try.prog w = .ok u w) ∧ ∀ x : Ctx, ARep x (.d .nil) u := by
  have h : (Try.prog.info? 26).map (fun i => i.zero) = some (some (.slice none 0 0)) := by kernel_rfl
  cases hi : Try.prog.info? 26 with
  | none => rw [hi] at h; cases h
  | some i =>
    rw [hi] at h
    injection h with h
    exact ⟨.slice none 0 0, fun w => by simp [zeroValue, typeInfo, hi, h], fun x => ⟨none, rfl⟩⟩

theorem klaw : KeyLaw Try.prog 3 kI := int_law Try.underlying3
theorem popen_nil : RunsP Try.prog 77 [.agg rowNil] (fun v => v = .v (.bool true)) := (popen_c anyP).wkA (.cons (Wk.agg (wkL_patnil (Wk.nil 8))) .nil)
theorem grpR {c : Int} {l : List Pat} {p : Pat} (h5 : p.kind = 5) (hn : p.n = c) : patR (grp c l) ++ [patD p] = patR (grp c (l ++ [p])) := by rw [grp_yes h5 hn, patR_append]; rfl
/-- The first loop's body. -/
noncomputable def tog1 : Option Code := match Try.f68.body with
  | some c => match findBlock 0 c with
    | some (.block _ (.loop x)) => some x
    | _ => none
  | none => none

/-- How a round ends well. -/
def TQ1 (g : Sg) (l : List Pat) (locF locM : Nat) (k : Nat) : Exit → Fr → List AObj → Prop
  | .normal, fr, σ => getO [2, 5, 6, 17, 18, 19] fr = some [.d (.fptr (sigD g)), .ptr locF 0 0, .mp locM, .d (patsD l), .d (.v (.int .i64 ((patR l).length : Int))), .d (.v (.int .i64 ((k + 1 : Nat) : Int)))] ∧
      ∃ cs G, σ[locF]? = some (.row 41 cs) ∧ FirstIs g cs (l.take (k + 1)) ∧ GInv σ locM G (l.take (k + 1)) ∧ ∀ p ∈ l.take (k + 1), aloneB g p = true
  | .ret, fr, σ => fget fr 4 = .d (.v (.bool false)) ∧ togB g l = false
  | _, _, _ => False

section
variable {g : Sg} {l : List Pat} {locF locM k : Nat} {cs : List AV} {G : List (Int × Nat × Nat)} {σ : List AObj}
variable {pk pn pi : Int} {ps : ByteArray} {pa pb pc : Int} {pl : List Pat}

set_option maxRecDepth 100000 in
set_option maxHeartbeats 4000000 in
theorem tog1_bad (hs : g.Small) (hl : l.length ≤ 1000000000) (hlt : k < l.length) (hq : l[k]? = some (Pat.mk pk pn pi ps pa pb pc pl)) (hpl : pl.length ≤ 1000000000) (hF : σ[locF]? = some (.row 41 cs)) (hG : GInv σ locM G (l.take k))
    (hb : aloneB g (.mk pk pn pi ps pa pb pc pl) = false) {X : Code} (hX : tog1 = some X) :
    AWk Try.prog 110 X (TQ1 g l locF locM k) ([2, 5, 6, 17, 18, 19].zip [.d (.fptr (sigD g)), .ptr locF 0 0, .mp locM, .d (patsD l), .d (.v (.int .i64 ((patR l).length : Int))), .d (.v (.int .i64 (k : Int)))]) σ := by
  cases hX
  have e1 := patR_len l
  have ha := may_c g hs pk pn pi ps pa pb pc pl hpl
  rw [hb] at ha
  repeat' (first | refine s_op rfl ?_ | (apply s_ld_f tab_ok; (iterate 6 (exact rfl))) | (apply s_assign; (iterate 4 (exact rfl))) | (apply s_idx tab_ok; (iterate 7 (exact rfl)); (first | exact patR_get (by assumption) | exact valR_get (by assumption) | exact row_map (by assumption) | assumption)) | (apply s_not_f; (iterate 4 (exact rfl))) | (apply s_lss_t; (iterate 5 (exact rfl)); omega) | (apply s_allocF tabZ_ok; (iterate 6 (exact rfl)); intro locX σ hc; have hX := hc.at'; have nFX := hc.ne hF; replace hF := hc.keep hF; replace hG := hG.fresh hc; clear hc) | (apply s_storeF tab_ok; (iterate 7 (exact rfl)); exact hX; (iterate 2 (exact rfl)); intro σ hc; replace hG := hG.chg hX hc; replace hX := hc.at'; replace hF := hc.keep nFX hF; clear hc) | (apply s_ldF tab_ok; (iterate 5 (exact rfl)); exact hX; exact rfl) | (apply s_call; (iterate 6 (exact rfl)); first | (exact ha; rintro _ rfl)) | refine al_nil ?_ | refine q_then_n ?_ | refine q_blk_r ?_ | refine aw_block ?_ | refine q_then_r ?_ | refine aw_seq ?_ | refine aw_reg ?_ | refine aw_true rfl ?_ | refine aw_skip ?_ | refine aw_ret ?_)
  exact ⟨rfl, tog_alone (List.mem_of_getElem? hq) hb⟩

set_option maxRecDepth 100000 in
set_option maxHeartbeats 4000000 in
theorem tog1_open_ (hs : g.Small) (hl : l.length ≤ 1000000000) (hlt : k < l.length) (hq : l[k]? = some (Pat.mk pk pn pi ps pa pb pc pl)) (hpl : pl.length ≤ 1000000000) (hF : σ[locF]? = some (.row 41 cs)) (hG : GInv σ locM G (l.take k))
    (hI : FirstIs g cs (l.take k)) (hb : aloneB g (.mk pk pn pi ps pa pb pc pl) = true) (hA : ∀ p ∈ l.take k, aloneB g p = true) (ho : openB (.mk pk pn pi ps pa pb pc pl) = true) {X : Code} (hX : tog1 = some X) :
    AWk Try.prog 110 X (TQ1 g l locF locM k) ([2, 5, 6, 17, 18, 19].zip [.d (.fptr (sigD g)), .ptr locF 0 0, .mp locM, .d (patsD l), .d (.v (.int .i64 ((patR l).length : Int))), .d (.v (.int .i64 (k : Int)))]) σ := by
  cases hX
  have e1 := patR_len l
  have ha := may_c g hs pk pn pi ps pa pb pc pl hpl
  rw [hb] at ha
  have ht : l.take (k + 1) = l.take k ++ [Pat.mk pk pn pi ps pa pb pc pl] := by rw [List.take_add_one, hq]; rfl
  have hA' : ∀ p ∈ l.take (k + 1), aloneB g p = true := fun p hp => by
    rw [ht] at hp
    rcases List.mem_append.1 hp with hp | hp
    · exact hA p hp
    · simp at hp; subst hp; exact hb
  have ho1 := popen_c (.mk pk pn pi ps pa pb pc pl)
  rw [ho] at ho1
  have h5 : (Pat.mk pk pn pi ps pa pb pc pl).kind ≠ 5 := by
    have := of_decide_eq_true ho
    simp only [Pat.kind] at this ⊢
    omega
  repeat' (first | refine s_op rfl ?_ | (apply s_move; (iterate 4 (exact rfl))) | (apply s_ld_f tab_ok; (iterate 6 (exact rfl))) | (apply s_idx tab_ok; (iterate 7 (exact rfl)); (first | exact patR_get (by assumption) | exact valR_get (by assumption) | exact row_map (by assumption) | assumption)) | (apply s_not_t; (iterate 4 (exact rfl))) | (apply s_lss_t; (iterate 5 (exact rfl)); omega) | (apply s_add64; (iterate 5 (exact rfl)); omega) | (apply s_allocF tabZ_ok; (iterate 6 (exact rfl)); intro locX σ hc; have hX := hc.at'; have nFX := hc.ne hF; replace hF := hc.keep hF; replace hG := hG.fresh hc; clear hc) | (apply s_storeF tab_ok; (iterate 7 (exact rfl)); exact hX; (iterate 2 (exact rfl)); intro σ hc; replace hG := hG.chg hX hc; replace hX := hc.at'; replace hF := hc.keep nFX hF; clear hc) | (apply s_ldF tab_ok; (iterate 5 (exact rfl)); exact hX; exact rfl) | (apply s_call; (iterate 6 (exact rfl)); first | (exact ha; rintro _ rfl) | (exact ho1; rintro _ rfl)) | refine al_nil ?_ | refine q_then_n ?_ | refine q_blk_e ?_ | refine q_then_e ?_ | refine aw_block ?_ | refine aw_exit ?_ | refine aw_seq ?_ | refine aw_reg ?_ | refine aw_true rfl ?_ | refine aw_false rfl ?_ | refine aw_skip ?_)
  exact ⟨rfl, _, _, hF, by rw [ht]; exact hI.open_ ho, by rw [ht]; exact hG.skip h5, hA'⟩

set_option maxRecDepth 100000 in
set_option maxHeartbeats 4000000 in
theorem tog1_firstlit (hs : g.Small) (hl : l.length ≤ 1000000000) (hlt : k < l.length) (hq : l[k]? = some (Pat.mk pk pn pi ps pa pb pc pl)) (hpl : pl.length ≤ 1000000000) (hF : σ[locF]? = some (.row 41 cs)) (hG : GInv σ locM G (l.take k))
    (hcs : cs = rowNil.map .d) (hall : ∀ p ∈ l.take k, openB p = true) (hb : aloneB g (.mk pk pn pi ps pa pb pc pl) = true) (hA : ∀ p ∈ l.take k, aloneB g p = true) (ho : openB (.mk pk pn pi ps pa pb pc pl) = false) (h5 : pk ≠ 5) {X : Code} (hX : tog1 = some X) :
    AWk Try.prog 110 X (TQ1 g l locF locM k) ([2, 5, 6, 17, 18, 19].zip [.d (.fptr (sigD g)), .ptr locF 0 0, .mp locM, .d (patsD l), .d (.v (.int .i64 ((patR l).length : Int))), .d (.v (.int .i64 (k : Int)))]) σ := by
  cases hX
  have e1 := patR_len l
  have ha := may_c g hs pk pn pi ps pa pb pc pl hpl
  rw [hb] at ha
  have ht : l.take (k + 1) = l.take k ++ [Pat.mk pk pn pi ps pa pb pc pl] := by rw [List.take_add_one, hq]; rfl
  have hA' : ∀ p ∈ l.take (k + 1), aloneB g p = true := fun p hp => by
    rw [ht] at hp
    rcases List.mem_append.1 hp with hp | hp
    · exact hA p hp
    · simp at hp; subst hp; exact hb
  have ho1 := popen_c (.mk pk pn pi ps pa pb pc pl)
  rw [ho] at ho1
  have hI' : FirstIs g ((patD (.mk pk pn pi ps pa pb pc pl)).map .d) (l.take (k + 1)) := by
    rw [ht]
    refine .inr ⟨_, by simp, ho, rfl, fun q hq' => ?_⟩
    rcases List.mem_append.1 hq' with hq' | hq'
    · unfold pairB; rw [hall q hq']; simp
    · simp at hq'; subst hq'; exact pair_self g _
  subst hcs
  repeat' (first | refine s_op rfl ?_ | (apply s_skipV; (iterate 2 (exact rfl))) | (apply s_move; (iterate 4 (exact rfl))) | (apply s_fa_p tab_ok; (iterate 5 (exact rfl))) | (apply s_ld_f tab_ok; (iterate 6 (exact rfl))) | (apply s_pick_f; (iterate 5 (exact rfl))) | (apply s_idx tab_ok; (iterate 7 (exact rfl)); (first | exact patR_get (by assumption) | exact valR_get (by assumption) | exact row_map (by assumption) | assumption)) | (apply s_not_t; (iterate 4 (exact rfl))) | (apply s_eql_f; (iterate 5 (exact rfl)); omega) | (apply s_neq_f; (iterate 5 (exact rfl)); omega) | (apply s_lss_t; (iterate 5 (exact rfl)); omega) | (apply s_add64; (iterate 5 (exact rfl)); omega) | (apply s_allocF tabZ_ok; (iterate 6 (exact rfl)); intro locX σ hc; have hX := hc.at'; have nFX := hc.ne hF; replace hF := hc.keep hF; replace hG := hG.fresh hc; clear hc) | (apply s_storeF tab_ok; (iterate 7 (exact rfl)); exact hX; (iterate 2 (exact rfl)); intro σ hc; replace hG := hG.chg hX hc; replace hX := hc.at'; replace hF := hc.keep nFX hF; clear hc) | (apply s_storeF tab_ok; (iterate 7 (exact rfl)); exact hF; (iterate 2 (exact rfl)); intro σ hc; replace hG := hG.chg hF hc; replace hF := hc.at'; replace hX := hc.keep nFX.symm hX; clear hc) | (apply s_ldF tab_ok; (iterate 5 (exact rfl)); exact hX; exact rfl) | (apply s_ldF tab_ok; (iterate 5 (exact rfl)); exact hF; exact rfl) | (apply s_call; (iterate 6 (exact rfl)); first | (exact ha; rintro _ rfl) | (exact ho1; rintro _ rfl) | (exact popen_nil; rintro _ rfl)) | refine al_nil ?_ | refine q_then_n ?_ | refine q_blk_n ?_ | refine aw_block ?_ | refine aw_seq ?_ | refine aw_reg ?_ | refine aw_true rfl ?_ | refine aw_false rfl ?_ | refine aw_skip ?_ | refine aw_draws (id := 11) (trO [0, 1, 2, 3, 4, 5, 6, 7, 8, 9, 10, 11, 12, 13, 14, 15, 16, 17, 18, 19, 20, 21, 22, 23, 24, 25, 26] .nil) [] [] mixed_ok (by kernel_rfl) ?_)
  exact ⟨rfl, _, _, hF, hI', by rw [ht]; exact hG.skip h5, hA'⟩

set_option maxRecDepth 100000 in
set_option maxHeartbeats 4000000 in
theorem tog1_firstcon (hs : g.Small) (hl : l.length ≤ 1000000000) (hlt : k < l.length) (hq : l[k]? = some (Pat.mk pk pn pi ps pa pb pc pl)) (hpl : pl.length ≤ 1000000000) (hF : σ[locF]? = some (.row 41 cs)) (hG : GInv σ locM G (l.take k))
    (hcs : cs = rowNil.map .d) (hall : ∀ p ∈ l.take k, openB p = true) (hb : aloneB g (.mk pk pn pi ps pa pb pc pl) = true) (hA : ∀ p ∈ l.take k, aloneB g p = true) (ho : openB (.mk pk pn pi ps pa pb pc pl) = false) (h5 : pk = 5) (hno : ∀ x ∈ G, x.1 ≠ pn) (hget : (getA pn (G.map (entE (l.take k)))).getD (.d .nil) = .d .nil) (hput : ∀ v, putA pn v (G.map (entE (l.take k))) = G.map (entE (l.take k)) ++ [(pn, v)]) {X : Code} (hX : tog1 = some X) :
    AWk Try.prog 110 X (TQ1 g l locF locM k) ([2, 5, 6, 17, 18, 19].zip [.d (.fptr (sigD g)), .ptr locF 0 0, .mp locM, .d (patsD l), .d (.v (.int .i64 ((patR l).length : Int))), .d (.v (.int .i64 (k : Int)))]) σ := by
  cases hX
  have e1 := patR_len l
  have ha := may_c g hs pk pn pi ps pa pb pc pl hpl
  rw [hb] at ha
  have ht : l.take (k + 1) = l.take k ++ [Pat.mk pk pn pi ps pa pb pc pl] := by rw [List.take_add_one, hq]; rfl
  have hA' : ∀ p ∈ l.take (k + 1), aloneB g p = true := fun p hp => by
    rw [ht] at hp
    rcases List.mem_append.1 hp with hp | hp
    · exact hA p hp
    · simp at hp; subst hp; exact hb
  have ho1 := popen_c (.mk pk pn pi ps pa pb pc pl)
  rw [ho] at ho1
  have hI' : FirstIs g ((patD (.mk pk pn pi ps pa pb pc pl)).map .d) (l.take (k + 1)) := by
    rw [ht]
    refine .inr ⟨_, by simp, ho, rfl, fun q hq' => ?_⟩
    rcases List.mem_append.1 hq' with hq' | hq'
    · unfold pairB; rw [hall q hq']; simp
    · simp at hq'; subst hq'; exact pair_self g _
  subst h5
  obtain ⟨c1, c2, _⟩ := alone_con hb rfl
  simp only [Pat.n] at c1 c2
  obtain ⟨m, rfl⟩ : ∃ m : Nat, pn = m := ⟨pn.toNat, by omega⟩
  obtain ⟨⟨nm, dt, fs0, ms⟩, hcn⟩ : ∃ c, g.cons[m]? = some c := getS (by omega)
  have hgn : grp (m : Int) (l.take k) = [] := by
    refine List.filter_eq_nil_iff.2 fun q hq' => ?_
    simp only [decide_eq_true_eq]
    intro hh
    obtain ⟨x, hx, e⟩ := hG.has q hq' hh.1
    exact hno x hx (by rw [e]; exact hh.2)
  have hrows : [] ++ [patD (.mk 5 m pi ps pa pb pc pl)] = patR (grp m (l.take k ++ [Pat.mk 5 m pi ps pa pb pc pl])) := by rw [← grpR (c := (m : Int)) (l := l.take k) (p := Pat.mk 5 m pi ps pa pb pc pl) rfl rfl, hgn]; rfl
  subst hcs
  repeat' (first | refine s_op rfl ?_ | (apply s_move; (iterate 4 (exact rfl))) | (apply s_fa_p tab_ok; (iterate 5 (exact rfl))) | (apply s_fa_f tab_ok; (iterate 6 (exact rfl))) | (apply s_ld_f tab_ok; (iterate 6 (exact rfl))) | (apply s_pick_t; (iterate 5 (exact rfl))) | (apply s_pick_f; (iterate 5 (exact rfl))) | (apply s_idx tab_ok; (iterate 7 (exact rfl)); (first | exact patR_get (by assumption) | exact valR_get (by assumption) | exact row_map (by assumption) | assumption)) | (apply s_lit tab_ok tabZ_ok; (iterate 10 (exact rfl))) | (apply s_not_t; (iterate 4 (exact rfl))) | (apply s_eql_t; (iterate 5 (exact rfl)); omega) | (apply s_neq_f; (iterate 5 (exact rfl)); omega) | (apply s_lss_t; (iterate 5 (exact rfl)); omega) | (apply s_add64; (iterate 5 (exact rfl)); omega) | (apply s_allocF tabZ_ok; (iterate 6 (exact rfl)); intro locX σ hc; have hX := hc.at'; have nFX := hc.ne hF; replace hF := hc.keep hF; replace hG := hG.fresh hc; clear hc) | (apply s_storeF tab_ok; (iterate 7 (exact rfl)); exact hX; (iterate 2 (exact rfl)); intro σ hc; replace hG := hG.chg hX hc; replace hX := hc.at'; replace hF := hc.keep nFX hF; clear hc) | (apply s_storeF tab_ok; (iterate 7 (exact rfl)); exact hF; (iterate 2 (exact rfl)); intro σ hc; replace hG := hG.chg hF hc; replace hF := hc.at'; replace hX := hc.keep nFX.symm hX; clear hc) | (apply s_ldF tab_ok; (iterate 5 (exact rfl)); exact hX; exact rfl) | (apply s_ldF tab_ok; (iterate 5 (exact rfl)); exact hF; exact rfl) | (apply s_lookup1 klaw mapP_ok z26 (m : Int) _ (.d .nil); (iterate 4 (exact rfl)); exact hG.map; exact rfl; exact hget) | (refine o_adoptF 68 41 8 rfl ?_; intro locN σ hcN; have nFN := hcN.ne hF; have nXN := hcN.ne hX; replace hF := hcN.keep hF; replace hX := hcN.keep hX) | (apply s_appF tab_ok tabZ_ok (rows2 := [patD (.mk 5 m pi ps pa pb pc pl)]) (rows3 := patR (grp m (l.take k ++ [Pat.mk 5 m pi ps pa pb pc pl]))) (m := (patR (grp m (l.take k ++ [Pat.mk 5 m pi ps pa pb pc pl]))).length); (iterate 10 (exact rfl)); exact hcN.at'; exact src_of (Tab.slIs tab_ok (t := 26) rfl) (rows_d rfl); exact hrows; (rw [← hrows]; simp); intro σ hc2; have hN := fresh_chg hcN hc2; replace hF := hc2.keep nFN hF; replace hX := hc2.keep nXN hX; clear hc2) | (apply s_mapUpdateF klaw mapP_ok (m : Int) _ _; (iterate 4 (exact rfl)); exact hN.keep hG.map; exact rfl; exact hput _; intro σ hc3; have nFM : locF ≠ locM := (fun e => by (have := hN.keep hG.map; rw [← e, hF] at this; cases this)); replace hF := hc3.keep nFM hF) | (apply s_call; (iterate 6 (exact rfl)); first | (exact ha; rintro _ rfl) | (exact ho1; rintro _ rfl) | (exact popen_nil; rintro _ rfl)) | refine al_nil ?_ | refine q_then_n ?_ | refine q_blk_n ?_ | refine aw_block ?_ | refine aw_seq ?_ | refine aw_reg ?_ | refine aw_true rfl ?_ | refine aw_false rfl ?_ | refine aw_skip ?_ | refine al_fork ?_ ?_ | refine aw_draws (id := 11) (trO [0, 1, 2, 3, 4, 5, 6, 7, 8, 9, 10, 11, 12, 13, 14, 15, 16, 17, 18, 19, 20, 21, 22, 23, 24, 25, 26] .nil) [] [] mixed_ok (by kernel_rfl) ?_ | refine aw_draws (id := 14) (trO [0, 1, 3, 4, 5, 6, 7] (.fork 2 (trO [8, 9, 10] .nil) 8 (.fork 2 (trO [9, 10] .nil) 9 (trO [2, 10] .nil)))) [2, 8, 9, 10] [9, 10] mixed_ok (by kernel_rfl) ?_)
  all_goals exact ⟨rfl, _, _, hF, hI', by rw [ht]; exact hG.new (p := Pat.mk 5 m pi ps pa pb pc pl) rfl hno hN hc3, hA'⟩

set_option maxRecDepth 100000 in
set_option maxHeartbeats 4000000 in
theorem tog1_nopairk (hs : g.Small) (hl : l.length ≤ 1000000000) (hlt : k < l.length) (hq : l[k]? = some (Pat.mk pk pn pi ps pa pb pc pl)) (hpl : pl.length ≤ 1000000000) (hF : σ[locF]? = some (.row 41 cs)) (hG : GInv σ locM G (l.take k))
    {fk fn fi : Int} {fs : ByteArray} {fa fb fc : Int} {fl : List Pat} (hFm : Pat.mk fk fn fi fs fa fb fc fl ∈ l.take k) (hFo : openB (.mk fk fn fi fs fa fb fc fl) = false) (hcs : cs = (patD (.mk fk fn fi fs fa fb fc fl)).map .d) (hb : aloneB g (.mk pk pn pi ps pa pb pc pl) = true) (hA : ∀ p ∈ l.take k, aloneB g p = true) (ho : openB (.mk pk pn pi ps pa pb pc pl) = false) (hk : fk ≠ pk) (hpr : pairB g (.mk fk fn fi fs fa fb fc fl) (.mk pk pn pi ps pa pb pc pl) = false) {X : Code} (hX : tog1 = some X) :
    AWk Try.prog 110 X (TQ1 g l locF locM k) ([2, 5, 6, 17, 18, 19].zip [.d (.fptr (sigD g)), .ptr locF 0 0, .mp locM, .d (patsD l), .d (.v (.int .i64 ((patR l).length : Int))), .d (.v (.int .i64 (k : Int)))]) σ := by
  cases hX
  have e1 := patR_len l
  have ha := may_c g hs pk pn pi ps pa pb pc pl hpl
  rw [hb] at ha
  have ho1 := popen_c (.mk pk pn pi ps pa pb pc pl)
  rw [ho] at ho1
  have hof := popen_c (.mk fk fn fi fs fa fb fc fl)
  rw [hFo] at hof
  subst hcs
  repeat' (first | refine s_op rfl ?_ | (apply s_skipV; (iterate 2 (exact rfl))) | (apply s_skipU; (iterate 3 (exact rfl))) | (apply s_move; (iterate 4 (exact rfl))) | (apply s_fa_p tab_ok; (iterate 5 (exact rfl))) | (apply s_ld_f tab_ok; (iterate 6 (exact rfl))) | (apply s_assign; (iterate 4 (exact rfl))) | (apply s_pick_t; (iterate 5 (exact rfl))) | (apply s_idx tab_ok; (iterate 7 (exact rfl)); (first | exact patR_get (by assumption) | exact valR_get (by assumption) | exact row_map (by assumption) | assumption)) | (apply s_not_t; (iterate 4 (exact rfl))) | (apply s_neq_t; (iterate 5 (exact rfl)); omega) | (apply s_lss_t; (iterate 5 (exact rfl)); omega) | (apply s_allocF tabZ_ok; (iterate 6 (exact rfl)); intro locX σ hc; have hX := hc.at'; have nFX := hc.ne hF; replace hF := hc.keep hF; replace hG := hG.fresh hc; clear hc) | (apply s_storeF tab_ok; (iterate 7 (exact rfl)); exact hX; (iterate 2 (exact rfl)); intro σ hc; replace hG := hG.chg hX hc; replace hX := hc.at'; replace hF := hc.keep nFX hF; clear hc) | (apply s_ldF tab_ok; (iterate 5 (exact rfl)); exact hX; exact rfl) | (apply s_ldF tab_ok; (iterate 5 (exact rfl)); exact hF; exact rfl) | (apply s_call; (iterate 6 (exact rfl)); first | (exact ha; rintro _ rfl) | (exact ho1; rintro _ rfl) | (exact hof; rintro _ rfl)) | refine al_nil ?_ | refine q_then_n ?_ | refine q_blk_r ?_ | refine aw_block ?_ | refine q_then_r ?_ | refine aw_seq ?_ | refine aw_reg ?_ | refine aw_true rfl ?_ | refine aw_false rfl ?_ | refine aw_skip ?_ | refine aw_ret ?_ | refine aw_draws (id := 11) (trO [0, 1, 2, 3, 4, 5, 6, 7, 8, 9, 10, 11, 12, 13, 14, 15, 16, 17, 18, 19, 20, 21, 22, 23, 24, 25, 26] .nil) [] [] mixed_ok (by kernel_rfl) ?_)
  exact ⟨rfl, tog_pair (List.mem_of_mem_take hFm) (List.mem_of_getElem? hq) hpr⟩

set_option maxRecDepth 100000 in
set_option maxHeartbeats 4000000 in
theorem tog1_nopaird (hs : g.Small) (hl : l.length ≤ 1000000000) (hlt : k < l.length) (hq : l[k]? = some (Pat.mk pk pn pi ps pa pb pc pl)) (hpl : pl.length ≤ 1000000000) (hF : σ[locF]? = some (.row 41 cs)) (hG : GInv σ locM G (l.take k))
    {fk fn fi : Int} {fs : ByteArray} {fa fb fc : Int} {fl : List Pat} (hFm : Pat.mk fk fn fi fs fa fb fc fl ∈ l.take k) (hFo : openB (.mk fk fn fi fs fa fb fc fl) = false) (hcs : cs = (patD (.mk fk fn fi fs fa fb fc fl)).map .d) (hb : aloneB g (.mk pk pn pi ps pa pb pc pl) = true) (hA : ∀ p ∈ l.take k, aloneB g p = true) (ho : openB (.mk pk pn pi ps pa pb pc pl) = false) (hf5 : fk = 5) (h5 : pk = 5) (hd : g.dataOf fn ≠ g.dataOf pn) (hpr : pairB g (.mk fk fn fi fs fa fb fc fl) (.mk pk pn pi ps pa pb pc pl) = false) {X : Code} (hX : tog1 = some X) :
    AWk Try.prog 110 X (TQ1 g l locF locM k) ([2, 5, 6, 17, 18, 19].zip [.d (.fptr (sigD g)), .ptr locF 0 0, .mp locM, .d (patsD l), .d (.v (.int .i64 ((patR l).length : Int))), .d (.v (.int .i64 (k : Int)))]) σ := by
  cases hX
  have e1 := patR_len l
  have ha := may_c g hs pk pn pi ps pa pb pc pl hpl
  rw [hb] at ha
  have ho1 := popen_c (.mk pk pn pi ps pa pb pc pl)
  rw [ho] at ho1
  have hof := popen_c (.mk fk fn fi fs fa fb fc fl)
  rw [hFo] at hof
  subst h5
  obtain ⟨c1, c2, _⟩ := alone_con hb rfl
  simp only [Pat.n] at c1 c2
  obtain ⟨m, rfl⟩ : ∃ m : Nat, pn = m := ⟨pn.toNat, by omega⟩
  obtain ⟨⟨nm, dt, fs0, ms⟩, hcn⟩ : ∃ c, g.cons[m]? = some c := getS (by omega)
  obtain ⟨f1, f2, _⟩ := alone_con (hA _ hFm) (by simpa only [Pat.kind] using hf5)
  simp only [Pat.n] at f1 f2
  obtain ⟨mf, rfl⟩ : ∃ m : Nat, fn = m := ⟨fn.toNat, by omega⟩
  obtain ⟨⟨nmf, dtf, fsf, msf⟩, hcf⟩ : ∃ c, g.cons[mf]? = some c := getS (by omega)
  rw [dataOf_at hcf, dataOf_at hcn] at hd
  subst hcs
  repeat' (first | refine s_op rfl ?_ | (apply s_move; (iterate 4 (exact rfl))) | (apply s_fa_p tab_ok; (iterate 5 (exact rfl))) | (apply s_fa_f tab_ok; (iterate 6 (exact rfl))) | (apply s_ld_f tab_ok; (iterate 6 (exact rfl))) | (apply s_assign; (iterate 4 (exact rfl))) | (apply s_pick_t; (iterate 5 (exact rfl))) | (apply s_pick_f; (iterate 5 (exact rfl))) | (apply s_idx tab_ok; (iterate 7 (exact rfl)); (first | exact patR_get (by assumption) | exact valR_get (by assumption) | exact row_map (by assumption) | assumption)) | (apply s_not_t; (iterate 4 (exact rfl))) | (apply s_eql_t; (iterate 5 (exact rfl)); omega) | (apply s_neq_t; (iterate 5 (exact rfl)); omega) | (apply s_neq_f; (iterate 5 (exact rfl)); omega) | (apply s_lss_t; (iterate 5 (exact rfl)); omega) | (apply s_allocF tabZ_ok; (iterate 6 (exact rfl)); intro locX σ hc; have hX := hc.at'; have nFX := hc.ne hF; replace hF := hc.keep hF; replace hG := hG.fresh hc; clear hc) | (apply s_storeF tab_ok; (iterate 7 (exact rfl)); exact hX; (iterate 2 (exact rfl)); intro σ hc; replace hG := hG.chg hX hc; replace hX := hc.at'; replace hF := hc.keep nFX hF; clear hc) | (apply s_ldF tab_ok; (iterate 5 (exact rfl)); exact hX; exact rfl) | (apply s_ldF tab_ok; (iterate 5 (exact rfl)); exact hF; exact rfl) | (apply s_call; (iterate 6 (exact rfl)); first | (exact ha; rintro _ rfl) | (exact ho1; rintro _ rfl) | (exact hof; rintro _ rfl)) | refine al_nil ?_ | refine q_then_n ?_ | refine q_blk_r ?_ | refine aw_block ?_ | refine q_then_r ?_ | refine aw_seq ?_ | refine aw_reg ?_ | refine aw_true rfl ?_ | refine aw_false rfl ?_ | refine aw_skip ?_ | refine aw_ret ?_ | refine aw_draws (id := 11) (trO [0, 1, 2, 3, 4, 5, 6, 7, 8, 9, 10, 11, 12, 13, 14, 15, 16, 17, 18, 19, 20, 21, 22, 23, 24, 25, 26] .nil) [] [] mixed_ok (by kernel_rfl) ?_)
  exact ⟨rfl, tog_pair (List.mem_of_mem_take hFm) (List.mem_of_getElem? hq) hpr⟩

set_option maxRecDepth 100000 in
set_option maxHeartbeats 4000000 in
theorem tog1_nextlit (hs : g.Small) (hl : l.length ≤ 1000000000) (hlt : k < l.length) (hq : l[k]? = some (Pat.mk pk pn pi ps pa pb pc pl)) (hpl : pl.length ≤ 1000000000) (hF : σ[locF]? = some (.row 41 cs)) (hG : GInv σ locM G (l.take k))
    {fk fn fi : Int} {fs : ByteArray} {fa fb fc : Int} {fl : List Pat} (hFm : Pat.mk fk fn fi fs fa fb fc fl ∈ l.take k) (hFo : openB (.mk fk fn fi fs fa fb fc fl) = false) (hcs : cs = (patD (.mk fk fn fi fs fa fb fc fl)).map .d) (hFp : ∀ p ∈ l.take k, pairB g (.mk fk fn fi fs fa fb fc fl) p = true) (hb : aloneB g (.mk pk pn pi ps pa pb pc pl) = true) (hA : ∀ p ∈ l.take k, aloneB g p = true) (ho : openB (.mk pk pn pi ps pa pb pc pl) = false) (hpr : pairB g (.mk fk fn fi fs fa fb fc fl) (.mk pk pn pi ps pa pb pc pl) = true) (hk : fk = pk) (h5 : pk ≠ 5) {X : Code} (hX : tog1 = some X) :
    AWk Try.prog 110 X (TQ1 g l locF locM k) ([2, 5, 6, 17, 18, 19].zip [.d (.fptr (sigD g)), .ptr locF 0 0, .mp locM, .d (patsD l), .d (.v (.int .i64 ((patR l).length : Int))), .d (.v (.int .i64 (k : Int)))]) σ := by
  cases hX
  have e1 := patR_len l
  have ha := may_c g hs pk pn pi ps pa pb pc pl hpl
  rw [hb] at ha
  have ht : l.take (k + 1) = l.take k ++ [Pat.mk pk pn pi ps pa pb pc pl] := by rw [List.take_add_one, hq]; rfl
  have hA' : ∀ p ∈ l.take (k + 1), aloneB g p = true := fun p hp => by
    rw [ht] at hp
    rcases List.mem_append.1 hp with hp | hp
    · exact hA p hp
    · simp at hp; subst hp; exact hb
  have ho1 := popen_c (.mk pk pn pi ps pa pb pc pl)
  rw [ho] at ho1
  have hof := popen_c (.mk fk fn fi fs fa fb fc fl)
  rw [hFo] at hof
  have hI' : FirstIs g ((patD (.mk fk fn fi fs fa fb fc fl)).map .d) (l.take (k + 1)) := by
    rw [ht]
    refine .inr ⟨_, List.mem_append_left _ hFm, hFo, rfl, fun q hq' => ?_⟩
    rcases List.mem_append.1 hq' with hq' | hq'
    · exact hFp q hq'
    · simp at hq'; subst hq'; exact hpr
  subst hcs
  repeat' (first | refine s_op rfl ?_ | (apply s_skipV; (iterate 2 (exact rfl))) | (apply s_move; (iterate 4 (exact rfl))) | (apply s_fa_p tab_ok; (iterate 5 (exact rfl))) | (apply s_ld_f tab_ok; (iterate 6 (exact rfl))) | (apply s_pick_f; (iterate 5 (exact rfl))) | (apply s_idx tab_ok; (iterate 7 (exact rfl)); (first | exact patR_get (by assumption) | exact valR_get (by assumption) | exact row_map (by assumption) | assumption)) | (apply s_not_t; (iterate 4 (exact rfl))) | (apply s_eql_f; (iterate 5 (exact rfl)); omega) | (apply s_neq_f; (iterate 5 (exact rfl)); omega) | (apply s_lss_t; (iterate 5 (exact rfl)); omega) | (apply s_add64; (iterate 5 (exact rfl)); omega) | (apply s_allocF tabZ_ok; (iterate 6 (exact rfl)); intro locX σ hc; have hX := hc.at'; have nFX := hc.ne hF; replace hF := hc.keep hF; replace hG := hG.fresh hc; clear hc) | (apply s_storeF tab_ok; (iterate 7 (exact rfl)); exact hX; (iterate 2 (exact rfl)); intro σ hc; replace hG := hG.chg hX hc; replace hX := hc.at'; replace hF := hc.keep nFX hF; clear hc) | (apply s_ldF tab_ok; (iterate 5 (exact rfl)); exact hX; exact rfl) | (apply s_ldF tab_ok; (iterate 5 (exact rfl)); exact hF; exact rfl) | (apply s_call; (iterate 6 (exact rfl)); first | (exact ha; rintro _ rfl) | (exact ho1; rintro _ rfl) | (exact hof; rintro _ rfl)) | refine al_nil ?_ | refine q_then_n ?_ | refine q_blk_n ?_ | refine aw_block ?_ | refine aw_seq ?_ | refine aw_reg ?_ | refine aw_true rfl ?_ | refine aw_false rfl ?_ | refine aw_skip ?_ | refine aw_draws (id := 11) (trO [0, 1, 2, 3, 4, 5, 6, 7, 8, 9, 10, 11, 12, 13, 14, 15, 16, 17, 18, 19, 20, 21, 22, 23, 24, 25, 26] .nil) [] [] mixed_ok (by kernel_rfl) ?_)
  exact ⟨rfl, _, _, hF, hI', by rw [ht]; exact hG.skip h5, hA'⟩

set_option maxRecDepth 100000 in
set_option maxHeartbeats 4000000 in
theorem tog1_nextnew (hs : g.Small) (hl : l.length ≤ 1000000000) (hlt : k < l.length) (hq : l[k]? = some (Pat.mk pk pn pi ps pa pb pc pl)) (hpl : pl.length ≤ 1000000000) (hF : σ[locF]? = some (.row 41 cs)) (hG : GInv σ locM G (l.take k))
    {fk fn fi : Int} {fs : ByteArray} {fa fb fc : Int} {fl : List Pat} (hFm : Pat.mk fk fn fi fs fa fb fc fl ∈ l.take k) (hFo : openB (.mk fk fn fi fs fa fb fc fl) = false) (hcs : cs = (patD (.mk fk fn fi fs fa fb fc fl)).map .d) (hFp : ∀ p ∈ l.take k, pairB g (.mk fk fn fi fs fa fb fc fl) p = true) (hb : aloneB g (.mk pk pn pi ps pa pb pc pl) = true) (hA : ∀ p ∈ l.take k, aloneB g p = true) (ho : openB (.mk pk pn pi ps pa pb pc pl) = false) (hpr : pairB g (.mk fk fn fi fs fa fb fc fl) (.mk pk pn pi ps pa pb pc pl) = true) (hf5 : fk = 5) (hd : g.dataOf fn = g.dataOf pn) (h5 : pk = 5) (hno : ∀ x ∈ G, x.1 ≠ pn) (hget : (getA pn (G.map (entE (l.take k)))).getD (.d .nil) = .d .nil) (hput : ∀ v, putA pn v (G.map (entE (l.take k))) = G.map (entE (l.take k)) ++ [(pn, v)]) {X : Code} (hX : tog1 = some X) :
    AWk Try.prog 110 X (TQ1 g l locF locM k) ([2, 5, 6, 17, 18, 19].zip [.d (.fptr (sigD g)), .ptr locF 0 0, .mp locM, .d (patsD l), .d (.v (.int .i64 ((patR l).length : Int))), .d (.v (.int .i64 (k : Int)))]) σ := by
  cases hX
  have e1 := patR_len l
  have ha := may_c g hs pk pn pi ps pa pb pc pl hpl
  rw [hb] at ha
  have ht : l.take (k + 1) = l.take k ++ [Pat.mk pk pn pi ps pa pb pc pl] := by rw [List.take_add_one, hq]; rfl
  have hA' : ∀ p ∈ l.take (k + 1), aloneB g p = true := fun p hp => by
    rw [ht] at hp
    rcases List.mem_append.1 hp with hp | hp
    · exact hA p hp
    · simp at hp; subst hp; exact hb
  have ho1 := popen_c (.mk pk pn pi ps pa pb pc pl)
  rw [ho] at ho1
  have hof := popen_c (.mk fk fn fi fs fa fb fc fl)
  rw [hFo] at hof
  have hI' : FirstIs g ((patD (.mk fk fn fi fs fa fb fc fl)).map .d) (l.take (k + 1)) := by
    rw [ht]
    refine .inr ⟨_, List.mem_append_left _ hFm, hFo, rfl, fun q hq' => ?_⟩
    rcases List.mem_append.1 hq' with hq' | hq'
    · exact hFp q hq'
    · simp at hq'; subst hq'; exact hpr
  subst h5
  obtain ⟨c1, c2, _⟩ := alone_con hb rfl
  simp only [Pat.n] at c1 c2
  obtain ⟨m, rfl⟩ : ∃ m : Nat, pn = m := ⟨pn.toNat, by omega⟩
  obtain ⟨⟨nm, dt, fs0, ms⟩, hcn⟩ : ∃ c, g.cons[m]? = some c := getS (by omega)
  obtain ⟨f1, f2, _⟩ := alone_con (hA _ hFm) (by simpa only [Pat.kind] using hf5)
  simp only [Pat.n] at f1 f2
  obtain ⟨mf, rfl⟩ : ∃ m : Nat, fn = m := ⟨fn.toNat, by omega⟩
  obtain ⟨⟨nmf, dtf, fsf, msf⟩, hcf⟩ : ∃ c, g.cons[mf]? = some c := getS (by omega)
  have hgn : grp (m : Int) (l.take k) = [] := by
    refine List.filter_eq_nil_iff.2 fun q hq' => ?_
    simp only [decide_eq_true_eq]
    intro hh
    obtain ⟨x, hx, e⟩ := hG.has q hq' hh.1
    exact hno x hx (by rw [e]; exact hh.2)
  have hrows : [] ++ [patD (.mk 5 m pi ps pa pb pc pl)] = patR (grp m (l.take k ++ [Pat.mk 5 m pi ps pa pb pc pl])) := by rw [← grpR (c := (m : Int)) (l := l.take k) (p := Pat.mk 5 m pi ps pa pb pc pl) rfl rfl, hgn]; rfl
  rw [dataOf_at hcf, dataOf_at hcn] at hd
  subst hcs
  repeat' (first | refine s_op rfl ?_ | (apply s_move; (iterate 4 (exact rfl))) | (apply s_fa_p tab_ok; (iterate 5 (exact rfl))) | (apply s_fa_f tab_ok; (iterate 6 (exact rfl))) | (apply s_ld_f tab_ok; (iterate 6 (exact rfl))) | (apply s_pick_t; (iterate 5 (exact rfl))) | (apply s_pick_f; (iterate 5 (exact rfl))) | (apply s_idx tab_ok; (iterate 7 (exact rfl)); (first | exact patR_get (by assumption) | exact valR_get (by assumption) | exact row_map (by assumption) | assumption)) | (apply s_lit tab_ok tabZ_ok; (iterate 10 (exact rfl))) | (apply s_not_t; (iterate 4 (exact rfl))) | (apply s_eql_t; (iterate 5 (exact rfl)); omega) | (apply s_neq_f; (iterate 5 (exact rfl)); omega) | (apply s_lss_t; (iterate 5 (exact rfl)); omega) | (apply s_add64; (iterate 5 (exact rfl)); omega) | (apply s_allocF tabZ_ok; (iterate 6 (exact rfl)); intro locX σ hc; have hX := hc.at'; have nFX := hc.ne hF; replace hF := hc.keep hF; replace hG := hG.fresh hc; clear hc) | (apply s_storeF tab_ok; (iterate 7 (exact rfl)); exact hX; (iterate 2 (exact rfl)); intro σ hc; replace hG := hG.chg hX hc; replace hX := hc.at'; replace hF := hc.keep nFX hF; clear hc) | (apply s_ldF tab_ok; (iterate 5 (exact rfl)); exact hX; exact rfl) | (apply s_ldF tab_ok; (iterate 5 (exact rfl)); exact hF; exact rfl) | (apply s_lookup1 klaw mapP_ok z26 (m : Int) _ (.d .nil); (iterate 4 (exact rfl)); exact hG.map; exact rfl; exact hget) | (refine o_adoptF 68 41 8 rfl ?_; intro locN σ hcN; have nFN := hcN.ne hF; have nXN := hcN.ne hX; replace hF := hcN.keep hF; replace hX := hcN.keep hX) | (apply s_appF tab_ok tabZ_ok (rows2 := [patD (.mk 5 m pi ps pa pb pc pl)]) (rows3 := patR (grp m (l.take k ++ [Pat.mk 5 m pi ps pa pb pc pl]))) (m := (patR (grp m (l.take k ++ [Pat.mk 5 m pi ps pa pb pc pl]))).length); (iterate 10 (exact rfl)); exact hcN.at'; exact src_of (Tab.slIs tab_ok (t := 26) rfl) (rows_d rfl); exact hrows; (rw [← hrows]; simp); intro σ hc2; have hN := fresh_chg hcN hc2; replace hF := hc2.keep nFN hF; replace hX := hc2.keep nXN hX; clear hc2) | (apply s_mapUpdateF klaw mapP_ok (m : Int) _ _; (iterate 4 (exact rfl)); exact hN.keep hG.map; exact rfl; exact hput _; intro σ hc3; have nFM : locF ≠ locM := (fun e => by (have := hN.keep hG.map; rw [← e, hF] at this; cases this)); replace hF := hc3.keep nFM hF) | (apply s_call; (iterate 6 (exact rfl)); first | (exact ha; rintro _ rfl) | (exact ho1; rintro _ rfl) | (exact hof; rintro _ rfl)) | refine al_nil ?_ | refine q_then_n ?_ | refine q_blk_n ?_ | refine aw_block ?_ | refine aw_seq ?_ | refine aw_reg ?_ | refine aw_true rfl ?_ | refine aw_false rfl ?_ | refine aw_skip ?_ | refine al_fork ?_ ?_ | refine aw_draws (id := 11) (trO [0, 1, 2, 3, 4, 5, 6, 7, 8, 9, 10, 11, 12, 13, 14, 15, 16, 17, 18, 19, 20, 21, 22, 23, 24, 25, 26] .nil) [] [] mixed_ok (by kernel_rfl) ?_ | refine aw_draws (id := 14) (trO [0, 1, 3, 4, 5, 6, 7] (.fork 2 (trO [8, 9, 10] .nil) 8 (.fork 2 (trO [9, 10] .nil) 9 (trO [2, 10] .nil)))) [2, 8, 9, 10] [9, 10] mixed_ok (by kernel_rfl) ?_)
  all_goals exact ⟨rfl, _, _, hF, hI', by rw [ht]; exact hG.new (p := Pat.mk 5 m pi ps pa pb pc pl) rfl hno hN hc3, hA'⟩

set_option maxRecDepth 100000 in
set_option maxHeartbeats 4000000 in
theorem tog1_nextold (hs : g.Small) (hl : l.length ≤ 1000000000) (hlt : k < l.length) (hq : l[k]? = some (Pat.mk pk pn pi ps pa pb pc pl)) (hpl : pl.length ≤ 1000000000) (hF : σ[locF]? = some (.row 41 cs)) (hG : GInv σ locM G (l.take k))
    {fk fn fi : Int} {fs : ByteArray} {fa fb fc : Int} {fl : List Pat} (hFm : Pat.mk fk fn fi fs fa fb fc fl ∈ l.take k) (hFo : openB (.mk fk fn fi fs fa fb fc fl) = false) (hcs : cs = (patD (.mk fk fn fi fs fa fb fc fl)).map .d) (hFp : ∀ p ∈ l.take k, pairB g (.mk fk fn fi fs fa fb fc fl) p = true) (hb : aloneB g (.mk pk pn pi ps pa pb pc pl) = true) (hA : ∀ p ∈ l.take k, aloneB g p = true) (ho : openB (.mk pk pn pi ps pa pb pc pl) = false) (hpr : pairB g (.mk fk fn fi fs fa fb fc fl) (.mk pk pn pi ps pa pb pc pl) = true) (hf5 : fk = 5) (hd : g.dataOf fn = g.dataOf pn) (h5 : pk = 5) {j loc ver : Nat} (hj : G[j]? = some (pn, loc, ver)) (hget : (getA pn (G.map (entE (l.take k)))).getD (.d .nil) = .own loc ver 8 0 (patR (grp pn (l.take k))).length) (hput : ∀ v, putA pn v (G.map (entE (l.take k))) = (G.map (entE (l.take k))).set j (pn, v)) {X : Code} (hX : tog1 = some X) :
    AWk Try.prog 110 X (TQ1 g l locF locM k) ([2, 5, 6, 17, 18, 19].zip [.d (.fptr (sigD g)), .ptr locF 0 0, .mp locM, .d (patsD l), .d (.v (.int .i64 ((patR l).length : Int))), .d (.v (.int .i64 (k : Int)))]) σ := by
  cases hX
  have e1 := patR_len l
  have ha := may_c g hs pk pn pi ps pa pb pc pl hpl
  rw [hb] at ha
  have ht : l.take (k + 1) = l.take k ++ [Pat.mk pk pn pi ps pa pb pc pl] := by rw [List.take_add_one, hq]; rfl
  have hA' : ∀ p ∈ l.take (k + 1), aloneB g p = true := fun p hp => by
    rw [ht] at hp
    rcases List.mem_append.1 hp with hp | hp
    · exact hA p hp
    · simp at hp; subst hp; exact hb
  have ho1 := popen_c (.mk pk pn pi ps pa pb pc pl)
  rw [ho] at ho1
  have hof := popen_c (.mk fk fn fi fs fa fb fc fl)
  rw [hFo] at hof
  have hI' : FirstIs g ((patD (.mk fk fn fi fs fa fb fc fl)).map .d) (l.take (k + 1)) := by
    rw [ht]
    refine .inr ⟨_, List.mem_append_left _ hFm, hFo, rfl, fun q hq' => ?_⟩
    rcases List.mem_append.1 hq' with hq' | hq'
    · exact hFp q hq'
    · simp at hq'; subst hq'; exact hpr
  subst h5
  obtain ⟨c1, c2, _⟩ := alone_con hb rfl
  simp only [Pat.n] at c1 c2
  obtain ⟨m, rfl⟩ : ∃ m : Nat, pn = m := ⟨pn.toNat, by omega⟩
  obtain ⟨⟨nm, dt, fs0, ms⟩, hcn⟩ : ∃ c, g.cons[m]? = some c := getS (by omega)
  obtain ⟨f1, f2, _⟩ := alone_con (hA _ hFm) (by simpa only [Pat.kind] using hf5)
  simp only [Pat.n] at f1 f2
  obtain ⟨mf, rfl⟩ : ∃ m : Nat, fn = m := ⟨fn.toNat, by omega⟩
  obtain ⟨⟨nmf, dtf, fsf, msf⟩, hcf⟩ : ∃ c, g.cons[mf]? = some c := getS (by omega)
  have lgr : (patR (grp (m : Int) (l.take k))).length ≤ 1000000000 := by rw [patR_len]; exact Nat.le_trans (grp_len _ _) (by rw [List.length_take]; omega)
  rw [dataOf_at hcf, dataOf_at hcn] at hd
  subst hcs
  repeat' (first | refine s_op rfl ?_ | (apply s_move; (iterate 4 (exact rfl))) | (apply s_fa_p tab_ok; (iterate 5 (exact rfl))) | (apply s_fa_f tab_ok; (iterate 6 (exact rfl))) | (apply s_ld_f tab_ok; (iterate 6 (exact rfl))) | (apply s_pick_t; (iterate 5 (exact rfl))) | (apply s_pick_f; (iterate 5 (exact rfl))) | (apply s_idx tab_ok; (iterate 7 (exact rfl)); (first | exact patR_get (by assumption) | exact valR_get (by assumption) | exact row_map (by assumption) | assumption)) | (apply s_lit tab_ok tabZ_ok; (iterate 10 (exact rfl))) | (apply s_not_t; (iterate 4 (exact rfl))) | (apply s_eql_t; (iterate 5 (exact rfl)); omega) | (apply s_neq_f; (iterate 5 (exact rfl)); omega) | (apply s_lss_t; (iterate 5 (exact rfl)); omega) | (apply s_add64; (iterate 5 (exact rfl)); omega) | (apply s_allocF tabZ_ok; (iterate 6 (exact rfl)); intro locX σ hc; have hX := hc.at'; have nFX := hc.ne hF; replace hF := hc.keep hF; replace hG := hG.fresh hc; clear hc) | (apply s_storeF tab_ok; (iterate 7 (exact rfl)); exact hX; (iterate 2 (exact rfl)); intro σ hc; replace hG := hG.chg hX hc; replace hX := hc.at'; replace hF := hc.keep nFX hF; clear hc) | (apply s_ldF tab_ok; (iterate 5 (exact rfl)); exact hX; exact rfl) | (apply s_ldF tab_ok; (iterate 5 (exact rfl)); exact hF; exact rfl) | (apply s_lookup1 klaw mapP_ok z26 (m : Int) _ (.own loc ver 8 0 (patR (grp m (l.take k))).length); (iterate 4 (exact rfl)); exact hG.map; exact rfl; exact hget) | (apply s_appF tab_ok tabZ_ok (rows2 := [patD (.mk 5 m pi ps pa pb pc pl)]) (rows3 := patR (grp m (l.take k ++ [Pat.mk 5 m pi ps pa pb pc pl]))) (m := (patR (grp m (l.take k ++ [Pat.mk 5 m pi ps pa pb pc pl]))).length); (iterate 10 (exact rfl)); exact hG.arr _ (List.mem_of_getElem? hj); exact src_of (Tab.slIs tab_ok (t := 26) rfl) (rows_d rfl); exact grpR (c := (m : Int)) (l := l.take k) (p := Pat.mk 5 m pi ps pa pb pc pl) rfl rfl; (rw [← grpR (c := (m : Int)) (l := l.take k) (p := Pat.mk 5 m pi ps pa pb pc pl) rfl rfl]; simp; omega); intro σ hc2; have nFO : locF ≠ loc := (fun e => by (have := hG.arr _ (List.mem_of_getElem? hj); simp only at this; rw [← e, hF] at this; cases this)); have nMO : locM ≠ loc := (fun e => by (have := hG.arr _ (List.mem_of_getElem? hj); simp only at this; rw [← e, hG.map] at this; cases this)); have nFM : locF ≠ locM := (fun e => by (have := hG.map; rw [← e, hF] at this; cases this)); replace hF := hc2.keep nFO hF; have nXO : locX ≠ loc := (fun e => by (have := hG.arr _ (List.mem_of_getElem? hj); simp only at this; rw [← e, hX] at this; cases this)); replace hX := hc2.keep nXO hX) | (apply s_mapUpdateF klaw mapP_ok (m : Int) _ _; (iterate 4 (exact rfl)); exact hc2.keep nMO hG.map; exact rfl; exact hput _; intro σ hc3; replace hF := hc3.keep nFM hF) | (apply s_call; (iterate 6 (exact rfl)); first | (exact ha; rintro _ rfl) | (exact ho1; rintro _ rfl) | (exact hof; rintro _ rfl)) | refine al_nil ?_ | refine q_then_n ?_ | refine q_blk_n ?_ | refine aw_block ?_ | refine aw_seq ?_ | refine aw_reg ?_ | refine aw_true rfl ?_ | refine aw_false rfl ?_ | refine aw_skip ?_ | refine al_fork ?_ ?_ | refine aw_draws (id := 11) (trO [0, 1, 2, 3, 4, 5, 6, 7, 8, 9, 10, 11, 12, 13, 14, 15, 16, 17, 18, 19, 20, 21, 22, 23, 24, 25, 26] .nil) [] [] mixed_ok (by kernel_rfl) ?_ | refine aw_draws (id := 14) (trO [0, 1, 3, 4, 5, 6, 7] (.fork 2 (trO [8, 9, 10] .nil) 8 (.fork 2 (trO [9, 10] .nil) 9 (trO [2, 10] .nil)))) [2, 8, 9, 10] [9, 10] mixed_ok (by kernel_rfl) ?_)
  all_goals exact ⟨rfl, _, _, hF, hI', by rw [ht]; exact hG.old (p := Pat.mk 5 m pi ps pa pb pc pl) rfl hj hc2 hc3, hA'⟩

end
end Go.Proofs.Ytjflembhgjcgkaa
