/- M19, C46, C55: in one. -/
import Derived.Test.YtjflembhgjcgkaaM15
import Derived.Test.YtjflembhgjcgkaaXC40C41
import Derived.Test.YtjflembhgjcgkaaC38
import Derived.Test.YtjflembhgjcgkaaC45
import Derived.Test.YtjflembhgjcgkaaC11
import Derived.Test.YtjflembhgjcgkaaC16
import Derived.Test.YtjflembhgjcgkaaXC14C15
import Derived.Test.YtjflembhgjcgkaaC8
import Derived.Test.YtjflembhgjcgkaaXC32C47
set_option linter.unusedSimpArgs false
set_option linter.unusedVariables false
/- M19: trees that are built are small; the two Builds agree. No program in sight. -/
namespace Go.Proofs.Ytjflembhgjcgkaa
open Go.RowKit

theorem small_bare {k n : Int} {path : List Int} {c e : List TreeT} (hp : path.length ≤ 9223372036854775807) (hc : c.length ≤ 9223372036854775807) (he : e.length ≤ 9223372036854775807) (h1 : ∀ t ∈ c, t.small) (h2 : ∀ t ∈ e, t.small) : (bare k n path c e).small :=
  ⟨hp, hc, he, TreeT.smallL_of h1, TreeT.smallL_of h2⟩
theorem small_at {t : TreeT} (h : t.small) (a b c : Int) (s : ByteArray) : (t.at a b c s).small := by
  obtain ⟨bk, bn, bi, bs, k, n, p, cs, e⟩ := t
  exact h
theorem branches_small (F : Int → Option Pat → TreeT × Int) : ∀ (l : List Pat) (left : Int), (∀ left s, (F left s).1.small) → ∀ t ∈ (branchesF F l left).1, t.small
  | [], left, _, t, h => by cases h
  | p :: l, left, hF, t, h => by
    simp only [branchesF] at h
    rcases List.mem_cons.1 h with rfl | h
    · exact small_at (hF _ _) _ _ _ _
    · exact branches_small F l _ hF t h
theorem build_small {g : Sg} (hs : g.Small) {M : Nat} (hM : M ≤ 100000) : ∀ (f : Nat) (left : Int) (rows : List RowT), RowsM g M rows → (buildF g f left rows).1.small
  | 0, left, rows, hr => small_bare (by simp) (by simp) (by simp) (by simp) (by simp)
  | f + 1, left, rows, hr => by
    unfold buildF
    split
    · exact small_bare (by simp) (by simp) (by simp) (by simp) (by simp)
    · split
      · exact small_bare (by simp) (by simp) (by simp) (by simp) (by simp)
      · rename_i r rest
        split
        · exact small_bare (by simp) (by simp) (by simp) (by simp) (by simp)
        · rename_i a asks ha
          have hl := casesF_len hs hM hr a.path a.p
          have hp := hr.plen r (List.mem_cons_self ..) a (by rw [ha]; exact List.mem_cons_self ..)
          have hF : ∀ left s, (buildF g f left (narrowF (r :: rest) a.path s)).1.small := fun left s => build_small hs hM f left _ (hr.narrow s)
          have hb := branches_small (fun left p => buildF g f left (narrowF (r :: rest) a.path p)) (casesF g (r :: rest) a.path a.p) (left - 1) hF
          have hbl := branchesF_len (fun left p => buildF g f left (narrowF (r :: rest) a.path p)) (casesF g (r :: rest) a.path a.p) (left - 1)
          simp only
          split
          · exact small_bare (by omega) (by rw [hbl]; omega) (by simp) hb (by simp)
          · exact small_bare (by omega) (by rw [hbl]; omega) (by simp) hb fun t ht => by rw [List.mem_singleton.1 ht]; exact hF _ _
theorem buildT_small {g : Sg} (hs : g.Small) {l : List Pat} (hl : massL l ≤ 100000) : (buildT g l (mayZ g l)).1.small := by
  unfold buildT
  split
  · exact small_bare (by simp) (by simp) (by simp) (by simp) (by simp)
  · rename_i h
    have hok : servesB g = true ∧ togB g l = true := by
      unfold mayZ at h
      split at h
      · assumption
      · simp at h
    simp only
    split
    · exact small_bare (by simp) (by simp) (by simp) (by simp) (by simp)
    · exact build_small hs (M := 100000) (by omega) 2002 2000 _ (rowsM_of hl (tog_wf (togB_iff.1 hok.2)))
/-- What the document's Build answers. -/
def refBuild (g : Sg) (l : List Pat) (may : Int) : TreeT × Int :=
  if may ≠ 0 then (bare 0 0 [] [] [], may)
  else
    let b := refT g l 2002 2000 []
    if b.2 < 0 then (bare 0 0 [] [] [], 160) else (b.1, 0)
theorem refBuild_eq (g : Sg) (l : List Pat) : refBuild g l (mayZ g l) = buildT g l (mayZ g l) := by
  unfold refBuild buildT
  by_cases h : mayZ g l ≠ 0
  · rw [if_pos h, if_pos h]
  · rw [if_neg h, if_neg h]
    have hok : servesB g = true ∧ togB g l = true := by
      unfold mayZ at h
      split at h
      · assumption
      · simp at h
    rw [refT_rows (togB_iff2.1 hok.2)]
end Go.Proofs.Ytjflembhgjcgkaa

/- C46: the document's tree, joined; Build, of the document. -/
-- ALLUNDEF -- BOXZ
-- LEN: askD_len patD_len valD_len rowTD_len brD_len treeD_len factD_len
-- ROW: patR_get valR_get row_map brR_get treeR_get facts_get
namespace Go.Proofs.Ytjflembhgjcgkaa
open Go.RowKit

theorem refT_low {g : Sg} {l : List Pat} : ∀ {f : Nat} {left : Int} {L : List FactT}, left ≤ 0 → (refT g l f left L).2 = left - 1 ∧ (refT g l f left L).1 = bare 0 0 [] [] []
  | 0, _, _, _ => ⟨rfl, rfl⟩
  | f + 1, left, L, h => by
    unfold refT
    rw [if_pos (by omega)]
    exact ⟨rfl, rfl⟩
theorem casesRef_len {g : Sg} (hs : g.Small) {l : List Pat} (hl : l.length ≤ 1000000) (L : List FactT) (path : List Int) (p : Pat) : (casesRef g l L path p).length ≤ 1000000000 := by
  unfold casesRef
  split
  · rw [List.length_map]
    unfold Sg.consOf Sg.dat
    split
    · rename_i d hd
      split at hd
      · exact hs.each d (List.mem_of_getElem? hd)
      · cases hd
    · simp
  · have h1 := outR_len (L := L) (path := path) (l := l) l.length (Nat.le_refl _)
    unfold outR at h1
    rw [List.take_length] at h1
    omega
theorem refT_bd {g : Sg} (hs : g.Small) {l : List Pat} (hl : l.length ≤ 1000000) : ∀ (f : Nat) (left : Int) (L : List FactT), 1 ≤ left → -(1 + (f : Int) * 20000000000) ≤ (refT g l f left L).2 ∧ (refT g l f left L).2 ≤ left - 1
  | 0, left, L, h => by simp only [refT]; omega
  | f + 1, left, L, h => by
    unfold refT
    split
    · omega
    · split
      · simp only; omega
      · split
        · simp only; omega
        · split
          · simp only; omega
          · rename_i q _ a _
            have hcl := casesRef_len hs hl L a.path a.p
            have hF : ∀ left (s : Option Pat), (left ≤ 0 → (refT g l f left (L ++ [factOf a.path (casesRef g l L a.path a.p) s])).2 = left - 1) ∧ (1 ≤ left → -(1 + (f : Int) * 20000000000) ≤ (refT g l f left (L ++ [factOf a.path (casesRef g l L a.path a.p) s])).2 ∧ (refT g l f left (L ++ [factOf a.path (casesRef g l L a.path a.p) s])).2 ≤ left - 1) :=
              fun left s => ⟨fun h => (refT_low h).1, fun h => refT_bd hs hl f left _ h⟩
            have hb := (branchesF_bd (K := 1 + (f : Int) * 20000000000) (by omega) hF (casesRef g l L a.path a.p) (left - 1)).2 (by omega)
            simp only
            split
            · simp only; omega
            · simp only
              generalize (branchesF (fun left p => refT g l f left (L ++ [factOf a.path (casesRef g l L a.path a.p) p])) (casesRef g l L a.path a.p) (left - 1)).2 = lb at hb ⊢
              have h3 := hF lb none
              by_cases h0 : lb ≤ 0
              · have := h3.1 h0; omega
              · have := h3.2 (by omega); omega
theorem front_len {L : List FactT} : ∀ (p : Pat) (path : List Int) (a : AskT), a ∈ front L p path → a.path.length + 1 ≤ path.length + massP p := by
  refine ind_pat fun k n i s x y z l ih path a h => ?_
  rw [front_def] at h
  split at h
  · cases h
  · cases hk : knownF L path with
    | none => rw [hk] at h; rw [List.mem_singleton.1 h]; simp only [massP]; omega
    | some f =>
      rw [hk] at h
      obtain ⟨j, q, e, h1⟩ := frontL_mem.1 h
      have h2 := ih q (List.mem_of_getElem? e) _ _ h1
      have h3 := massL_mem (List.mem_of_getElem? e)
      simp only [List.length_append, List.length_cons, List.length_nil, massP, Pat.l] at h2 h3 ⊢
      omega
theorem front_wf {g : Sg} {L : List FactT} : ∀ (p : Pat), Wf g p → ∀ (path : List Int) (a : AskT), a ∈ front L p path → Wf g a.p := by
  refine ind_pat fun k n i s x y z l ih hw path a ha => ?_
  rw [front_def] at ha
  split at ha
  · cases ha
  · cases hk : knownF L path with
    | none => rw [hk] at ha; rw [List.mem_singleton.1 ha]; exact hw
    | some f =>
      rw [hk] at ha
      obtain ⟨j, q, e, h1⟩ := frontL_mem.1 ha
      exact ih q (List.mem_of_getElem? e) (hw.kids q (List.mem_of_getElem? e)) _ _ h1

theorem tree_o (g : Sg) (hs : g.Small) (hsv : Serves g) {l : List Pat} (hl : massL l ≤ 100000) (hw : ∀ p ∈ l, Wf g p) : ∀ (f : Nat), f ≤ 10000 → ∀ (left : Int) (L : List FactT), -1000000000000000000 ≤ left → left ≤ f → FOk L → L.length + f ≤ 100000 →
    ∀ (σ0 : List AObj) (locB : Nat), σ0[locB]? = some (.row 105 (bld2V g l left)) → Runs Try.prog 56 [.ptr locB 0 0, .d (factsD L)] σ0 (Built2 g l locB (refT g l f left L) σ0) := by
  have hll := massL_len l
  have hlm : ∀ p ∈ l, massP p ≤ 1000000 := fun p hp => by have := massL_mem hp; omega
  intro f
  induction f with
  | zero => exact fun _ left L h1 h2 hL hLf σ0 locB hB => Runs.weakR (tree_low (by omega) h1 hB)
  | succ f ih =>
    intro hf left L h1 h2 hL hLf σ0 locB hB
    by_cases h0 : left ≤ 0
    · have e := refT_low (g := g) (l := l) (f := f + 1) (L := L) h0
      have := Runs.weakR (tree_low (L := L) h0 h1 hB)
      unfold Built2
      rw [e.1, e.2]
      exact this
    · cases hfm : firstMay L l with
      | none =>
        have := Runs.weakR (tree_none hL (by omega) hlm (by omega) (by omega) hfm hB)
        unfold refT
        rw [if_neg (by omega), hfm]
        exact this
      | some i =>
        obtain ⟨q, hq, hqm, _⟩ := first_some hfm
        have hqw := hw q (List.mem_of_getElem? hq)
        have hqmm := massL_mem (List.mem_of_getElem? hq)
        cases ha : asksF L q [] with
        | none =>
          have := Runs.weakR (tree_arm hL (by omega) hlm (by omega) (by omega) hfm hq ha hB)
          unfold refT
          rw [if_neg (by omega), hfm]
          simp only [hq, ha]
          exact this
        | some a =>
          have hfr : a ∈ front L q [] := by
            rw [asks_front] at ha
            cases e : front L q [] with
            | nil => rw [e] at ha; cases ha
            | cons b t => rw [e] at ha; injection ha with ha; rw [ha]; exact List.mem_cons_self ..
          have hpl := front_len q [] a hfr
          obtain ⟨rest, p1, _, _, _, p2, _⟩ := front_path q hqw [] a hfr
          have hx0 : ∀ x ∈ a.path, 0 ≤ x := by rw [p1]; simpa using p2
          have haw := front_wf q hqw [] a hfr
          have hcl := casesRef_len hs (by omega : l.length ≤ 1000000) L a.path a.p
          simp only [List.length_nil] at hpl
          have hL' : ∀ s, FOk (L ++ [factOf a.path (casesRef g l L a.path a.p) s]) := fun s => ⟨by simp; omega, fun x hx => by
            rcases List.mem_append.1 hx with hx | hx
            · exact hL.each x hx
            · rw [List.mem_singleton.1 hx]
              cases s with
              | some q => exact ⟨by simp only [factOf]; omega, by simp [factOf]⟩
              | none => exact ⟨by simp only [factOf]; omega, by simp only [factOf]; omega⟩⟩
          have hbd : ∀ k, k ≤ (casesRef g l L a.path a.p).length → -1000000000000000000 ≤ (branchesF (fun left p => refT g l f left (L ++ [factOf a.path (casesRef g l L a.path a.p) p])) ((casesRef g l L a.path a.p).take k) (left - 1)).2 ∧ (branchesF (fun left p => refT g l f left (L ++ [factOf a.path (casesRef g l L a.path a.p) p])) ((casesRef g l L a.path a.p).take k) (left - 1)).2 ≤ left - 1 := by
            intro k hk
            have hF : ∀ left (s : Option Pat), (left ≤ 0 → (refT g l f left (L ++ [factOf a.path (casesRef g l L a.path a.p) s])).2 = left - 1) ∧ (1 ≤ left → -(1 + (f : Int) * 20000000000) ≤ (refT g l f left (L ++ [factOf a.path (casesRef g l L a.path a.p) s])).2 ∧ (refT g l f left (L ++ [factOf a.path (casesRef g l L a.path a.p) s])).2 ≤ left - 1) :=
              fun left s => ⟨fun h => (refT_low h).1, fun h => refT_bd hs (by omega) f left _ h⟩
            have hb := (branchesF_bd (K := 1 + (f : Int) * 20000000000) (by omega) hF ((casesRef g l L a.path a.p).take k) (left - 1)).2 (by omega)
            have htl : ((casesRef g l L a.path a.p).take k).length ≤ 1000000000 := by rw [List.length_take]; omega
            omega
          have hcs := fun {σ : List AObj} h => cases89_o (g := g) hL (path := a.path) (by omega) hx0 (l := l) (by omega) hlm (q := a.p) (caseOk hs hsv haw) (σ0 := σ) (locB := locB) (left := left - 1) h
          have hrec := fun (lf : Int) (s : Option Pat) (σ : List AObj) (h1 : -1000000000000000000 ≤ lf) (h2 : lf ≤ left - 1) h => ih (by omega) lf (L ++ [factOf a.path (casesRef g l L a.path a.p) s]) h1 (by omega) (hL' s) (by simp; omega) σ locB h
          have hcl2 := casesRef_len hs (by omega : l.length ≤ 1000000) L a.path a.p
          unfold refT
          rw [if_neg (by omega), hfm]
          simp only [hq, ha]
          generalize casesRef g l L a.path a.p = cs at hcs hrec hbd hcl2 ⊢
          obtain ⟨path, ⟨ak, an, ai, as', aa, ab, ac, al⟩⟩ := a
          simp only at hpl hcs hrec hbd ⊢
          have := Runs.weakR (tree_look (fun left p => refT g l f left (L ++ [factOf path cs p])) cs hL (by omega) hlm (by omega) (by omega) hfm hq ha (by omega) (by omega) hB hcs hrec hbd)
          exact this

set_option maxRecDepth 100000 in
set_option maxHeartbeats 8000000 in
theorem rbuild_bad {g : Sg} {l : List Pat} (h1 : RunsP Try.prog 25 [.agg (sigD g)] (fun v => v = .v (.bool (servesB g)))) (h2 : RunsP Try.prog 26 [.agg (sigD g), patsD l] (fun v => v = .v (.bool (togB g l)))) (hb : ¬ (servesB g = true ∧ togB g l = true)) : RunsP Try.prog 15 [.agg (sigD g), patsD l] (fun v => v = builtD (bare 0 0 [] [] [], 2)) := by
  refine RunsP.weak ?_
  refine enterPB 31 tab_ok Try.func15 rfl (by kernel_rfl) rfl rfl rfl ?_
  cases e1 : servesB g <;> rw [e1] at h1 hb
  · repeat' (first
      | refine s_op rfl ?_ | (apply s_skipV; (iterate 2 (exact rfl))) | (apply s_skipU; (iterate 3 (exact rfl))) | (apply s_move; (iterate 4 (exact rfl))) | (apply s_fa_p tab_ok; (iterate 5 (exact rfl)))
      | (apply s_fa_f tab_ok; (iterate 6 (exact rfl))) | (apply s_ld_p tab_ok; (iterate 7 (exact rfl))) | (apply s_ld_f tab_ok; (iterate 6 (exact rfl))) | (apply s_ld_w tab_ok; (iterate 5 (exact rfl)); (first | exact askD_len _ | exact patD_len _ | exact valD_len _ | exact rowTD_len _ | exact brD_len _ | exact treeD_len _ | exact factD_len _)) | (apply s_assign; (iterate 4 (exact rfl)))
      | (apply s_pick_t; (iterate 5 (exact rfl))) | (apply s_pick_f; (iterate 5 (exact rfl))) | (apply s_nilc; (iterate 5 (exact rfl))) | (apply s_build tabZ_ok; (iterate 5 (exact rfl))) | (apply s_not_t; (iterate 4 (exact rfl)))
      | (apply s_not_f; (iterate 4 (exact rfl))) | (apply s_not; (iterate 4 (exact rfl))) | (apply s_lss_t; (iterate 5 (exact rfl)); omega) | (apply s_lss_f; (iterate 5 (exact rfl)); omega)
      | (apply s_boxZ; (iterate 5 (exact rfl)); first | exact rfl | exact allD_mapd _)
      | (apply s_allocF tabZ_ok (d := 4); (iterate 6 (exact rfl)); intro locR σ hc; have hR := hc.at'; clear hc)
      | (apply s_storeF tab_ok; (iterate 7 (exact rfl)); exact hR; (iterate 2 (exact rfl)); intro σ hc; replace hR := hc.at'; clear hc)
      | (apply s_call; (iterate 6 (exact rfl)); first | (exact h1; rintro _ rfl))
      | refine al_nil ?_ | refine q_then_n ?_ | refine q_then_r ?_ | refine aw_seq ?_ | refine aw_reg ?_
      | refine aw_true rfl ?_ | refine aw_false rfl ?_ | refine aw_skip ?_ | refine aw_ret ?_)
    all_goals exact q_retB (resB_2 rfl (resV_c (t := 33) rfl rfl hR rfl) (resV_t rfl) rfl) ⟨_, rfl, wk_built 0 0 2⟩
  · cases e2 : togB g l <;> rw [e2] at h2 hb
    · repeat' (first
      | refine s_op rfl ?_ | (apply s_skipV; (iterate 2 (exact rfl))) | (apply s_skipU; (iterate 3 (exact rfl))) | (apply s_move; (iterate 4 (exact rfl))) | (apply s_fa_p tab_ok; (iterate 5 (exact rfl)))
      | (apply s_fa_f tab_ok; (iterate 6 (exact rfl))) | (apply s_ld_p tab_ok; (iterate 7 (exact rfl))) | (apply s_ld_f tab_ok; (iterate 6 (exact rfl))) | (apply s_ld_w tab_ok; (iterate 5 (exact rfl)); (first | exact askD_len _ | exact patD_len _ | exact valD_len _ | exact rowTD_len _ | exact brD_len _ | exact treeD_len _ | exact factD_len _)) | (apply s_assign; (iterate 4 (exact rfl)))
      | (apply s_pick_t; (iterate 5 (exact rfl))) | (apply s_pick_f; (iterate 5 (exact rfl))) | (apply s_nilc; (iterate 5 (exact rfl))) | (apply s_build tabZ_ok; (iterate 5 (exact rfl))) | (apply s_not_t; (iterate 4 (exact rfl)))
      | (apply s_not_f; (iterate 4 (exact rfl))) | (apply s_not; (iterate 4 (exact rfl))) | (apply s_lss_t; (iterate 5 (exact rfl)); omega) | (apply s_lss_f; (iterate 5 (exact rfl)); omega)
      | (apply s_boxZ; (iterate 5 (exact rfl)); first | exact rfl | exact allD_mapd _)
      | (apply s_allocF tabZ_ok (d := 4); (iterate 6 (exact rfl)); intro locR σ hc; have hR := hc.at'; clear hc)
      | (apply s_storeF tab_ok; (iterate 7 (exact rfl)); exact hR; (iterate 2 (exact rfl)); intro σ hc; replace hR := hc.at'; clear hc)
      | (apply s_call; (iterate 6 (exact rfl)); first | (exact h1; rintro _ rfl) | (exact h2; rintro _ rfl))
      | refine al_nil ?_ | refine q_then_n ?_ | refine q_then_r ?_ | refine aw_seq ?_ | refine aw_reg ?_
      | refine aw_true rfl ?_ | refine aw_false rfl ?_ | refine aw_skip ?_ | refine aw_ret ?_)
      all_goals exact q_retB (resB_2 rfl (resV_c (t := 33) rfl rfl hR rfl) (resV_t rfl) rfl) ⟨_, rfl, wk_built 0 0 2⟩
    · exact absurd ⟨rfl, rfl⟩ hb
set_option maxRecDepth 100000 in
set_option maxHeartbeats 8000000 in
theorem rbuild_ok {g : Sg} {l : List Pat} (h1 : RunsP Try.prog 25 [.agg (sigD g)] (fun v => v = .v (.bool true))) (h2 : RunsP Try.prog 26 [.agg (sigD g), patsD l] (fun v => v = .v (.bool true))) (r : TreeT × Int)
    (hb : ∀ (σ0 : List AObj) (locB : Nat), σ0[locB]? = some (.row 105 (bld2V g l 2000)) → Runs Try.prog 56 [.ptr locB 0 0, .d .nil] σ0 (Built2 g l locB r σ0)) :
    RunsP Try.prog 15 [.agg (sigD g), patsD l] (fun v => v = builtD (if r.2 < 0 then (bare 0 0 [] [] [], 160) else (r.1, 0))) := by
  refine RunsP.weak ?_
  obtain ⟨⟨bk, bn, bi, bs, tk, tn, tp, tc, te⟩, lk⟩ := r
  refine enterPB 31 tab_ok Try.func15 rfl (by kernel_rfl) rfl rfl rfl ?_
  by_cases h0 : lk < 0
  · rw [if_pos h0]
    repeat' (first
      | refine s_op rfl ?_ | (apply s_skipV; (iterate 2 (exact rfl))) | (apply s_skipU; (iterate 3 (exact rfl))) | (apply s_move; (iterate 4 (exact rfl))) | (apply s_fa_p tab_ok; (iterate 5 (exact rfl)))
      | (apply s_fa_f tab_ok; (iterate 6 (exact rfl))) | (apply s_ld_p tab_ok; (iterate 7 (exact rfl))) | (apply s_ld_f tab_ok; (iterate 6 (exact rfl))) | (apply s_ld_w tab_ok; (iterate 5 (exact rfl)); (first | exact askD_len _ | exact patD_len _ | exact valD_len _ | exact rowTD_len _ | exact brD_len _ | exact treeD_len _ | exact factD_len _)) | (apply s_assign; (iterate 4 (exact rfl)))
      | (apply s_pick_t; (iterate 5 (exact rfl))) | (apply s_pick_f; (iterate 5 (exact rfl))) | (apply s_nilc; (iterate 5 (exact rfl))) | (apply s_build tabZ_ok; (iterate 5 (exact rfl))) | (apply s_not_t; (iterate 4 (exact rfl)))
      | (apply s_not_f; (iterate 4 (exact rfl))) | (apply s_not; (iterate 4 (exact rfl))) | (apply s_lss_t; (iterate 5 (exact rfl)); omega) | (apply s_lss_f; (iterate 5 (exact rfl)); omega)
      | (apply s_boxF (d := 21); (iterate 6 (exact rfl)); intro locB σ hc; have hB := hc.at'; have nRB := hc.ne hR; replace hR := hc.keep hR; clear hc)
      | (apply s_boxZ; (iterate 5 (exact rfl)); first | exact rfl | exact allD_mapd _)
      | (apply s_allocF tabZ_ok (d := 4); (iterate 6 (exact rfl)); intro locR σ hc; have hR := hc.at'; clear hc)
      | (apply s_storeF tab_ok; (iterate 7 (exact rfl)); exact hR; (iterate 2 (exact rfl)); intro σ hc; replace hR := hc.at'; clear hc)
      | (apply s_callS; (iterate 6 (exact rfl)); exact hb _ _ hB; rintro _ σ ⟨rfl, hb', hk⟩; replace hR := hk.but nRB hR; replace hB := hb'; clear hk hb')
      | (apply s_allocF tabZ_ok (d := 7); (iterate 6 (exact rfl)); intro locX σ hc; have hX := hc.at'; have nRX := hc.ne hR; replace hR := hc.keep hR; have nBX := hc.ne hB; replace hB := hc.keep hB; clear hc)
      | (apply s_storeF tab_ok; (iterate 7 (exact rfl)); exact hX; (iterate 2 (exact rfl)); intro σ hc; replace hX := hc.at'; replace hR := hc.keep (by first | assumption | (apply Ne.symm; assumption) | omega) hR; replace hB := hc.keep (by first | assumption | (apply Ne.symm; assumption) | omega) hB; clear hc)
      | (apply s_ldF tab_ok; (iterate 5 (exact rfl)); (first | exact hX | exact hB); exact rfl)
      | (apply s_call; (iterate 6 (exact rfl)); first | (exact h1; rintro _ rfl) | (exact h2; rintro _ rfl))
      | refine al_nil ?_ | refine q_then_n ?_ | refine q_then_r ?_ | refine aw_seq ?_ | refine aw_reg ?_
      | refine aw_true rfl ?_ | refine aw_false rfl ?_ | refine aw_skip ?_ | refine aw_ret ?_)
    all_goals exact q_retB (resB_2 rfl (resV_c (t := 33) rfl rfl hR rfl) (resV_t rfl) rfl) ⟨_, rfl, wk_built 0 0 160⟩
  · rw [if_neg h0]
    repeat' (first
      | refine s_op rfl ?_ | (apply s_skipV; (iterate 2 (exact rfl))) | (apply s_skipU; (iterate 3 (exact rfl))) | (apply s_move; (iterate 4 (exact rfl))) | (apply s_fa_p tab_ok; (iterate 5 (exact rfl)))
      | (apply s_fa_f tab_ok; (iterate 6 (exact rfl))) | (apply s_ld_p tab_ok; (iterate 7 (exact rfl))) | (apply s_ld_f tab_ok; (iterate 6 (exact rfl))) | (apply s_ld_w tab_ok; (iterate 5 (exact rfl)); (first | exact askD_len _ | exact patD_len _ | exact valD_len _ | exact rowTD_len _ | exact brD_len _ | exact treeD_len _ | exact factD_len _)) | (apply s_assign; (iterate 4 (exact rfl)))
      | (apply s_pick_t; (iterate 5 (exact rfl))) | (apply s_pick_f; (iterate 5 (exact rfl))) | (apply s_nilc; (iterate 5 (exact rfl))) | (apply s_build tabZ_ok; (iterate 5 (exact rfl))) | (apply s_not_t; (iterate 4 (exact rfl)))
      | (apply s_not_f; (iterate 4 (exact rfl))) | (apply s_not; (iterate 4 (exact rfl))) | (apply s_lss_t; (iterate 5 (exact rfl)); omega) | (apply s_lss_f; (iterate 5 (exact rfl)); omega)
      | (apply s_boxF (d := 21); (iterate 6 (exact rfl)); intro locB σ hc; have hB := hc.at'; have nRB := hc.ne hR; replace hR := hc.keep hR; clear hc)
      | (apply s_boxZ; (iterate 5 (exact rfl)); first | exact rfl | exact allD_mapd _)
      | (apply s_allocF tabZ_ok (d := 4); (iterate 6 (exact rfl)); intro locR σ hc; have hR := hc.at'; clear hc)
      | (apply s_storeF tab_ok; (iterate 7 (exact rfl)); exact hR; (iterate 2 (exact rfl)); intro σ hc; replace hR := hc.at'; clear hc)
      | (apply s_callS; (iterate 6 (exact rfl)); exact hb _ _ hB; rintro _ σ ⟨rfl, hb', hk⟩; replace hR := hk.but nRB hR; replace hB := hb'; clear hk hb')
      | (apply s_allocF tabZ_ok (d := 7); (iterate 6 (exact rfl)); intro locX σ hc; have hX := hc.at'; have nRX := hc.ne hR; replace hR := hc.keep hR; have nBX := hc.ne hB; replace hB := hc.keep hB; clear hc)
      | (apply s_storeF tab_ok; (iterate 7 (exact rfl)); exact hX; (iterate 2 (exact rfl)); intro σ hc; replace hX := hc.at'; replace hR := hc.keep (by first | assumption | (apply Ne.symm; assumption) | omega) hR; replace hB := hc.keep (by first | assumption | (apply Ne.symm; assumption) | omega) hB; clear hc)
      | (apply s_ldF tab_ok; (iterate 5 (exact rfl)); (first | exact hX | exact hB); exact rfl)
      | (apply s_call; (iterate 6 (exact rfl)); first | (exact h1; rintro _ rfl) | (exact h2; rintro _ rfl))
      | refine al_nil ?_ | refine q_then_n ?_ | refine q_then_r ?_ | refine aw_seq ?_ | refine aw_reg ?_
      | refine aw_true rfl ?_ | refine aw_false rfl ?_ | refine aw_skip ?_ | refine aw_ret ?_)
    all_goals exact q_retB (resB_2 rfl (resV_c (t := 33) rfl rfl hR rfl) (resV_t rfl) rfl) ⟨_, rfl, Wk.refl _⟩
theorem rBuild_c {g : Sg} (hs : g.Small) {l : List Pat} (hl : massL l ≤ 100000) : RunsP Try.prog 15 [.agg (sigD g), patsD l] (fun v => v = builtD (refBuild g l (mayZ g l))) := by
  have hll := massL_len l
  have hsm := smallL_mass hl (by omega)
  have h1 := rserves_c g hs
  have h2 := rtog_c g hs 100000 (by omega) l ⟨Pat.smallL_mem hsm, by omega⟩
  unfold refBuild mayZ
  by_cases hok : servesB g = true ∧ togB g l = true
  · rw [if_pos hok, if_neg (by simp)]
    rw [hok.1] at h1
    rw [hok.2] at h2
    have hw := tog_wf (togB_iff.1 hok.2)
    exact rbuild_ok h1 h2 (refT g l 2002 2000 []) fun σ0 locB hB => (tree_o g hs ((servesB_iff g).1 hok.1) hl hw 2002 (by omega) 2000 [] (by omega) (by omega) ⟨by simp, fun x hx => by cases hx⟩ (by simp) σ0 locB hB).wk (awk_cons (fun _ _ h => h) (awk_cons (fun _ _ h => Wk.nil _ _ _ h) awk_nil))
  · rw [if_neg hok, if_pos (by simp)]
    exact rbuild_bad h1 h2 hok
end Go.Proofs.Ytjflembhgjcgkaa

/- C55: the law's walk: TreeBuilds. -/
-- ALLUNDEF -- BOXZ
-- LEN: patD_len valD_len brD_len treeD_len
-- ROW: patR_get valR_get row_map brR_get treeR_get
namespace Go.Proofs.Ytjflembhgjcgkaa
open Go.RowKit

set_option maxRecDepth 100000 in
set_option maxHeartbeats 8000000 in
theorem treeBuilds_c (hkn : RunsP Try.prog 12 [] (fun v => v = .v (.bool true))) (g : Sg) (hg : g.Low) (l : List Pat) (hll : l.length ≤ 140737488355328) (hl : ∀ p ∈ l, p.low) :
    RunsP Try.prog 3 [.agg (sigD g), patsD l] (fun r => r = .v (.bool true)) := by
  have hgr := great_c hg hl hll
  by_cases hm : g.Tiny ∧ massL l ≤ 50
  · have hs := hm.1.small
    have hml : massL l ≤ 100000 := by have := hm.2; omega
    have b1 := Build_c hs hml
    have b2 := rBuild_c hs hml
    rw [refBuild_eq] at b2
    have hts := buildT_small hs hml
    clear hm hml
    generalize buildT g l (mayZ g l) = T at b1 b2 hts
    obtain ⟨t, e⟩ := T
    have h1 := one_c t hts t hts
    rw [one_refl] at h1
    clear hts
    obtain ⟨bk, bn, bi, bs, k, n, p, c, te⟩ := t
    refine enterPB 34 tab_ok Try.func3 rfl (by kernel_rfl) rfl rfl rfl ?_
    repeat' (first
      | refine s_op rfl ?_ | (apply s_skipV; (iterate 2 (exact rfl))) | (apply s_skipU; (iterate 3 (exact rfl))) | (apply s_move; (iterate 4 (exact rfl))) | (apply s_ld_p tab_ok; (iterate 7 (exact rfl)))
      | (apply s_ld_f tab_ok; (iterate 6 (exact rfl))) | (apply s_ld_w tab_ok; (iterate 5 (exact rfl)); (first | exact patD_len _ | exact valD_len _ | exact brD_len _ | exact treeD_len _)) | (apply s_assign; (iterate 4 (exact rfl))) | (apply s_pick_t; (iterate 5 (exact rfl))) | (apply s_pick_f; (iterate 5 (exact rfl)))
      | (apply s_ext; (iterate 5 (exact rfl))) | (apply s_alloc tabZ_ok; (iterate 7 (exact rfl))) | (apply s_boxZ; (iterate 5 (exact rfl)); first | exact rfl | exact allD_mapd _) | (apply s_store tab_ok; (iterate 10 (exact rfl))) | (apply s_not_t; (iterate 4 (exact rfl)))
      | (apply s_not_f; (iterate 4 (exact rfl))) | (apply s_not; (iterate 4 (exact rfl))) | (apply s_eql_t; (iterate 5 (exact rfl)); omega) | (apply s_eql_f; (iterate 5 (exact rfl)); omega)
      | (apply s_call; (iterate 6 (exact rfl)); exact hgr; rintro _ ⟨b, rfl, hb⟩; cases b)
      | (apply s_call; (iterate 6 (exact rfl)); first | (exact hkn; rintro _ rfl) | (exact b1; rintro _ rfl) | (exact b2; rintro _ rfl) | (exact h1; rintro _ rfl))
      | refine al_nil ?_ | refine q_then_n ?_ | refine q_then_r ?_ | refine aw_seq ?_ | refine aw_reg ?_
      | refine aw_true rfl ?_ | refine aw_false rfl ?_ | refine aw_skip ?_ | refine aw_ret ?_)
    all_goals exact q_retB (resB_1 rfl (resV_t rfl)) ⟨_, rfl, rfl⟩
  · refine enterPB 34 tab_ok Try.func3 rfl (by kernel_rfl) rfl rfl rfl ?_
    repeat' (first
      | refine s_op rfl ?_ | (apply s_skipV; (iterate 2 (exact rfl))) | (apply s_skipU; (iterate 3 (exact rfl))) | (apply s_move; (iterate 4 (exact rfl))) | (apply s_ld_p tab_ok; (iterate 7 (exact rfl)))
      | (apply s_ld_f tab_ok; (iterate 6 (exact rfl))) | (apply s_ld_w tab_ok; (iterate 5 (exact rfl)); (first | exact patD_len _ | exact valD_len _ | exact brD_len _ | exact treeD_len _)) | (apply s_assign; (iterate 4 (exact rfl))) | (apply s_pick_t; (iterate 5 (exact rfl))) | (apply s_pick_f; (iterate 5 (exact rfl)))
      | (apply s_ext; (iterate 5 (exact rfl))) | (apply s_alloc tabZ_ok; (iterate 7 (exact rfl))) | (apply s_boxZ; (iterate 5 (exact rfl)); first | exact rfl | exact allD_mapd _) | (apply s_store tab_ok; (iterate 10 (exact rfl))) | (apply s_not_t; (iterate 4 (exact rfl)))
      | (apply s_not_f; (iterate 4 (exact rfl))) | (apply s_not; (iterate 4 (exact rfl))) | (apply s_eql_t; (iterate 5 (exact rfl)); omega) | (apply s_eql_f; (iterate 5 (exact rfl)); omega)
      | (apply s_call; (iterate 6 (exact rfl)); exact hgr; rintro _ ⟨b, rfl, hb⟩; (have hb1 : b = true := by cases b; exact absurd (hb rfl) hm; rfl); subst hb1)
      | (apply s_call; (iterate 6 (exact rfl)); first | (exact hkn; rintro _ rfl))
      | refine al_nil ?_ | refine q_then_n ?_ | refine q_then_r ?_ | refine aw_seq ?_ | refine aw_reg ?_
      | refine aw_true rfl ?_ | refine aw_false rfl ?_ | refine aw_skip ?_ | refine aw_ret ?_)
    all_goals exact q_retB (resB_1 rfl (resV_t rfl)) ⟨_, rfl, rfl⟩
end Go.Proofs.Ytjflembhgjcgkaa
