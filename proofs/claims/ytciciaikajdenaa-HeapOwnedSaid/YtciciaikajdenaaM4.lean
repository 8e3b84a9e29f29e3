/- 'put'. -/
import Derived.Test.YtciciaikajdenaaM3
set_option linter.unusedSimpArgs false
set_option linter.unusedVariables false
namespace Go.Proofs.Ytciciaikajdenaa
open Go.RowKit
open Classical

section
variable {W0 w : World} {L : List HProp}

set_option maxRecDepth 100000 in
set_option maxHeartbeats 2000000 in
theorem put_c {b7 b8 b9 r1 r2 : Nat} {lv : Value} {E : List AEnt} {Gs : List (AWord × Value)} {ws : List AWord} (h : St W0 w (ownL b7 b8 b9 r1 r2 lv E E Gs ws ++ L)) (x : AWord) (c : ACell) (vc : Value)
    (hE : getA x E = none) (hG : getA x Gs = none) (hws : ws.length ≤ 100000) (hcl : c.ws.length ≤ 100000) (hR : ∀ w', St W0 w' L → rd w' 4 vc c.ws.length (flatW c.ws)) :
    Calls Try.prog 40 #[wv x, cv c vc, .pointer (some ⟨b7, 0, none⟩), .pointer (some ⟨b8, 0, none⟩), .pointer (some ⟨b9, 0, none⟩)] w
      fun e w' => e = .returned (.bool true) ∧ ∃ lv' v', St W0 w' (ownL b7 b8 b9 r1 r2 lv' (E ++ [(x, (c, v'))]) (E ++ [(x, (c, v'))]) Gs (ws ++ [x]) ++ L) := by
  unfold ownL at h
  simp only [List.cons_append, List.nil_append] at h
  obtain ⟨a, cap, rfl⟩ := rd_form (hR w h.tail.tail.tail.tail.tail.tail.tail)
  obtain ⟨la, lcap, rfl, _⟩ := (h.pull 5).own_form
  have S := (h.allocC #[Value.int .u8 x.k, .int .i64 x.n, .string x.s, .int .i64 x.g] 36).allocC #[Value.int .u8 c.k, .int .i64 c.n, .slice a c.ws.length cap] 34
  simp only [World.size_alloc] at S
  -- [B1, B0, b7, b8, b9, mD, mG, words, ent, L]
  have d0 := (S.pull 1).cell
  have d7 := (S.pull 2).cell
  have hl1 := ((S.pull 5).map_lookup word_law Try.underlying58 (zero34 _) x).1
  rw [getA_has, hE] at hl1
  simp only [Option.map_none, Option.getD_none, Option.isSome_none] at hl1
  have S2 := S.allocC #[Value.int .u8 0, .int .i64 0, .slice none 0 0] 34
  simp only [World.size_alloc] at S2
  -- [B2, B1, B0, b7, b8, b9, mD, mG, words, ent, L]
  have d8 := (S2.pull 4).cell
  have d0' := (S2.pull 2).cell
  have hl2 := ((S2.pull 7).map_lookup word_law Try.underlying59 (zero4 _) x).2
  rw [hG] at hl2
  simp only [Option.getD_none] at hl2
  have HS := Lib.hid S2
  have HR := Lib.hid hR
  have HE := Lib.hid (And.intro hE hG)
  clear h S S2 hR hE hG
  unfold wv at hl1 hl2
  unfold wv cv
  go_enter Try.func40, Try.ntmps40
  go_upto_region 4 with fail
  clear d0 d7 hl1 d8 d0' hl2
  generalize w.heap.size = B0 at HS ⊢
  simp only [Nat.add_assoc, Nat.reduceAdd] at HS ⊢
  refine abs_wp HS.out ?_
  clear HS
  intro w2 S
  have S := S.tail
  -- [B1, B0, b7, b8, b9, mD, mG, words, ent, L]
  have s1 := S.allocC #[] 36
  have d1 := (s1.pull 1).cell
  have s2 := St.own_mk (T := 36) (xs := []) (rest := []) (n := 0) (cap := 0) (sz := 4) s1 rfl (Nat.le_refl _) (by decide) (by decide)
  obtain ⟨i, hi, hz0, hz1, hz2⟩ := info_parts info36
  have A := Lib.hid fun o rest ops Q x => wpList_append_st (P := Try.prog) (o := o) (rest := rest) (ops := ops) (Q := Q) (a := x) s2 (HR.out _ s2.tail.tail.tail.tail.tail.tail.tail.tail.tail.tail) (one_flatW _) hi hz0 hz1 hz2 rfl (by unfold maxLen; omega) (by omega) Try.underlying32
  clear S s1 s2 hi hz0 hz1 hz2
  go_upto_region 5 with (at_builtin; refine A.out _ _ _ _ _ _ _ rfl rfl rfl rfl ?_; intro v' w3 S1 _; obtain ⟨a', cap', rfl, hcap⟩ := S1.own_form; clear d1; have c1 := (S1.pull 1).cell; have f1 := (S1.pull 1).free; simp only [Nat.zero_add, List.nil_append] at hcap S1; have S1 := Lib.hid S1)
  have S := (S1.out.pull 1).set 2 (.slice a' c.ws.length cap')
  simp only [List.setIfInBounds_toArray, List.set_cons_zero, List.set_cons_succ] at S
  refine abs_wp S ?_
  clear S S1 A c1 f1
  intro w4 S
  -- [B1, ownC, B0, b7, b8, b9, mD, mG, words, ent, L]
  refine wp_region_st S [0, 1, 2, 3, 4, 5, 6, 7, 8] (fun w' => (∀ o, w'.cell? ⟨b7, o, none⟩ = #[Value.map (some r1)][o]?) ∧ (∀ o, w'.cell? ⟨B0, o, none⟩ = #[Value.int .u8 x.k, .int .i64 x.n, .string x.s, .int .i64 x.g][o]?) ∧ (∀ o, w'.cell? ⟨B0 + 1, o, none⟩ = #[Value.int .u8 c.k, .int .i64 c.n, .slice a' c.ws.length cap'][o]?) ∧ (∀ o, w'.cell? ⟨b9, o, none⟩ = #[Value.slice la ws.length lcap][o]?)) [0, 1, 2, 3, 4] [5, 6, 7, 8] [7, 8] (by kernel_rfl) (by kernel_rfl) (fun c d v a w h => by cases d <;> exact h) ?_
  clear S
  intro w5 S
  have HF := Lib.hid (And.intro (S.pull 3).cell (And.intro (S.pull 2).cell (And.intro S.cell (S.pull 5).cell)))
  iterate 5
    (first
      | refine walk_load rfl rfl rfl HF.out rfl (by rintro w' ⟨g0, g1, g2, g3⟩; go_simp; with_reducible rfl) ?_
      | refine walk_pure rfl rfl rfl rfl (by intro w'; go_simp; with_reducible rfl) ?_)
    simp only [List.getElem_toArray, List.getElem_cons_zero, List.getElem_cons_succ, Act.put, List.setIfInBounds_toArray, List.set_cons_zero, List.set_cons_succ]
  clear HF
  have S := S.allocC #[Value.int .u8 x.k, .int .i64 x.n, .string x.s, .int .i64 x.g] 36
  refine walk_do rfl rfl rfl (fun K hK => ?_)
  go_simp
  refine hK _ _ (fun _ => And.intro (S.pull 4).cell (And.intro (S.pull 3).cell (And.intro (S.pull 1).cell (S.pull 6).cell))) ?_
  clear hK K
  try simp only [List.getElem_toArray, List.getElem_cons_zero, List.getElem_cons_succ, Act.put, List.setIfInBounds_toArray, List.set_cons_zero, List.set_cons_succ]
  generalize w5.heap.size = B9 at S ⊢
  refine abs_walk S ?_
  clear S
  intro w6 S
  -- [B9, B1, ownC, B0, b7, b8, b9, mD, mG, words, ent, L]
  obtain ⟨ii, hi1, hz0, hz1, hz2⟩ := info_parts info36
  refine walk_do rfl rfl rfl (fun K hK => ?_)
  refine wp_append_st (S.pull 9) (rd_cells (sz := 4) (n := 1) (cap := 1) S (Nat.le_refl _) rfl) (one_flatW [x]) hi1 hz0 hz1 hz2 rfl (by unfold maxLen; omega) (by omega) Try.underlying32 _ _ rfl rfl rfl ?_
  intro lv' w7 S2 _
  obtain ⟨la2, lcap2, rfl, _⟩ := S2.own_form
  -- [words', B9, B1, ownC, B0, b7, b8, b9, mD, mG, ent, L]
  refine hK _ _ (fun _ => And.intro (S2.pull 5).cell (And.intro (S2.pull 4).cell (And.intro (S2.pull 2).cell (S2.pull 7).cell))) ?_
  clear hK K S
  try simp only [List.getElem_toArray, List.getElem_cons_zero, List.getElem_cons_succ, Act.put, List.setIfInBounds_toArray, List.set_cons_zero, List.set_cons_succ]
  obtain ⟨w8, hrun, S⟩ := (S2.pull 8).map_update word_law Try.underlying58 x (.agg #[.int .u8 c.k, .int .i64 c.n, .slice a' c.ws.length cap'])
  unfold wv at hrun
  -- [mD', words', B9, B1, ownC, B0, b7, b8, b9, mG, ent, L]
  refine walk_do rfl rfl rfl (fun K hK => ?_)
  go_simp
  refine hK _ _ (fun q => by cases q) ?_
  clear hK K hrun S2
  try simp only [List.getElem_toArray, List.getElem_cons_zero, List.getElem_cons_succ, Act.put, List.setIfInBounds_toArray, List.set_cons_zero, List.set_cons_succ]
  have c9 := (S.pull 8).cell
  have f9 := (S.pull 8).free
  refine walk_do rfl rfl rfl (fun K hK => ?_)
  go_simp
  have S := (S.pull 8).set 0 (.slice la2 (ws.length + 1) lcap2)
  simp only [List.setIfInBounds_toArray, List.set_cons_zero, List.set_cons_succ] at S
  refine hK _ _ (fun q => by cases q) ?_
  clear hK K c9 f9
  try simp only [List.getElem_toArray, List.getElem_cons_zero, List.getElem_cons_succ, Act.put, List.setIfInBounds_toArray, List.set_cons_zero, List.set_cons_succ]
  refine walk_nil ?_
  have HS := Lib.hid S
  clear S
  go_wp2_with fail
  go_ret
  have S := HS.out
  -- [b9', mD', words', B9, B1, ownC, B0, b7, b8, mG, ent, L]
  refine ⟨rfl, .slice la2 (ws.length + 1) lcap2, .slice a' c.ws.length cap', ?_⟩
  have hput : putA x (Value.agg #[.int .u8 c.k, .int .i64 c.n, .slice a' c.ws.length cap']) (hasL E) = hasL (E ++ [(x, (c, .slice a' c.ws.length cap'))]) := by
    rw [putA_none (by rw [getA_has, HE.out.1]; rfl)]
    simp [hasL, cv]
  rw [hput] at S
  have hwl : ownS 36 4 (Value.slice la2 (ws.length + 1) lcap2) (ws.length + 1) (flatW ws ++ flatW [x]) = wordsOwn (.slice la2 (ws.length + 1) lcap2) (ws ++ [x]) := by
    unfold wordsOwn
    rw [List.length_append, show flatW (ws ++ [x]) = flatW ws ++ flatW [x] from List.flatMap_append]
    rfl
  have T := ((S.pull 10).pull 6)
  -- [ownC, ent, b9', mD', words', B9, B1, B0, b7, b8, mG, L]
  have T2 := St.ent_snoc (x := x) (c := c) (v := .slice a' c.ws.length cap') T
  -- [ent', b9', mD', words', B9, B1, B0, b7, b8, mG, L]
  have T3 := ((((T2.pull 4).tail.pull 4).tail).pull 4).tail
  -- [ent', b9', mD', words', b7, b8, mG, L]
  have e1 : flatW [x] = [Value.int .u8 x.k, .int .i64 x.n, .string x.s, .int .i64 x.g] := rfl
  rw [e1] at hwl
  rw [hwl] at T3
  exact (((((T3.pull 3).pull 6).pull 4).pull 4).pull 6).pull 6
end
end Go.Proofs.Ytciciaikajdenaa
