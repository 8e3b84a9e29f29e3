/- C39: the document's places, facts, trees: Same, alike, below, known, One. -/
import Derived.Test.YtjflembhgjcgkaaC33
import Derived.Test.YtjflembhgjcgkaaM15
import Derived.Test.YtjflembhgjcgkaaXAhAiAj
set_option linter.unusedSimpArgs false
set_option linter.unusedVariables false
-- ALLUNDEF -- BOXZ
-- LEN: askD_len patD_len valD_len rowTD_len brD_len treeD_len factD_len
-- DEF ALR: (apply s_allocF tabZ_ok (d := 4); (iterate 6 (exact rfl)); intro locR σ hc; have hR := hc.at'; clear hc)
-- DEF STR: (apply s_storeF tab_ok; (iterate 7 (exact rfl)); exact hR; (iterate 2 (exact rfl)); intro σ hc; replace hR := hc.at'; clear hc)
-- DEF LIT0: (apply s_lit0 tab_ok tabZ_ok; (iterate 7 (exact rfl)))
-- DEF LITS: (apply s_lit tab_ok tabZ_ok; (iterate 10 (exact rfl)))
namespace Go.Proofs.Ytjflembhgjcgkaa
open Go.RowKit

def factD : FactT → List DV
  | ⟨path, is, no⟩ => intsD path :: (patD is ++ [patsD no])
def factsD (L : List FactT) : DV := .lst 10 (L.map factD)
theorem factD_len : ∀ f : FactT, (factD f).length = 10
  | ⟨_, is, _⟩ => by simp [factD, patD_len]
def factZ : List DV := [.nil, .v (.int .u8 0), .v (.int .i64 0), .v (.int .i64 0), .v (.string ⟨#[]⟩), .v (.int .i64 0), .v (.int .i64 0), .v (.int .i64 0), .nil, .nil]
def knownD : Option FactT → DV
  | none => .tup [.agg factZ, .v (.bool false)]
  | some f => .tup [.agg (factD f), .v (.bool true)]

theorem ints_get {l : List Int} {k : Nat} {x : Int} (h : l[k]? = some x) : (l.map intRow)[k]? = some (intRow x) := by simp [h]
theorem take_next {l m : List Int} {k : Nat} {x : Int} (h : l.take k = m.take k) (h1 : l[k]? = some x) (h2 : m[k]? = some x) : l.take (k + 1) = m.take (k + 1) := by
  rw [List.take_add_one, List.take_add_one, h, h1, h2]

set_option maxRecDepth 100000 in
theorem same20_c (a b : List Int) (hl : a.length ≤ 9223372036854775807) (hm : b.length ≤ 9223372036854775807) : RunsP Try.prog 20 [intsD a, intsD b] (fun v => v = .v (.bool (decide (a = b)))) := by
  have e1 : (a.map intRow).length = a.length := by simp
  have e2 : (b.map intRow).length = b.length := by simp
  refine enterP 26 Try.func20 rfl (by kernel_rfl) rfl rfl rfl ?_
  by_cases hlen : a.length = b.length
  · repeat' (first | refine s_op rfl ?_ | (apply s_move; (iterate 4 (exact rfl))) | (apply s_assign; (iterate 4 (exact rfl))) | (apply s_len tab_ok; (iterate 5 (exact rfl))) | (apply s_neq_f; (iterate 5 (exact rfl)); omega) | refine al_nil ?_ | refine q_then_n ?_ | refine aw_block ?_ | refine aw_seq ?_ | refine aw_reg ?_ | refine aw_false rfl ?_ | refine aw_skip ?_)
    refine w_loop [0, 1, 5] (fun n vs σ => ∃ k : Nat, vs = [.d (intsD a), .d (intsD b), .d (.v (.int .i64 (k : Int)))] ∧ σ = [] ∧ k ≤ a.length ∧ n = a.length - k ∧ a.take k = b.take k) rfl ⟨0, rfl, rfl, by omega, rfl, by simp⟩ ?_
    rintro n vs σ ⟨k, rfl, rfl, hk, rfl, ht⟩ fr hfr
    cases hfr
    by_cases hlt : k < a.length
    · obtain ⟨x, hx⟩ := getS hlt
      obtain ⟨y, hy⟩ : ∃ y, b[k]? = some y := getS (by omega)
      by_cases hxy : x = y
      · repeat' (first | refine s_op rfl ?_ | (apply s_move; (iterate 4 (exact rfl))) | (apply s_ld_f tab_ok; (iterate 6 (exact rfl))) | (apply s_assign; (iterate 4 (exact rfl))) | (apply s_len tab_ok; (iterate 5 (exact rfl))) | (apply s_idx tab_ok; (iterate 7 (exact rfl)); (first | exact patR_get (by assumption) | exact valR_get (by assumption) | exact row_map (by assumption) | assumption)) | (apply s_neq_f; (iterate 5 (exact rfl)); omega) | (apply s_lss_t; (iterate 5 (exact rfl)); omega) | (apply s_add64; (iterate 5 (exact rfl)); omega) | refine al_nil ?_ | refine q_then_n ?_ | refine q_blk_n ?_ | refine aw_block ?_ | refine aw_seq ?_ | refine aw_reg ?_ | refine aw_true rfl ?_ | refine aw_false rfl ?_ | refine aw_skip ?_ | refine aw_draws (id := 6) (trO [0, 1, 2, 3, 4, 5, 6, 7, 8] .nil) [] [] mixed_ok (by kernel_rfl) ?_)
        exact ⟨_, _, rfl, by omega, k + 1, rfl, rfl, by omega, rfl, take_next ht hx (by rw [hxy]; exact hy)⟩
      · repeat' (first | refine s_op rfl ?_ | (apply s_move; (iterate 4 (exact rfl))) | (apply s_ld_f tab_ok; (iterate 6 (exact rfl))) | (apply s_assign; (iterate 4 (exact rfl))) | (apply s_len tab_ok; (iterate 5 (exact rfl))) | (apply s_idx tab_ok; (iterate 7 (exact rfl)); (first | exact patR_get (by assumption) | exact valR_get (by assumption) | exact row_map (by assumption) | assumption)) | (apply s_neq_t; (iterate 5 (exact rfl)); omega) | (apply s_lss_t; (iterate 5 (exact rfl)); omega) | refine al_nil ?_ | refine q_then_n ?_ | refine q_blk_r ?_ | refine aw_block ?_ | refine q_then_r ?_ | refine aw_seq ?_ | refine aw_reg ?_ | refine aw_true rfl ?_ | refine aw_skip ?_ | refine aw_ret ?_ | refine aw_draws (id := 6) (trO [0, 1, 2, 3, 4, 5, 6, 7, 8] .nil) [] [] mixed_ok (by kernel_rfl) ?_)
        refine q_ret rfl ⟨_, rfl, ?_⟩
        rw [decide_eq_false]
        intro e
        rw [e, hy] at hx
        injection hx with hx
        exact hxy hx.symm
    · repeat' (first | refine s_op rfl ?_ | (apply s_move; (iterate 4 (exact rfl))) | (apply s_assign; (iterate 4 (exact rfl))) | (apply s_len tab_ok; (iterate 5 (exact rfl))) | (apply s_lss_f; (iterate 5 (exact rfl)); omega) | refine al_nil ?_ | refine q_then_n ?_ | refine q_blk_e ?_ | refine q_then_e ?_ | refine aw_exit ?_ | refine aw_seq ?_ | refine aw_reg ?_ | refine aw_false rfl ?_ | refine aw_ret ?_)
      refine q_ret rfl ⟨_, rfl, ?_⟩
      rw [List.take_of_length_le (by omega), List.take_of_length_le (by omega)] at ht
      rw [decide_eq_true ht]
  · repeat' (first | refine s_op rfl ?_ | (apply s_move; (iterate 4 (exact rfl))) | (apply s_assign; (iterate 4 (exact rfl))) | (apply s_len tab_ok; (iterate 5 (exact rfl))) | (apply s_neq_t; (iterate 5 (exact rfl)); omega) | refine al_nil ?_ | refine q_then_n ?_ | refine q_then_r ?_ | refine aw_seq ?_ | refine aw_reg ?_ | refine aw_true rfl ?_ | refine aw_ret ?_)
    refine q_ret rfl ⟨_, rfl, ?_⟩
    rw [decide_eq_false (fun e => hlen (by rw [e]))]

set_option maxRecDepth 100000 in
theorem alike_c (p q : Pat) : RunsP Try.prog 110 [.agg (patD p), .agg (patD q)] (fun v => v = .v (.bool (isB p q))) := by
  obtain ⟨k, n, i, s, a, b, c, l⟩ := p
  obtain ⟨k', n', i', s', a', b', c', l'⟩ := q
  simp only [isB, Pat.kind, Pat.n, Pat.i, Pat.s]
  refine enterP 36 Try.func110 rfl (by kernel_rfl) rfl rfl rfl ?_
  repeat' (first | refine s_op rfl ?_ | (apply s_skipV; (iterate 2 (exact rfl))) | (apply s_skipU; (iterate 3 (exact rfl))) | (apply s_move; (iterate 4 (exact rfl))) | (apply s_fa_f tab_ok; (iterate 6 (exact rfl))) | (apply s_ld_f tab_ok; (iterate 6 (exact rfl))) | (apply s_assign; (iterate 4 (exact rfl))) | (apply s_pick_t; (iterate 5 (exact rfl))) | (apply s_pick_f; (iterate 5 (exact rfl))) | (apply s_boxZ; (iterate 5 (exact rfl)); first | exact rfl | exact allD_mapd _) | (apply s_eqlS; (iterate 5 (exact rfl)); all_goals intro _) | (apply s_neqS; (iterate 5 (exact rfl)); all_goals intro _) | (apply s_streqS; (iterate 5 (exact rfl)); all_goals intro _) | refine al_nil ?_ | refine q_then_n ?_ | refine aw_seq ?_ | refine aw_reg ?_ | refine aw_ret ?_)
  all_goals (refine q_ret rfl ⟨_, rfl, ?_⟩; simp_all)

set_option maxRecDepth 100000 in
theorem below59_c (path : List Int) (i : Int) (hl : path.length ≤ 100000000) : RunsP Try.prog 59 [intsD path, .v (.int .i64 i)] (fun v => v = intsD (path ++ [i])) := by
  refine RunsP.ofOwn (rows := (path ++ [i]).map intRow) ?_
  have e2 : (path.map intRow).length = path.length := by simp
  refine enter 11 Try.func59 rfl (by kernel_rfl) rfl rfl rfl ?_
  repeat' (first | refine s_op rfl ?_ | (apply s_move; (iterate 4 (exact rfl))) | (apply s_assign; (iterate 4 (exact rfl))) | (apply s_lit0 tab_ok tabZ_ok; (iterate 7 (exact rfl))) | (apply s_lit tab_ok tabZ_ok; (iterate 10 (exact rfl))) | (refine o_adoptF 5 3 1 rfl ?_; intro loc σ hc; have hA := hc.at'; clear hc) | (apply s_appF tab_ok tabZ_ok (rows2 := path.map intRow) (rows3 := path.map intRow) (m := path.length); (iterate 10 (exact rfl)); exact hA; exact src_of (Tab.slIs tab_ok (t := 29) rfl) (rows_d rfl); exact List.nil_append _; (simp; omega); intro σ hc; replace hA := hc.at'; clear hc) | (apply s_appF tab_ok tabZ_ok (rows2 := [intRow i]) (rows3 := (path ++ [i]).map intRow) (m := ((path ++ [i]).map intRow).length); (iterate 10 (exact rfl)); exact hA; exact src_of (Tab.slIs tab_ok (t := 29) rfl) (rows_d rfl); (simp); (simp; omega); intro σ hc; replace hA := hc.at'; clear hc) | refine al_nil ?_ | refine q_then_n ?_ | refine aw_seq ?_ | refine aw_reg ?_ | refine aw_ret ?_)
  exact q_ret rfl ⟨loc, _, _, rfl, hA⟩

theorem facts_get {L : List FactT} {j : Nat} {f : FactT} (h : L[j]? = some f) : (L.map factD)[j]? = some (factD f) := by simp [h]
theorem known_here {L : List FactT} {path : List Int} {k : Nat} {f : FactT} (h1 : ∀ x ∈ L.take k, x.path ≠ path) (h : L[k]? = some f) (h2 : f.path = path) : knownF L path = some f := by
  unfold knownF
  rw [← List.take_append_drop k L, drop_get h, List.find?_append]
  have : (L.take k).find? (fun f => decide (f.path = path)) = none := List.find?_eq_none.2 fun x hx => by simpa using h1 x hx
  rw [this, List.find?_cons, decide_eq_true h2]
  rfl
theorem take_mem {α : Type} {l : List α} {k : Nat} {x : α} {P : α → Prop} (h1 : ∀ y ∈ l.take k, P y) (h : l[k]? = some x) (h2 : P x) : ∀ y ∈ l.take (k + 1), P y := fun y hy => by
  rw [List.take_add_one, h] at hy
  rcases List.mem_append.1 hy with hy | hy
  · exact h1 y hy
  · simp at hy; rw [hy]; exact h2

set_option maxRecDepth 100000 in
theorem known109_c (L : List FactT) (path : List Int) (hl : L.length ≤ 9223372036854775807) (hp : path.length ≤ 9223372036854775807) (hs : ∀ f ∈ L, f.path.length ≤ 9223372036854775807) : RunsP Try.prog 109 [factsD L, intsD path] (fun v => v = knownD (knownF L path)) := by
  have e1 : (L.map factD).length = L.length := by simp
  refine enterPB 25 tab_ok Try.func109 rfl (by kernel_rfl) rfl rfl rfl ?_
  repeat' (first | refine s_op rfl ?_ | (apply s_assign; (iterate 4 (exact rfl))) | (apply s_allocF tabZ_ok (d := 4); (iterate 6 (exact rfl)); intro locR σ hc; have hR := hc.at'; clear hc) | refine al_nil ?_ | refine q_then_n ?_ | refine aw_block ?_ | refine aw_seq ?_ | refine aw_reg ?_)
  refine w_loop [0, 1, 4, 6] (fun n vs σ => ∃ k : Nat, vs = [.d (factsD L), .d (intsD path), .ptr locR 0 0, .d (.v (.int .i64 (k : Int)))] ∧ σ[locR]? = some (.row 146 (factZ.map .d)) ∧ k ≤ L.length ∧ n = L.length - k ∧ ∀ x ∈ L.take k, x.path ≠ path) rfl ⟨0, rfl, hR, by omega, rfl, by simp⟩ ?_
  clear hR
  rintro n vs σ ⟨k, rfl, hR, hk, rfl, ht⟩ fr hfr
  cases hfr
  by_cases hlt : k < L.length
  · obtain ⟨f, hf⟩ := getS hlt
    have hs1 := same20_c f.path path (hs f (List.mem_of_getElem? hf)) hp
    have hf2 := facts_get hf
    by_cases hfp : f.path = path
    · have hkn := known_here ht hf hfp
      rw [hkn]
      rw [decide_eq_true hfp] at hs1
      obtain ⟨fp, ⟨pk, pn, pi, ps, pa, pb, pc, pl⟩, fn⟩ := f
      repeat' (first | refine s_op rfl ?_ | (apply s_move; (iterate 4 (exact rfl))) | (apply s_fa_f tab_ok; (iterate 6 (exact rfl))) | (apply s_ld_f tab_ok; (iterate 6 (exact rfl))) | (apply s_assign; (iterate 4 (exact rfl))) | (apply s_len tab_ok; (iterate 5 (exact rfl))) | (apply s_idx tab_ok; (iterate 7 (exact rfl)); (first | exact patR_get (by assumption) | exact valR_get (by assumption) | exact row_map (by assumption) | assumption)) | (apply s_lss_t; (iterate 5 (exact rfl)); omega) | (apply s_storeF tab_ok; (iterate 7 (exact rfl)); exact hR; (iterate 2 (exact rfl)); intro σ hc; replace hR := hc.at'; clear hc) | (apply s_call; (iterate 6 (exact rfl)); first | (exact hs1; rintro _ rfl)) | refine al_nil ?_ | refine q_then_n ?_ | refine q_blk_r ?_ | refine aw_block ?_ | refine q_then_r ?_ | refine aw_seq ?_ | refine aw_reg ?_ | refine aw_true rfl ?_ | refine aw_skip ?_ | refine aw_ret ?_)
      all_goals exact q_retB (resB_2 rfl (resV_c (t := 146) rfl rfl hR rfl) (resV_t rfl) rfl) ⟨_, rfl, rfl⟩
    · rw [decide_eq_false hfp] at hs1
      obtain ⟨fp, ⟨pk, pn, pi, ps, pa, pb, pc, pl⟩, fn⟩ := f
      repeat' (first | refine s_op rfl ?_ | (apply s_move; (iterate 4 (exact rfl))) | (apply s_fa_f tab_ok; (iterate 6 (exact rfl))) | (apply s_ld_f tab_ok; (iterate 6 (exact rfl))) | (apply s_assign; (iterate 4 (exact rfl))) | (apply s_len tab_ok; (iterate 5 (exact rfl))) | (apply s_idx tab_ok; (iterate 7 (exact rfl)); (first | exact patR_get (by assumption) | exact valR_get (by assumption) | exact row_map (by assumption) | assumption)) | (apply s_lss_t; (iterate 5 (exact rfl)); omega) | (apply s_add64; (iterate 5 (exact rfl)); omega) | (apply s_call; (iterate 6 (exact rfl)); first | (exact hs1; rintro _ rfl)) | refine al_nil ?_ | refine q_then_n ?_ | refine q_blk_n ?_ | refine aw_block ?_ | refine aw_seq ?_ | refine aw_reg ?_ | refine aw_true rfl ?_ | refine aw_false rfl ?_ | refine aw_skip ?_)
      all_goals exact ⟨_, _, rfl, by omega, k + 1, rfl, hR, by omega, rfl, take_mem ht hf hfp⟩
  · have hkn : knownF L path = none := List.find?_eq_none.2 fun x hx => by
      rw [List.take_of_length_le (by omega)] at ht
      simpa using ht x hx
    rw [hkn]
    repeat' (first | refine s_op rfl ?_ | (apply s_move; (iterate 4 (exact rfl))) | (apply s_assign; (iterate 4 (exact rfl))) | (apply s_len tab_ok; (iterate 5 (exact rfl))) | (apply s_build tabZ_ok; (iterate 5 (exact rfl))) | (apply s_lss_f; (iterate 5 (exact rfl)); omega) | (apply s_storeF tab_ok; (iterate 7 (exact rfl)); exact hR; (iterate 2 (exact rfl)); intro σ hc; replace hR := hc.at'; clear hc) | refine al_nil ?_ | refine q_then_n ?_ | refine q_blk_e ?_ | refine q_then_e ?_ | refine aw_exit ?_ | refine aw_seq ?_ | refine aw_reg ?_ | refine aw_false rfl ?_ | refine aw_ret ?_)
    all_goals exact q_retB (resB_2 rfl (resV_c (t := 146) rfl rfl hR rfl) (resV_t rfl) rfl) ⟨_, rfl, rfl⟩
end Go.Proofs.Ytjflembhgjcgkaa
