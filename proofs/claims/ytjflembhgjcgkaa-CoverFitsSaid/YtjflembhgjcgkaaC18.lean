/- C18: together, of the program: what it says. -/
import Derived.Test.YtjflembhgjcgkaaC17
set_option linter.unusedSimpArgs false
set_option linter.unusedVariables false
-- ALLUNDEF -- BOXZ
namespace Go.Proofs.Ytjflembhgjcgkaa
open Go.RowKit

section
variable {g : Sg} {l : List Pat} {locF locM k m : Nat} {cs : List AV} {G : List (Int × Nat × Nat)} {σ : List AObj}
theorem tog1_round (hs : g.Small) (hm : m ≤ 1000000000) (hl : SmallP m l) (hlt : k < l.length) (hF : σ[locF]? = some (.row 41 cs)) (hI : FirstIs g cs (l.take k)) (hG : GInv σ locM G (l.take k)) (hA : ∀ p ∈ l.take k, aloneB g p = true) {X : Code} (hX : tog1 = some X) :
    AWk Try.prog 110 X (TQ1 g l locF locM k) ([2, 5, 6, 17, 18, 19].zip [.d (.fptr (sigD g)), .ptr locF 0 0, .mp locM, .d (patsD l), .d (.v (.int .i64 ((patR l).length : Int))), .d (.v (.int .i64 (k : Int)))]) σ := by
  obtain ⟨pk, pn, pi, ps, pa, pb, pc, pl, hq⟩ := getM hlt
  have hll : l.length ≤ 1000000000 := Nat.le_trans hl.len hm
  have hpl : pl.length ≤ 1000000000 := Nat.le_trans (hl.each _ (List.mem_of_getElem? hq)).1 hm
  cases hb : aloneB g (.mk pk pn pi ps pa pb pc pl) with
  | false => exact tog1_bad hs hll hlt hq hpl hF hG hb hX
  | true =>
  cases ho : openB (.mk pk pn pi ps pa pb pc pl) with
  | true => exact tog1_open_ hs hll hlt hq hpl hF hG hI hb hA ho hX
  | false =>
  rcases hI with ⟨hcs, hall⟩ | ⟨⟨fk, fn, fi, fs, fa, fb, fc, fl⟩, hFm, hFo, hcs, hFp⟩
  · by_cases h5 : pk = 5
    · rcases hG.look pn with ⟨h1, h2, h3⟩ | ⟨j, loc, ver, h1, _, _⟩
      · exact tog1_firstcon hs hll hlt hq hpl hF hG hcs hall hb hA ho h5 h1 h2 h3 hX
      · obtain ⟨p, hp, hp5, _⟩ := hG.from_ _ (List.mem_of_getElem? h1)
        have := of_decide_eq_true (hall p hp)
        omega
    · exact tog1_firstlit hs hll hlt hq hpl hF hG hcs hall hb hA ho h5 hX
  · have hpb : pairB g (.mk fk fn fi fs fa fb fc fl) (.mk pk pn pi ps pa pb pc pl) = (decide (fk = pk) && (!decide (fk = 5) || decide (g.dataOf fn = g.dataOf pn))) := by
      simp only [pairB, hFo, ho, Pat.kind, Pat.n, Bool.false_or]
      rfl
    by_cases hk : fk = pk
    · by_cases h5 : pk = 5
      · have hf5 : fk = 5 := by omega
        by_cases hd : g.dataOf fn = g.dataOf pn
        · have hpr : pairB g (.mk fk fn fi fs fa fb fc fl) (.mk pk pn pi ps pa pb pc pl) = true := by rw [hpb]; simp [hk, hd]
          rcases hG.look pn with ⟨h1, h2, h3⟩ | ⟨j, loc, ver, h1, h2, h3⟩
          · exact tog1_nextnew hs hll hlt hq hpl hF hG hFm hFo hcs hFp hb hA ho hpr hf5 hd h5 h1 h2 h3 hX
          · exact tog1_nextold hs hll hlt hq hpl hF hG hFm hFo hcs hFp hb hA ho hpr hf5 hd h5 h1 h2 h3 hX
        · exact tog1_nopaird hs hll hlt hq hpl hF hG hFm hFo hcs hb hA ho hf5 h5 hd (by rw [hpb]; simp [hk, hd, h5]) hX
      · exact tog1_nextlit hs hll hlt hq hpl hF hG hFm hFo hcs hFp hb hA ho (by rw [hpb]; simp [hk, h5]) hk h5 hX
    · exact tog1_nopairk hs hll hlt hq hpl hF hG hFm hFo hcs hb hA ho hk (by rw [hpb]; simp [hk]) hX
end

set_option maxRecDepth 100000 in
set_option maxHeartbeats 8000000 in
theorem tog_c (g : Sg) (hs : g.Small) (m : Nat) (hm : m ≤ 1000000000) (l : List Pat) : SmallP m l → RunsP Try.prog 68 [.agg (sigD g), patsD l] (fun v => v = .v (.bool (togB g l))) := by
  induction hN : szL l using Nat.strongRecOn generalizing l with
  | ind N ih =>
  intro hl
  subst hN
  have e1 := patR_len l
  have hlen := hl.len
  refine enterP 110 Try.func68 rfl (by kernel_rfl) rfl rfl rfl ?_
  repeat' (first
      | refine s_op rfl ?_ | (apply s_skipV; (iterate 2 (exact rfl))) | (apply s_skipU; (iterate 3 (exact rfl))) | (apply s_move; (iterate 4 (exact rfl))) | (apply s_fa_p tab_ok; (iterate 5 (exact rfl)))
      | (apply s_fa_f tab_ok; (iterate 6 (exact rfl))) | (apply s_ld_p tab_ok; (iterate 7 (exact rfl))) | (apply s_ld_f tab_ok; (iterate 6 (exact rfl))) | (apply s_ld_w tab_ok; (iterate 5 (exact rfl)); (first | exact patD_len _ | exact valD_len _)) | (apply s_assign; (iterate 4 (exact rfl)))
      | (apply s_pick_t; (iterate 5 (exact rfl))) | (apply s_pick_f; (iterate 5 (exact rfl))) | (apply s_len tab_ok; (iterate 5 (exact rfl))) | (apply s_lens str_ok; (iterate 4 (exact rfl))) | (apply s_idx tab_ok; (iterate 7 (exact rfl)); (first | exact patR_get (by assumption) | exact valR_get (by assumption) | exact row_map (by assumption) | assumption))
      | (apply s_ext; (iterate 5 (exact rfl))) | (apply s_build tabZ_ok; (iterate 5 (exact rfl))) | (apply s_alloc tabZ_ok; (iterate 7 (exact rfl))) | (apply s_boxZ; (iterate 5 (exact rfl)); first | exact rfl | exact allD_mapd _) | (apply s_store tab_ok; (iterate 10 (exact rfl)))
      | (apply s_lit tab_ok tabZ_ok; (iterate 10 (exact rfl))) | (apply s_lit1 tab_ok tabZ_ok; (iterate 9 (exact rfl)); (first | exact patD_len _ | exact valD_len _)) | (apply s_app tab_ok tabZ_ok; (iterate 13 (exact rfl)); (first | (simp; done) | (simp; omega))) | (apply s_not_t; (iterate 4 (exact rfl))) | (apply s_not_f; (iterate 4 (exact rfl)))
      | (apply s_not; (iterate 4 (exact rfl))) | (apply s_eql_t; (iterate 5 (exact rfl)); omega) | (apply s_eql_f; (iterate 5 (exact rfl)); omega) | (apply s_neq_t; (iterate 5 (exact rfl)); omega) | (apply s_neq_f; (iterate 5 (exact rfl)); omega)
      | (apply s_lss_t; (iterate 5 (exact rfl)); omega) | (apply s_lss_f; (iterate 5 (exact rfl)); omega) | (apply s_add64; (iterate 5 (exact rfl)); omega)
      | (apply s_makeMapF kI; (iterate 4 (exact rfl)); intro locM σ hc)
      | refine al_nil ?_ | refine q_then_n ?_ | refine q_blk_n ?_ | refine q_blk_r ?_ | refine q_blk_e ?_
      | refine q_blk_o rfl ?_ | refine q_then_e ?_ | refine aw_block ?_ | refine aw_exit ?_ | refine q_then_r ?_
      | refine aw_seq ?_ | refine aw_reg ?_ | refine aw_true rfl ?_ | refine aw_false rfl ?_ | refine aw_skip ?_
      | refine aw_ret ?_ | refine al_fork ?_ ?_ | refine al_fork3 ?_ ?_ ?_
      | refine aw_draws (id := 11) (trO [0, 1, 2, 3, 4, 5, 6, 7, 8, 9, 10, 11, 12, 13, 14, 15, 16, 17, 18, 19, 20, 21, 22, 23, 24, 25, 26] .nil) [] [] mixed_ok (by kernel_rfl) ?_
      | refine aw_draws (id := 14) (trO [0, 1, 3, 4, 5, 6, 7] (.fork 2 (trO [8, 9, 10] .nil) 8 (.fork 2 (trO [9, 10] .nil) 9 (trO [2, 10] .nil)))) [2, 8, 9, 10] [9, 10] mixed_ok (by kernel_rfl) ?_)
  have hF0 : σ[0]? = some (.row 41 (rowNil.map .d)) := hc.keep rfl
  have hM0 : GInv σ locM [] (l.take 0) := ⟨hc.at', (fun x hx => by cases hx), List.nodup_nil, List.nodup_nil, (fun p hp => by simp at hp), (fun x hx => by cases hx)⟩
  refine w_loop [2, 5, 6, 17, 18, 19] (fun n vs σ => ∃ k : Nat, vs = [.d (.fptr (sigD g)), .ptr 0 0 0, .mp locM, .d (patsD l), .d (.v (.int .i64 ((patR l).length : Int))), .d (.v (.int .i64 (k : Int)))] ∧ k ≤ l.length ∧ n = l.length - k ∧ ∃ cs G, σ[0]? = some (.row 41 cs) ∧ FirstIs g cs (l.take k) ∧ GInv σ locM G (l.take k) ∧ ∀ p ∈ l.take k, aloneB g p = true) rfl
    ⟨0, rfl, by omega, rfl, _, _, hF0, .inl ⟨rfl, (fun p hp => by simp at hp)⟩, hM0, (fun p hp => by simp at hp)⟩ ?_
  clear hc hF0 hM0
  rintro n vs σ ⟨k, rfl, hk, rfl, cs, G, hF, hI, hG, hA⟩ fr hfr
  cases hfr
  by_cases hlt : k < l.length
  · refine AWk.mono (Q := TQ1 g l 0 locM k) (tog1_round hs hm hl hlt hF hI hG hA rfl) fun e fr' σ' h => ?_
    cases e with
    | normal =>
      obtain ⟨h1, cs', G', h2⟩ := h
      exact ⟨_, _, h1, by omega, k + 1, rfl, by omega, rfl, cs', G', h2⟩
    | ret =>
      obtain ⟨h1, h2⟩ := h
      rw [h2]
      refine q_then_r ?_
      refine q_blk_r ?_
      refine q_then_r ?_
      exact q_ret rfl ⟨_, h1, rfl⟩
    | exit i => exact h.elim
    | goto i => exact h.elim
    | panic i => exact h.elim
    | outgrown => exact h.elim
  have hk' : l.take k = l := List.take_of_length_le (by omega)
  rw [hk'] at hI hG hA
  repeat' (first
      | refine s_op rfl ?_ | (apply s_skipV; (iterate 2 (exact rfl))) | (apply s_skipU; (iterate 3 (exact rfl))) | (apply s_move; (iterate 4 (exact rfl))) | (apply s_fa_p tab_ok; (iterate 5 (exact rfl)))
      | (apply s_fa_f tab_ok; (iterate 6 (exact rfl))) | (apply s_ld_p tab_ok; (iterate 7 (exact rfl))) | (apply s_ld_f tab_ok; (iterate 6 (exact rfl))) | (apply s_ld_w tab_ok; (iterate 5 (exact rfl)); (first | exact patD_len _ | exact valD_len _)) | (apply s_assign; (iterate 4 (exact rfl)))
      | (apply s_pick_t; (iterate 5 (exact rfl))) | (apply s_pick_f; (iterate 5 (exact rfl))) | (apply s_len tab_ok; (iterate 5 (exact rfl))) | (apply s_lens str_ok; (iterate 4 (exact rfl))) | (apply s_idx tab_ok; (iterate 7 (exact rfl)); (first | exact patR_get (by assumption) | exact valR_get (by assumption) | exact row_map (by assumption) | assumption))
      | (apply s_ext; (iterate 5 (exact rfl))) | (apply s_build tabZ_ok; (iterate 5 (exact rfl))) | (apply s_alloc tabZ_ok; (iterate 7 (exact rfl))) | (apply s_boxZ; (iterate 5 (exact rfl)); first | exact rfl | exact allD_mapd _) | (apply s_store tab_ok; (iterate 10 (exact rfl)))
      | (apply s_lit tab_ok tabZ_ok; (iterate 10 (exact rfl))) | (apply s_lit1 tab_ok tabZ_ok; (iterate 9 (exact rfl)); (first | exact patD_len _ | exact valD_len _)) | (apply s_app tab_ok tabZ_ok; (iterate 13 (exact rfl)); (first | (simp; done) | (simp; omega))) | (apply s_not_t; (iterate 4 (exact rfl))) | (apply s_not_f; (iterate 4 (exact rfl)))
      | (apply s_not; (iterate 4 (exact rfl))) | (apply s_eql_t; (iterate 5 (exact rfl)); omega) | (apply s_eql_f; (iterate 5 (exact rfl)); omega) | (apply s_neq_t; (iterate 5 (exact rfl)); omega) | (apply s_neq_f; (iterate 5 (exact rfl)); omega)
      | (apply s_lss_t; (iterate 5 (exact rfl)); omega) | (apply s_lss_f; (iterate 5 (exact rfl)); omega) | (apply s_add64; (iterate 5 (exact rfl)); omega)
      | (apply s_rangeF mapP_ok; (iterate 5 (exact rfl)); exact hG.map; intro it σ hc)
      | refine al_nil ?_ | refine q_then_n ?_ | refine q_blk_n ?_ | refine q_blk_r ?_ | refine q_blk_e ?_
      | refine q_blk_o rfl ?_ | refine q_then_e ?_ | refine aw_block ?_ | refine aw_exit ?_ | refine q_then_r ?_
      | refine aw_seq ?_ | refine aw_reg ?_ | refine aw_true rfl ?_ | refine aw_false rfl ?_ | refine aw_skip ?_
      | refine aw_ret ?_ | refine al_fork ?_ ?_ | refine al_fork3 ?_ ?_ ?_
      | refine aw_draws (id := 11) (trO [0, 1, 2, 3, 4, 5, 6, 7, 8, 9, 10, 11, 12, 13, 14, 15, 16, 17, 18, 19, 20, 21, 22, 23, 24, 25, 26] .nil) [] [] mixed_ok (by kernel_rfl) ?_
      | refine aw_draws (id := 14) (trO [0, 1, 3, 4, 5, 6, 7] (.fork 2 (trO [8, 9, 10] .nil) 8 (.fork 2 (trO [9, 10] .nil) 9 (trO [2, 10] .nil)))) [2, 8, 9, 10] [9, 10] mixed_ok (by kernel_rfl) ?_)
  have h2 : I2 σ locM it G l [] := ⟨hc.keep hG.map, hc.at', fun j x _ hx => hc.keep (hG.arr x (List.mem_of_getElem? hx))⟩
  refine w_loop [2, 74] (fun n vs σ => ∃ seen : List Nat, vs = [.d (.fptr (sigD g)), .ptr it 0 0] ∧ I2 σ locM it G l seen ∧ seen.Nodup ∧ (∀ x ∈ seen, x < G.length) ∧ n = G.length - seen.length ∧ ∀ j ∈ seen, ∀ x, G[j]? = some x → ∀ f, f < g.arity x.1 → togB g (kidsL l x.1 f) = true) rfl ⟨[], rfl, h2, List.nodup_nil, by simp, rfl, by simp⟩ ?_
  clear h2 hc
  rintro n vs σ ⟨seen, rfl, h2, hnd, hlt2, rfl, hdone⟩ fr hfr
  cases hfr
  refine AWk.mono (Q := TQ2 g l G locM it seen) (tog2_round hs hm hl hA hG.locs hG.from_ (fun l' h h' => ih _ h l' rfl h') h2 rfl) fun e fr' σ' h => ?_
  cases e with
  | normal =>
    obtain ⟨h1, j, x, hj, hx, h3, h4⟩ := h
    have hjl := (List.getElem?_eq_some_iff.1 hx).1
    have hnd' : (seen ++ [j]).Nodup := by rw [List.nodup_append]; exact ⟨hnd, by simp, fun a ha b hb => by simp at hb; subst hb; exact fun e => hj (e ▸ ha)⟩
    have hlt' : ∀ x ∈ seen ++ [j], x < G.length := fun x hx => (List.mem_append.1 hx).elim (hlt2 x) fun q => by simp at q; omega
    have hle := nodup_len _ _ hnd' hlt'
    simp only [List.length_append, List.length_cons, List.length_nil] at hle
    refine ⟨_, _, h1, ?_, seen ++ [j], rfl, h3, hnd', hlt', rfl, fun i hi y hy => ?_⟩
    · simp only [List.length_append, List.length_cons, List.length_nil]; omega
    · rcases List.mem_append.1 hi with hi | hi
      · exact hdone i hi y hy
      · simp at hi; subst hi; rw [hx] at hy; injection hy with hy; subst hy; exact h4
  | ret =>
    obtain ⟨h1, h2⟩ := h
    rw [h2]
    refine q_then_r ?_
    refine q_blk_r ?_
    refine q_then_r ?_
    exact q_ret rfl ⟨_, h1, rfl⟩
  | exit i =>
    obtain ⟨rfl, hall⟩ := h
    have htrue : togB g l = true := tog_ok hA hI.all fun p hp f hf => by
      have h5 : p.kind = 5 := by
        by_cases q : p.kind = 5
        · exact q
        · rw [alone_leaf (hA p hp) q] at hf; cases hf
      obtain ⟨x, hx, e⟩ := hG.has p hp h5
      obtain ⟨j, hj⟩ := List.getElem?_of_mem hx
      have := hdone j (hall j (List.getElem?_eq_some_iff.1 hj).1) x hj f (by rw [e, ← (alone_con (hA p hp) h5).2.2]; exact hf)
      rw [e] at this; exact this
    rw [htrue]
    repeat' (first
      | refine s_op rfl ?_ | (apply s_skipV; (iterate 2 (exact rfl))) | (apply s_skipU; (iterate 3 (exact rfl))) | (apply s_move; (iterate 4 (exact rfl))) | (apply s_fa_p tab_ok; (iterate 5 (exact rfl)))
      | (apply s_fa_f tab_ok; (iterate 6 (exact rfl))) | (apply s_ld_p tab_ok; (iterate 7 (exact rfl))) | (apply s_ld_f tab_ok; (iterate 6 (exact rfl))) | (apply s_ld_w tab_ok; (iterate 5 (exact rfl)); (first | exact patD_len _ | exact valD_len _)) | (apply s_assign; (iterate 4 (exact rfl)))
      | (apply s_pick_t; (iterate 5 (exact rfl))) | (apply s_pick_f; (iterate 5 (exact rfl))) | (apply s_len tab_ok; (iterate 5 (exact rfl))) | (apply s_lens str_ok; (iterate 4 (exact rfl))) | (apply s_idx tab_ok; (iterate 7 (exact rfl)); (first | exact patR_get (by assumption) | exact valR_get (by assumption) | exact row_map (by assumption) | assumption))
      | (apply s_ext; (iterate 5 (exact rfl))) | (apply s_build tabZ_ok; (iterate 5 (exact rfl))) | (apply s_alloc tabZ_ok; (iterate 7 (exact rfl))) | (apply s_boxZ; (iterate 5 (exact rfl)); first | exact rfl | exact allD_mapd _) | (apply s_store tab_ok; (iterate 10 (exact rfl)))
      | (apply s_lit tab_ok tabZ_ok; (iterate 10 (exact rfl))) | (apply s_lit1 tab_ok tabZ_ok; (iterate 9 (exact rfl)); (first | exact patD_len _ | exact valD_len _)) | (apply s_app tab_ok tabZ_ok; (iterate 13 (exact rfl)); (first | (simp; done) | (simp; omega))) | (apply s_not_t; (iterate 4 (exact rfl))) | (apply s_not_f; (iterate 4 (exact rfl)))
      | (apply s_not; (iterate 4 (exact rfl))) | (apply s_eql_t; (iterate 5 (exact rfl)); omega) | (apply s_eql_f; (iterate 5 (exact rfl)); omega) | (apply s_neq_t; (iterate 5 (exact rfl)); omega) | (apply s_neq_f; (iterate 5 (exact rfl)); omega)
      | (apply s_lss_t; (iterate 5 (exact rfl)); omega) | (apply s_lss_f; (iterate 5 (exact rfl)); omega) | (apply s_add64; (iterate 5 (exact rfl)); omega)
      | refine al_nil ?_ | refine q_then_n ?_ | refine q_blk_n ?_ | refine q_blk_r ?_ | refine q_blk_e ?_
      | refine q_blk_o rfl ?_ | refine q_then_e ?_ | refine aw_block ?_ | refine aw_exit ?_ | refine q_then_r ?_
      | refine aw_seq ?_ | refine aw_reg ?_ | refine aw_true rfl ?_ | refine aw_false rfl ?_ | refine aw_skip ?_
      | refine aw_ret ?_ | refine al_fork ?_ ?_ | refine al_fork3 ?_ ?_ ?_
      | refine aw_draws (id := 11) (trO [0, 1, 2, 3, 4, 5, 6, 7, 8, 9, 10, 11, 12, 13, 14, 15, 16, 17, 18, 19, 20, 21, 22, 23, 24, 25, 26] .nil) [] [] mixed_ok (by kernel_rfl) ?_
      | refine aw_draws (id := 14) (trO [0, 1, 3, 4, 5, 6, 7] (.fork 2 (trO [8, 9, 10] .nil) 8 (.fork 2 (trO [9, 10] .nil) 9 (trO [2, 10] .nil)))) [2, 8, 9, 10] [9, 10] mixed_ok (by kernel_rfl) ?_)
    exact q_ret rfl ⟨_, rfl, rfl⟩
  | goto i => exact h.elim
  | panic i => exact h.elim
  | outgrown => exact h.elim
end Go.Proofs.Ytjflembhgjcgkaa
