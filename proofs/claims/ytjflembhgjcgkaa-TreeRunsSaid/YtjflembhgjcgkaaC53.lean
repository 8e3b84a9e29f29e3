/- C53: the law's walk: TreeRuns. -/
import Derived.Test.YtjflembhgjcgkaaC54
import Derived.Test.YtjflembhgjcgkaaXC32C47
import Derived.Test.YtjflembhgjcgkaaC6
set_option linter.unusedSimpArgs false
set_option linter.unusedVariables false
-- ALLUNDEF -- BOXZ
-- LEN: patD_len valD_len brD_len treeD_len
-- ROW: patR_get valR_get row_map brR_get treeR_get
-- DEF ALX: (apply s_allocF tabZ_ok (d := 17); (iterate 6 (exact rfl)); intro locX σ hc; have hX := hc.at'; clear hc)
-- DEF ALY: (apply s_allocF tabZ_ok (d := 19); (iterate 6 (exact rfl)); intro locY σ hc; have hY := hc.at'; have nXY := hc.ne hX; replace hX := hc.keep hX; clear hc)
-- DEF STX: (apply s_storeF tab_ok; (iterate 7 (exact rfl)); exact hX; (iterate 2 (exact rfl)); intro σ hc; replace hX := hc.at'; clear hc)
-- DEF STY: (apply s_storeF tab_ok; (iterate 7 (exact rfl)); exact hY; (iterate 2 (exact rfl)); intro σ hc; replace hY := hc.at'; replace hX := hc.keep (by first | assumption | (apply Ne.symm; assumption) | omega) hX; clear hc)
-- DEF LDX: (apply s_ldF tab_ok; (iterate 5 (exact rfl)); (first | exact hX | exact hY); exact rfl)
namespace Go.Proofs.Ytjflembhgjcgkaa
open Go.RowKit

theorem at_small : ∀ (path : List Int) (v w : Val), v.small 9223372036854775807 → atF v path = some w → w.small 9223372036854775807
  | [], v, w, h, e => by injection e with e; rw [← e]; exact h
  | x :: path, v, w, h, e => by
    simp only [atF] at e
    split at e
    · cases e
    · cases hx : v.l[x.toNat]? with
      | none => rw [hx] at e; cases e
      | some u =>
        rw [hx] at e
        obtain ⟨k, n, s, l⟩ := v
        exact at_small path u w (Val.small_get h hx) e
section
variable {P : Program} {nt : Nat} {ops : Array Oper} {dr : Bool} {dos ends : List Nat} {i d ty : Nat} {pos : String} {aft : Array Edge} {gd : Option (Nat × Bool)} {l : Trr} {Q : Exit → Fr → List AObj → Prop} {fr : Fr} {σ : List AObj}
theorem s_beqR (hy : P.underlying 4 = some .bool) {t' : TypeId} {a b : Operand} {m : Bool} (hp : dr = dr) (hg : guardB ops fr gd = some true) (ht : Nat.blt d nt = true) (ha : aget fr a = .d (.v (.bool m))) (hb : aget fr b = .d (.v (.bool m))) (h : AL P nt ops dr dos ends l Q ((d, .d (.v (.bool true))) :: fr) σ) : ALo P nt ops dr dos ends i ⟨some d, .binOp .eql 4 a b t', ty, pos, aft, gd⟩ l Q fr σ :=
  s_booleq hy hp hg ht ha hb (by rw [beq_self_eq_true]; exact h)
end
set_option maxRecDepth 100000 in
set_option maxHeartbeats 8000000 in
theorem treeRuns_c (hkn : RunsP Try.prog 12 [] (fun v => v = .v (.bool true))) (t : TreeT) (ht : t.small) (l : List Pat) (hll : l.length ≤ 140737488355328) (hl : ∀ p ∈ l, p.low) (v : Val) (hv : v.low) (path : List Int) (hp : path.length ≤ 140737488355328) :
    RunsP Try.prog 9 [.agg (treeD t), patsD l, .agg (valD v), intsD path] (fun r => r = .v (.bool true)) := by
  have hvs := Val.low_small hv
  have z1 := size36_c t ht 0
  have z2 := sizeZ_c (.mk 0 0 0 ⟨#[]⟩ 0 0 0 l) ⟨by simp [ByteArray.size], hll, Pat.lowL_of hl⟩ 0
  simp only [Pat.l] at z2
  have z3 := sizeVZ_c v hv 0
  have r1 := Run37_c t ht v hvs
  have r2 := Run38_c v hvs t ht
  have f1 := First39_c l v (by omega) fun p hp => fits_c _ (Nat.le_refl _) p (Pat.low_small (hl p hp)) v hvs
  have f2 := First40_c l v (by omega) fun p hp => rfits_c _ (Nat.le_refl _) p (Pat.low_small (hl p hp)) v hvs
  have a1 := at41_c v hvs path (by omega)
  have a2 := at42_c path (by omega) v hvs
  have e2 : (path.map intRow).length = path.length := by simp
  have hal : ∀ w : Val, w.small 9223372036854775807 → RunsP Try.prog 43 [.agg (valD w), .agg (valD w)] (fun r => r = .v (.bool true)) := fun w hw => by
    have := alike43_c w hw w hw
    rwa [alikeV_refl] at this
  obtain ⟨ra, rb, hro, hra, hrb⟩ : ∃ (ra : Int) (rb : Bool), runD (runF t v) = .tup [.v (.int .i64 ra), .v (.bool rb)] ∧ True ∧ True := by
    cases runF t v <;> exact ⟨_, _, rfl, trivial, trivial⟩
  rw [hro] at r1 r2
  clear hro
  unfold firstD at f1 f2
  generalize (match firstF l v with | some k => (k : Int) | none => 0) = fa at f1 f2
  generalize (firstF l v).isSome = fb at f1 f2
  obtain ⟨w, wb, hat, hw⟩ : ∃ (w : Val) (wb : Bool), atD (atF v path) = .tup [.agg (valD w), .v (.bool wb)] ∧ w.small 9223372036854775807 := by
    cases ha : atF v path with
    | none => exact ⟨zeroVl, false, rfl, by simp [zeroVl, Val.small, Val.smallL, maxLen, ByteArray.size]⟩
    | some w => exact ⟨w, true, rfl, at_small path v w hvs ha⟩
  rw [hat] at a1 a2
  have hal := hal w hw
  clear hat
  obtain ⟨bk, bn, bi, bs, k, n, tp, c, e⟩ := t
  obtain ⟨vk, vn, vs, vl⟩ := v
  obtain ⟨wk, wn, ws, wl⟩ := w
  refine enterPB 105 tab_ok Try.func9 rfl (by kernel_rfl) rfl rfl rfl ?_
  repeat' (first
      | refine s_op rfl ?_ | (apply s_skipV; (iterate 2 (exact rfl))) | (apply s_skipU; (iterate 3 (exact rfl))) | (apply s_move; (iterate 4 (exact rfl))) | (apply s_ld_p tab_ok; (iterate 7 (exact rfl)))
      | (apply s_ld_f tab_ok; (iterate 6 (exact rfl))) | (apply s_ld_w tab_ok; (iterate 5 (exact rfl)); (first | exact patD_len _ | exact valD_len _ | exact brD_len _ | exact treeD_len _)) | (apply s_assign; (iterate 4 (exact rfl))) | (apply s_pick_t; (iterate 5 (exact rfl))) | (apply s_pick_f; (iterate 5 (exact rfl)))
      | (apply s_len tab_ok; (iterate 5 (exact rfl))) | (apply s_lens str_ok; (iterate 4 (exact rfl))) | (apply s_ext; (iterate 5 (exact rfl))) | (apply s_boxZ; (iterate 5 (exact rfl)); first | exact rfl | exact allD_mapd _) | (apply s_not_t; (iterate 4 (exact rfl)))
      | (apply s_not_f; (iterate 4 (exact rfl))) | (apply s_not; (iterate 4 (exact rfl))) | (apply s_eql_t; (iterate 5 (exact rfl)); omega) | (apply s_eql_f; (iterate 5 (exact rfl)); omega) | (apply s_gtr_t; (iterate 5 (exact rfl)); omega)
      | (apply s_gtr_f; (iterate 5 (exact rfl)); omega)
      | (apply s_beqR bool_ok; (iterate 5 (exact rfl)))
      | (apply s_call; (iterate 6 (exact rfl)); exact z1; rintro _ ⟨z, rfl⟩)
      | (apply s_call; (iterate 6 (exact rfl)); exact z2; rintro _ ⟨zz, rfl, _⟩)
      | (apply s_call; (iterate 6 (exact rfl)); exact z3; rintro _ ⟨zzz, rfl, _⟩)
      | (apply s_gtrS; (iterate 5 (exact rfl)); all_goals intro _)
      | (apply s_allocF tabZ_ok (d := 17); (iterate 6 (exact rfl)); intro locX σ hc; have hX := hc.at'; clear hc)
      | (apply s_allocF tabZ_ok (d := 19); (iterate 6 (exact rfl)); intro locY σ hc; have hY := hc.at'; have nXY := hc.ne hX; replace hX := hc.keep hX; clear hc)
      | (apply s_storeF tab_ok; (iterate 7 (exact rfl)); exact hX; (iterate 2 (exact rfl)); intro σ hc; replace hX := hc.at'; clear hc)
      | (apply s_storeF tab_ok; (iterate 7 (exact rfl)); exact hY; (iterate 2 (exact rfl)); intro σ hc; replace hY := hc.at'; replace hX := hc.keep (by first | assumption | (apply Ne.symm; assumption) | omega) hX; clear hc)
      | (apply s_ldF tab_ok; (iterate 5 (exact rfl)); (first | exact hX | exact hY); exact rfl)
      | (apply s_call; (iterate 6 (exact rfl)); first | (exact hkn; rintro _ rfl) | (exact r1; rintro _ rfl) | (exact r2; rintro _ rfl) | (exact f1; rintro _ rfl) | (exact f2; rintro _ rfl) | (exact a1; rintro _ rfl) | (exact a2; rintro _ rfl) | (exact hal; rintro _ rfl))
      | refine al_nil ?_ | refine q_then_n ?_ | refine q_then_r ?_ | refine aw_seq ?_ | refine aw_reg ?_
      | refine aw_true rfl ?_ | refine aw_false rfl ?_ | refine aw_skip ?_ | refine aw_ret ?_)
  all_goals exact q_retB (resB_1 rfl (resV_t rfl)) ⟨_, rfl, rfl⟩
end Go.Proofs.Ytjflembhgjcgkaa
