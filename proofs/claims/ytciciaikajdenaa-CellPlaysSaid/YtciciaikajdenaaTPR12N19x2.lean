/- N19: package cell's drop, Drop. -/
import Derived.Test.YtciciaikajdenaaTPR12N17x2
set_option linter.unusedSimpArgs false
set_option linter.unusedVariables false
namespace Go.Proofs.Ytciciaikajdenaa
open Go.RowKit

/-- How many cells are freed. -/
def dropsN (g : AHeap → AWord → AHeap) (c : AHeap → AWord → Nat) : AHeap → List AWord → Nat
  | _, [] => 0
  | H, w :: ws => c H w + dropsN g c (g H w) ws
def dropN : Nat → AHeap → AWord → Nat
  | 0, _, _ => 0
  | f + 1, H, w => if w.k = 5 then 1 + dropsN (dropF f) (dropN f) (H.drop w).2 (H.drop w).1.1.ws else 0
/-- The depth is enough. -/
def fuelsOk (g : AHeap → AWord → AHeap) (p : AHeap → AWord → Prop) : AHeap → List AWord → Prop
  | _, [] => True
  | H, w :: ws => p H w ∧ fuelsOk g p (g H w) ws
def fuelOk : Nat → AHeap → AWord → Prop
  | 0, _, w => w.k ≠ 5
  | f + 1, H, w => w.k = 5 → fuelsOk (dropF f) (fuelOk f) (H.drop w).2 (H.drop w).1.1.ws
theorem dropsF_append (g : AHeap → AWord → AHeap) : ∀ (a b : List AWord) (H : AHeap), dropsF g H (a ++ b) = dropsF g (dropsF g H a) b
  | [], b, H => rfl
  | w :: a, b, H => dropsF_append g a b (g H w)
theorem dropsN_append (g : AHeap → AWord → AHeap) (c : AHeap → AWord → Nat) : ∀ (a b : List AWord) (H : AHeap), dropsN g c H (a ++ b) = dropsN g c H a + dropsN g c (dropsF g H a) b
  | [], b, H => by simp [dropsN, dropsF]
  | w :: a, b, H => by simp only [List.cons_append, dropsN, dropsF, dropsN_append g c a b (g H w)]; omega
theorem fuelsOk_get {g : AHeap → AWord → AHeap} {p : AHeap → AWord → Prop} : ∀ {ws : List AWord} {H : AHeap} {j : Nat} {w : AWord}, fuelsOk g p H ws → ws[j]? = some w → p (dropsF g H (ws.take j)) w
  | [], H, j, w, _, h => by simp at h
  | a :: ws, H, 0, w, ⟨h1, _⟩, h => by simp at h; subst h; exact h1
  | a :: ws, H, j + 1, w, ⟨_, h2⟩, h => by
    simp only [List.take_succ_cons, dropsF]
    exact fuelsOk_get h2 (by simpa using h)
theorem drop_keep {H : AHeap} {B : Int} (ok : H.Ok B) (w : AWord) : (H.drop w).2.Ok (B + 1) := by
  unfold AHeap.drop
  split
  · exact ok.mono (by omega)
  · rename_i h
    have hz : (H.find w).1 = 0 := by simpa using h
    obtain ⟨_, _, _, _, h5, h6, _⟩ := AHeap.find_zero hz
    exact ok.freed h5 h6
theorem drop_ws {H : AHeap} {B : Int} (ok : H.Ok B) (w : AWord) : (H.drop w).1.1.ws.length ≤ 64 := by
  unfold AHeap.drop
  split
  · simp [ACell.zero]
  · rename_i h
    have hz : (H.find w).1 = 0 := by simpa using h
    obtain ⟨_, _, _, _, h5, h6, _⟩ := AHeap.find_zero hz
    exact ok.words _ (AHeap.slot_mem h5)
theorem dropsF_ok {g : AHeap → AWord → AHeap} {c : AHeap → AWord → Nat} (hg : ∀ H w B, AHeap.Ok H B → (g H w).Ok (B + c H w)) : ∀ (ws : List AWord) (H : AHeap) (B : Int), H.Ok B → (dropsF g H ws).Ok (B + dropsN g c H ws)
  | [], H, B, ok => by simpa [dropsF, dropsN] using ok
  | w :: ws, H, B, ok => by
    have := dropsF_ok hg ws (g H w) _ (hg H w B ok)
    simp only [dropsF, dropsN]
    exact this.mono (by omega)
theorem dropF_ok : ∀ (f : Nat) (H : AHeap) (w : AWord) (B : Int), H.Ok B → (dropF f H w).Ok (B + dropN f H w)
  | 0, H, w, B, ok => by simpa [dropF, dropN] using ok
  | f + 1, H, w, B, ok => by
    unfold dropF dropN
    split
    · have := dropsF_ok (fun H w B ok => dropF_ok f H w B ok) (H.drop w).1.1.ws (H.drop w).2 (B + 1) (drop_keep ok w)
      exact this.mono (by omega)
    · simpa using ok
section
variable {σ : List AObj} {locH : Nat}
/-- What drop leaves. -/
def DroppedP (locH : Nat) (K : AHeap) (σ : List AObj) : AV → List AObj → Prop := fun r σ' => r = .tup [] ∧ σ'[locH]? = some (ho K) ∧ KeptP (· ≠ locH) σ σ'
set_option maxRecDepth 100000 in
set_option maxHeartbeats 8000000 in
theorem drop_leaf {H : AHeap} {w : AWord} (hk : w.k ≠ 5) (hH : σ[locH]? = some (ho H)) : Runs Try.prog 100 [.ptr locH 0 0, .d (.fptr worldC), .d (.agg (wordD w))] σ (DroppedP locH H σ) := by
  have hd := world_drop w.n
  have hK := KeptP.refl (· ≠ locH) σ
  obtain ⟨wk, wn, ws, wg⟩ := w
  simp only at hk hd
  refine enter 38 Try.func100 rfl (by kernel_rfl) rfl rfl rfl ?_
  by_cases h6 : wk = 6
  · repeat' (first | refine s_op rfl ?_ | (apply s_move; (iterate 4 (exact rfl))) | (apply s_fa_f tab_ok; (iterate 6 (exact rfl))) | (apply s_ld_f tab_ok; (iterate 6 (exact rfl))) | (apply s_assign; (iterate 4 (exact rfl))) | (apply s_boxZ; (iterate 5 (exact rfl)); first | exact rfl | exact allD_mapd _) | (apply s_eql_t; (iterate 5 (exact rfl)); omega) | (apply s_call; (iterate 6 (exact rfl)); first | (exact hd; rintro _ rfl)) | refine al_nil ?_ | refine q_then_n ?_ | refine q_blk_n ?_ | refine aw_block ?_ | refine aw_seq ?_ | refine aw_reg ?_ | refine aw_true rfl ?_)
    all_goals exact q_end rfl ⟨rfl, hH, hK⟩
  · repeat' (first | refine s_op rfl ?_ | (apply s_fa_f tab_ok; (iterate 6 (exact rfl))) | (apply s_ld_f tab_ok; (iterate 6 (exact rfl))) | (apply s_assign; (iterate 4 (exact rfl))) | (apply s_boxZ; (iterate 5 (exact rfl)); first | exact rfl | exact allD_mapd _) | (apply s_eql_f; (iterate 5 (exact rfl)); omega) | refine al_nil ?_ | refine q_then_n ?_ | refine q_blk_n ?_ | refine aw_block ?_ | refine aw_seq ?_ | refine aw_reg ?_ | refine aw_false rfl ?_ | refine aw_skip ?_)
    all_goals exact q_end rfl ⟨rfl, hH, hK⟩
set_option maxRecDepth 100000 in
set_option maxHeartbeats 8000000 in
theorem drop_cell {H : AHeap} {w : AWord} {B : Int} {g : AHeap → AWord → AHeap} {c : AHeap → AWord → Nat} {p : AHeap → AWord → Prop} (hk : w.k = 5) (ok : H.Ok B) (hN : B + (1 + dropsN g c (H.drop w).2 (H.drop w).1.1.ws) < 1000000000) (hf : fuelsOk g p (H.drop w).2 (H.drop w).1.1.ws) (hg : ∀ H w B, AHeap.Ok H B → (g H w).Ok (B + c H w))
    (hcall : ∀ (H : AHeap) (w : AWord) (B : Int) (σ : List AObj), H.Ok B → B + c H w < 1000000000 → p H w → σ[locH]? = some (ho H) → Runs Try.prog 100 [.ptr locH 0 0, .d (.fptr worldC), .d (.agg (wordD w))] σ (DroppedP locH (g H w) σ)) (hH : σ[locH]? = some (ho H)) :
    Runs Try.prog 100 [.ptr locH 0 0, .d (.fptr worldC), .d (.agg (wordD w))] σ (DroppedP locH (dropsF g (H.drop w).2 (H.drop w).1.1.ws) σ) := by
  have hd := fun σ (h : σ[locH]? = some (ho H)) => drop_r h ok (by omega) w
  have h64 := drop_ws ok w
  have hok := drop_keep ok w
  have hK := KeptP.refl (· ≠ locH) σ
  have oH : OutP (· ≠ locH) σ locH := fun _ h => absurd rfl h
  generalize H.drop w = r at *
  obtain ⟨⟨⟨ck, cn, ws⟩, e⟩, H1⟩ := r
  simp only at hd h64 hok hN hf ⊢
  have e1 := wordsR_len ws
  obtain ⟨wk, wn, wstr, wg⟩ := w
  simp only at hk
  refine enter 38 Try.func100 rfl (by kernel_rfl) rfl rfl rfl ?_
  repeat' (first | refine s_op rfl ?_ | (apply s_move; (iterate 4 (exact rfl))) | (apply s_fa_p tab_ok; (iterate 5 (exact rfl))) | (apply s_fa_f tab_ok; (iterate 6 (exact rfl))) | (apply s_ld_f tab_ok; (iterate 6 (exact rfl))) | (apply s_assign; (iterate 4 (exact rfl))) | (apply s_len tab_ok; (iterate 5 (exact rfl))) | (apply s_ext; (iterate 5 (exact rfl))) | (apply s_boxZ; (iterate 5 (exact rfl)); first | exact rfl | exact allD_mapd _) | (apply s_eql_t; (iterate 5 (exact rfl)); omega) | (apply s_eql_f; (iterate 5 (exact rfl)); (show wk ≠ 6); omega) | (apply s_callS; (iterate 6 (exact rfl)); exact hd _ hH; rintro _ σ ⟨rfl, hc⟩; (try (replace hY := hc.keep nHY.symm hY)); replace hH := hc.at'; replace hK := hK.chg oH hc; clear hc) | (apply s_allocF tabZ_ok (d := 6); (iterate 6 (exact rfl)); intro locY σ hc; have hY := hc.at'; have nHY := hc.ne hH; replace hH := hc.keep hH; have oY := hK.out hc; replace hK := hK.fresh hc; clear hc) | (apply s_storeF tab_ok; (iterate 7 (exact rfl)); exact hY; (iterate 2 (exact rfl)); intro σ hc; replace hY := hc.at'; replace hH := hc.keep (by first | assumption | (apply Ne.symm; assumption) | omega) hH; replace hK := hK.chg oY hc; clear hc) | (apply s_ldF tab_ok; (iterate 5 (exact rfl)); exact hY; exact rfl) | refine al_nil ?_ | refine q_then_n ?_ | refine aw_block ?_ | refine aw_seq ?_ | refine aw_reg ?_ | refine aw_true rfl ?_ | refine aw_false rfl ?_)
  refine w_loop [0, 1, 27, 28, 29] (fun n' vs' σ' => ∃ j : Nat, vs' = [.ptr locH 0 0, .d (.fptr worldC), .d (.lst 4 (wordsR ws)), .d (.v (.int .i64 ((wordsR ws).length : Int))), .d (.v (.int .i64 (j : Int)))] ∧ σ'[locH]? = some (ho (dropsF g H1 (ws.take j))) ∧ KeptP (· ≠ locH) _ σ' ∧ j ≤ ws.length ∧ n' = ws.length - j) rfl ⟨0, rfl, hH, hK, by omega, rfl⟩ ?_
  clear hH hK hd
  rintro n' vs' σ ⟨j, rfl, hH, hK, hj, rfl⟩ fr hfr
  cases hfr
  by_cases hlt : j < ws.length
  · obtain ⟨w, hw⟩ := getS hlt
    have ht : ws.take (j + 1) = ws.take j ++ [w] := by rw [List.take_add_one, hw]; rfl
    have hF : dropsF g H1 (ws.take (j + 1)) = g (dropsF g H1 (ws.take j)) w := by rw [ht, dropsF_append]; rfl
    have hcnt : dropsN g c H1 (ws.take j) + c (dropsF g H1 (ws.take j)) w ≤ dropsN g c H1 ws := by
      have e2 : ws = ws.take (j + 1) ++ ws.drop (j + 1) := (List.take_append_drop _ _).symm
      have e3 : dropsN g c H1 ws = dropsN g c H1 (ws.take (j + 1)) + dropsN g c (dropsF g H1 (ws.take (j + 1))) (ws.drop (j + 1)) := by rw [← dropsN_append, ← e2]
      have e4 : dropsN g c H1 (ws.take (j + 1)) = dropsN g c H1 (ws.take j) + c (dropsF g H1 (ws.take j)) w := by rw [ht, dropsN_append]; simp [dropsN]
      omega
    have hc := fun σ (h : σ[locH]? = some (ho (dropsF g H1 (ws.take j)))) => hcall _ w (B + 1 + dropsN g c H1 (ws.take j)) σ (dropsF_ok hg (ws.take j) H1 (B + 1) hok) (by omega) (fuelsOk_get hf hw) h
    unfold DroppedP at hc
    rw [← hF] at hc
    obtain ⟨yk, yn, ys, yg⟩ := w
    clear hcall hg hf hN
    repeat' (first | refine s_op rfl ?_ | (apply s_move; (iterate 4 (exact rfl))) | (apply s_ld_f tab_ok; (iterate 6 (exact rfl))) | (apply s_idx tab_ok; (iterate 7 (exact rfl)); (first | exact valR_get (by assumption) | exact wordsR_get (by assumption) | assumption)) | (apply s_lss_t; (iterate 5 (exact rfl)); omega) | (apply s_add64; (iterate 5 (exact rfl)); omega) | (apply s_allocF tabZ_ok (d := 9); (iterate 6 (exact rfl)); intro locZ σ hc; have hZ := hc.at'; have nHZ := hc.ne hH; replace hH := hc.keep hH; have oZ := hK.out hc; replace hK := hK.fresh hc; clear hc) | (apply s_storeF tab_ok; (iterate 7 (exact rfl)); exact hZ; (iterate 2 (exact rfl)); intro σ hc; replace hZ := hc.at'; replace hH := hc.keep (by first | assumption | (apply Ne.symm; assumption) | omega) hH; replace hK := hK.chg oZ hc; clear hc) | (apply s_ldF tab_ok; (iterate 5 (exact rfl)); exact hZ; exact rfl) | (apply s_callS; (iterate 6 (exact rfl)); exact hc _ hH; rintro _ σ2 ⟨rfl, hH2, hk2⟩; replace hK := hK.trans hk2; clear hk2 hZ) | refine al_nil ?_ | refine q_then_n ?_ | refine q_blk_n ?_ | refine aw_block ?_ | refine aw_seq ?_ | refine aw_reg ?_ | refine aw_true rfl ?_ | refine aw_skip ?_)
    all_goals exact ⟨_, _, rfl, by omega, j + 1, rfl, hH2, hK, by omega, rfl⟩
  · rw [List.take_of_length_le (by omega)] at hH
    repeat' (first | refine s_op rfl ?_ | (apply s_lss_f; (iterate 5 (exact rfl)); omega) | refine al_nil ?_ | refine q_then_n ?_ | refine q_blk_n ?_ | refine q_blk_e ?_ | refine q_then_e ?_ | refine aw_exit ?_ | refine aw_seq ?_ | refine aw_reg ?_ | refine aw_false rfl ?_)
    all_goals exact q_end rfl ⟨rfl, hH, hK⟩
theorem drop_c100 : ∀ (f : Nat) (H : AHeap) (w : AWord) (B : Int) (σ : List AObj), H.Ok B → B + dropN f H w < 1000000000 → fuelOk f H w → σ[locH]? = some (ho H) → Runs Try.prog 100 [.ptr locH 0 0, .d (.fptr worldC), .d (.agg (wordD w))] σ (DroppedP locH (dropF f H w) σ)
  | 0, H, w, B, σ, ok, _, hf, hH => drop_leaf hf hH
  | f + 1, H, w, B, σ, ok, hN, hf, hH => by
    unfold dropF
    unfold dropN at hN
    by_cases hk : w.k = 5
    · rw [if_pos hk] at hN ⊢
      exact drop_cell (p := fuelOk f) hk ok (by omega) (hf hk) (fun H w B ok => dropF_ok f H w B ok) (fun H w B σ a b c d => drop_c100 f H w B σ a b c d) hH
    · rw [if_neg hk]
      exact drop_leaf hk hH
end
end Go.Proofs.Ytciciaikajdenaa
/- N20: package cell's Drop; without a heap; the law's number, at. -/
set_option linter.unusedSimpArgs false
set_option linter.unusedVariables false
namespace Go.Proofs.Ytciciaikajdenaa
open Go.RowKit

abbrev nilP : AV := .d (.v (.pointer none))
section
variable {σ : List AObj} {c : DV} {gd : Nat}
set_option maxRecDepth 100000 in
set_option maxHeartbeats 8000000 in
theorem grd_nil98 : Runs Try.prog 98 [nilP, .d (.clo (.func gd) [] [c])] σ (fun r σ' => r = .d (.tup [.agg [.v (.int .u8 0), .v (.int .i64 0), .v (.string ⟨#[]⟩), .nil], .v (.int .i64 1)]) ∧ KeptP (fun _ => True) σ σ') := by
  have hK := KeptP.refl (fun _ => True) σ
  refine enterB 16 tab_ok Try.func98 rfl (by kernel_rfl) rfl rfl rfl ?_
  repeat' (first | refine s_op rfl ?_ | (apply s_move; (iterate 4 (exact rfl))) | (apply s_allocF tabZ_ok (d := 4); (iterate 6 (exact rfl)); intro locX σ hc; have hX := hc.at'; have oX := hK.out hc; replace hK := hK.fresh hc; clear hc) | (apply s_allocF tabZ_ok (d := 5); (iterate 6 (exact rfl)); intro locY σ hc; have hY := hc.at'; have nXY := hc.ne hX; replace hX := hc.keep hX; have oY := hK.out hc; replace hK := hK.fresh hc; clear hc) | (apply s_ptrNil2 ptr25; (iterate 4 (exact rfl))) | (apply s_ldF tab_ok; (iterate 5 (exact rfl)); exact hX; exact rfl) | (apply s_storeF tab_ok; (iterate 7 (exact rfl)); exact hX; (iterate 2 (exact rfl)); intro σ hc; replace hX := hc.at'; replace hY := hc.keep (by first | assumption | (apply Ne.symm; assumption) | omega) hY; replace hK := hK.chg oX hc; clear hc) | (apply s_storeF tab_ok; (iterate 7 (exact rfl)); exact hY; (iterate 2 (exact rfl)); intro σ hc; replace hY := hc.at'; replace hX := hc.keep (by first | assumption | (apply Ne.symm; assumption) | omega) hX; replace hK := hK.chg oY hc; clear hc) | refine al_nil ?_ | refine q_then_n ?_ | refine q_then_r ?_ | refine aw_seq ?_ | refine aw_reg ?_ | refine aw_true rfl ?_ | refine aw_ret ?_)
  all_goals exact q_retB (resB_2 rfl (resV_c (t := 66) rfl rfl hX rfl) (resV_c (t := 26) rfl rfl hY rfl) rfl) ⟨rfl, hK⟩
set_option maxRecDepth 100000 in
set_option maxHeartbeats 8000000 in
theorem grd_nil90 : Runs Try.prog 90 [nilP, .d (.clo (.func gd) [] [c])] σ (fun r σ' => r = .d (.tup [.agg (wordD .zero), .v (.int .i64 1)]) ∧ KeptP (fun _ => True) σ σ') := by
  have hK := KeptP.refl (fun _ => True) σ
  refine enterB 16 tab_ok Try.func90 rfl (by kernel_rfl) rfl rfl rfl ?_
  repeat' (first | refine s_op rfl ?_ | (apply s_move; (iterate 4 (exact rfl))) | (apply s_allocF tabZ_ok (d := 4); (iterate 6 (exact rfl)); intro locX σ hc; have hX := hc.at'; have oX := hK.out hc; replace hK := hK.fresh hc; clear hc) | (apply s_allocF tabZ_ok (d := 5); (iterate 6 (exact rfl)); intro locY σ hc; have hY := hc.at'; have nXY := hc.ne hX; replace hX := hc.keep hX; have oY := hK.out hc; replace hK := hK.fresh hc; clear hc) | (apply s_ptrNil2 ptr25; (iterate 4 (exact rfl))) | (apply s_ldF tab_ok; (iterate 5 (exact rfl)); exact hX; exact rfl) | (apply s_storeF tab_ok; (iterate 7 (exact rfl)); exact hX; (iterate 2 (exact rfl)); intro σ hc; replace hX := hc.at'; replace hY := hc.keep (by first | assumption | (apply Ne.symm; assumption) | omega) hY; replace hK := hK.chg oX hc; clear hc) | (apply s_storeF tab_ok; (iterate 7 (exact rfl)); exact hY; (iterate 2 (exact rfl)); intro σ hc; replace hY := hc.at'; replace hX := hc.keep (by first | assumption | (apply Ne.symm; assumption) | omega) hX; replace hK := hK.chg oY hc; clear hc) | refine al_nil ?_ | refine q_then_n ?_ | refine q_then_r ?_ | refine aw_seq ?_ | refine aw_reg ?_ | refine aw_true rfl ?_ | refine aw_ret ?_)
  all_goals exact q_retB (resB_2 rfl (resV_c (t := 36) rfl rfl hX rfl) (resV_c (t := 26) rfl rfl hY rfl) rfl) ⟨rfl, hK⟩
set_option maxRecDepth 100000 in
set_option maxHeartbeats 8000000 in
theorem grd_nil96 : Runs Try.prog 96 [nilP, .d (.clo (.func gd) [] [c])] σ (fun r σ' => r = .d (.tup [.v (.int .i64 0), .v (.int .i64 1)]) ∧ KeptP (fun _ => True) σ σ') := by
  have hK := KeptP.refl (fun _ => True) σ
  refine enterB 16 tab_ok Try.func96 rfl (by kernel_rfl) rfl rfl rfl ?_
  repeat' (first | refine s_op rfl ?_ | (apply s_move; (iterate 4 (exact rfl))) | (apply s_allocF tabZ_ok (d := 4); (iterate 6 (exact rfl)); intro locX σ hc; have hX := hc.at'; have oX := hK.out hc; replace hK := hK.fresh hc; clear hc) | (apply s_allocF tabZ_ok (d := 5); (iterate 6 (exact rfl)); intro locY σ hc; have hY := hc.at'; have nXY := hc.ne hX; replace hX := hc.keep hX; have oY := hK.out hc; replace hK := hK.fresh hc; clear hc) | (apply s_ptrNil2 ptr25; (iterate 4 (exact rfl))) | (apply s_ldF tab_ok; (iterate 5 (exact rfl)); exact hX; exact rfl) | (apply s_storeF tab_ok; (iterate 7 (exact rfl)); exact hX; (iterate 2 (exact rfl)); intro σ hc; replace hX := hc.at'; replace hY := hc.keep (by first | assumption | (apply Ne.symm; assumption) | omega) hY; replace hK := hK.chg oX hc; clear hc) | (apply s_storeF tab_ok; (iterate 7 (exact rfl)); exact hY; (iterate 2 (exact rfl)); intro σ hc; replace hY := hc.at'; replace hX := hc.keep (by first | assumption | (apply Ne.symm; assumption) | omega) hX; replace hK := hK.chg oY hc; clear hc) | refine al_nil ?_ | refine q_then_n ?_ | refine q_then_r ?_ | refine aw_seq ?_ | refine aw_reg ?_ | refine aw_true rfl ?_ | refine aw_ret ?_)
  all_goals exact q_retB (resB_2 rfl (resV_c (t := 3) rfl rfl hX rfl) (resV_c (t := 26) rfl rfl hY rfl) rfl) ⟨rfl, hK⟩
set_option maxRecDepth 100000 in
set_option maxHeartbeats 8000000 in
theorem value_nil (w : AWord) : Runs Try.prog 49 [nilP, .d (.agg (wordD w))] σ (fun r σ' => r = .d (.tup [.agg [.v (.int .u8 0), .v (.int .i64 0), .v (.string ⟨#[]⟩), .nil], .v (.int .i64 1)]) ∧ KeptP (fun _ => True) σ σ') := by
  have hK := KeptP.refl (fun _ => True) σ
  have hg := fun (σ : List AObj) (c : DV) => grd_nil98 (σ := σ) (c := c) (gd := 99)
  obtain ⟨wk, wn, ws, wg⟩ := w
  refine enterB 11 tab_ok Try.func49 rfl (by kernel_rfl) rfl rfl rfl ?_
  repeat' (first | refine s_op rfl ?_ | (apply s_move; (iterate 4 (exact rfl))) | (apply s_assign; (iterate 4 (exact rfl))) | (apply s_ext; (iterate 5 (exact rfl))) | (apply s_mkf; (iterate 4 (exact rfl))) | (apply s_boxZ; (iterate 5 (exact rfl)); first | exact rfl | exact allD_mapd _) | (apply s_allocF tabZ_ok (d := 4); (iterate 6 (exact rfl)); intro locX σ hc; have hX := hc.at'; have oX := hK.out hc; replace hK := hK.fresh hc; clear hc) | (apply s_callS; (iterate 6 (exact rfl)); exact hg _ _; rintro _ σ2 ⟨rfl, hk2⟩; replace hX := hk2 _ _ trivial hX; replace hK := hK.trans hk2; clear hk2) | (apply s_storeF tab_ok; (iterate 7 (exact rfl)); exact hX; (iterate 2 (exact rfl)); intro σ hc; replace hX := hc.at'; replace hK := hK.chg oX hc; clear hc) | refine al_nil ?_ | refine q_then_n ?_ | refine aw_seq ?_ | refine aw_reg ?_ | refine aw_ret ?_)
  all_goals exact q_retB (resB_2 rfl (resV_c (t := 66) rfl rfl hX rfl) (resV_t rfl) rfl) ⟨rfl, hK⟩
set_option maxRecDepth 100000 in
set_option maxHeartbeats 8000000 in
theorem build_nil (v : Val) : Runs Try.prog 45 [nilP, .d (.agg (valD v))] σ (fun r σ' => r = .d (.tup [.agg (wordD .zero), .v (.int .i64 1)]) ∧ KeptP (fun _ => True) σ σ') := by
  have hK := KeptP.refl (fun _ => True) σ
  have hg := fun (σ : List AObj) (c : DV) => grd_nil90 (σ := σ) (c := c) (gd := 91)
  obtain ⟨vk, vn, vs, vl⟩ := v
  refine enterB 11 tab_ok Try.func45 rfl (by kernel_rfl) rfl rfl rfl ?_
  repeat' (first | refine s_op rfl ?_ | (apply s_move; (iterate 4 (exact rfl))) | (apply s_assign; (iterate 4 (exact rfl))) | (apply s_ext; (iterate 5 (exact rfl))) | (apply s_mkf; (iterate 4 (exact rfl))) | (apply s_boxZ; (iterate 5 (exact rfl)); first | exact rfl | exact allD_mapd _) | (apply s_allocF tabZ_ok (d := 4); (iterate 6 (exact rfl)); intro locX σ hc; have hX := hc.at'; have oX := hK.out hc; replace hK := hK.fresh hc; clear hc) | (apply s_callS; (iterate 6 (exact rfl)); exact hg _ _; rintro _ σ2 ⟨rfl, hk2⟩; replace hX := hk2 _ _ trivial hX; replace hK := hK.trans hk2; clear hk2) | (apply s_storeF tab_ok; (iterate 7 (exact rfl)); exact hX; (iterate 2 (exact rfl)); intro σ hc; replace hX := hc.at'; replace hK := hK.chg oX hc; clear hc) | refine al_nil ?_ | refine q_then_n ?_ | refine aw_seq ?_ | refine aw_reg ?_ | refine aw_ret ?_)
  all_goals exact q_retB (resB_2 rfl (resV_c (t := 36) rfl rfl hX rfl) (resV_t rfl) rfl) ⟨rfl, hK⟩
set_option maxRecDepth 100000 in
set_option maxHeartbeats 8000000 in
theorem reach_nil (ws : List AWord) : Runs Try.prog 48 [nilP, .d (.lst 4 (wordsR ws))] σ (fun r σ' => r = .d (.tup [.v (.int .i64 0), .v (.int .i64 1)]) ∧ KeptP (fun _ => True) σ σ') := by
  have hK := KeptP.refl (fun _ => True) σ
  have hg := fun (σ : List AObj) (c : DV) => grd_nil96 (σ := σ) (c := c) (gd := 97)
  refine enterB 11 tab_ok Try.func48 rfl (by kernel_rfl) rfl rfl rfl ?_
  repeat' (first | refine s_op rfl ?_ | (apply s_move; (iterate 4 (exact rfl))) | (apply s_assign; (iterate 4 (exact rfl))) | (apply s_ext; (iterate 5 (exact rfl))) | (apply s_mkf; (iterate 4 (exact rfl))) | (apply s_boxZ; (iterate 5 (exact rfl)); first | exact rfl | exact allD_mapd _) | (apply s_callS; (iterate 6 (exact rfl)); exact hg _ _; rintro _ σ2 ⟨rfl, hk2⟩; replace hK := hK.trans hk2; clear hk2) | refine al_nil ?_ | refine q_then_n ?_ | refine aw_seq ?_ | refine aw_reg ?_ | refine aw_ret ?_)
  all_goals exact q_retB (resB_2 rfl (resV_t rfl) (resV_t rfl) rfl) ⟨rfl, hK⟩
set_option maxRecDepth 100000 in
set_option maxHeartbeats 8000000 in
theorem size_nil (w : AWord) : Runs Try.prog 53 [nilP, .d (.agg (wordD w))] σ (fun r σ' => r = .d (.tup [.v (.int .i64 0), .v (.int .i64 1)]) ∧ KeptP (fun _ => True) σ σ') := by
  have hr := fun (σ : List AObj) => reach_nil (σ := σ) [w]
  have hK := KeptP.refl (fun _ => True) σ
  obtain ⟨wk, wn, ws, wg⟩ := w
  refine enterB 12 tab_ok Try.func53 rfl (by kernel_rfl) rfl rfl rfl ?_
  repeat' (first | refine s_op rfl ?_ | (apply s_move; (iterate 4 (exact rfl))) | (apply s_ld_f tab_ok; (iterate 6 (exact rfl))) | (apply s_assign; (iterate 4 (exact rfl))) | (apply s_ext; (iterate 5 (exact rfl))) | (apply s_boxZ; (iterate 5 (exact rfl)); first | exact rfl | exact allD_mapd _) | (apply s_lit tab_ok tabZ_ok; (iterate 10 (exact rfl))) | (apply s_callS; (iterate 6 (exact rfl)); exact hr _; rintro _ σ2 ⟨rfl, hk2⟩; replace hK := hK.trans hk2; clear hk2) | refine al_nil ?_ | refine q_then_n ?_ | refine aw_seq ?_ | refine aw_reg ?_ | refine aw_ret ?_)
  all_goals exact q_retB (resB_2 rfl (resV_t rfl) (resV_t rfl) rfl) ⟨rfl, hK⟩
set_option maxRecDepth 100000 in
set_option maxHeartbeats 8000000 in
theorem drop_nilW (w : AWord) {h : AV} {locH : Nat} (hh : h = .ptr locH 0 0) : Runs Try.prog 50 [h, nilP, .d (.agg (wordD w))] σ (fun r σ' => r = .d (.v (.int .i64 1)) ∧ σ' = σ) := by
  subst hh
  obtain ⟨wk, wn, ws, wg⟩ := w
  refine enterB 24 tab_ok Try.func50 rfl (by kernel_rfl) rfl rfl rfl ?_
  repeat' (first | refine s_op rfl ?_ | (apply s_move; (iterate 4 (exact rfl))) | (apply s_assign; (iterate 4 (exact rfl))) | (apply s_boxZ; (iterate 5 (exact rfl)); first | exact rfl | exact allD_mapd _) | (apply s_ptrNil2 ptr68; (iterate 4 (exact rfl))) | refine al_nil ?_ | refine q_then_n ?_ | refine q_then_r ?_ | refine aw_seq ?_ | refine aw_reg ?_ | refine aw_true rfl ?_ | refine aw_ret ?_)
  all_goals exact q_retB (resB_1 rfl (resV_t rfl)) ⟨rfl, rfl⟩
set_option maxRecDepth 100000 in
set_option maxHeartbeats 8000000 in
theorem drop_nilH (w : AWord) : Runs Try.prog 50 [nilP, .d (.fptr worldC), .d (.agg (wordD w))] σ (fun r σ' => r = .d (.v (.int .i64 1)) ∧ KeptP (fun _ => True) σ σ') := by
  have hs := fun (σ : List AObj) => size_nil (σ := σ) w
  have hK := KeptP.refl (fun _ => True) σ
  obtain ⟨wk, wn, ws, wg⟩ := w
  refine enterB 24 tab_ok Try.func50 rfl (by kernel_rfl) rfl rfl rfl ?_
  repeat' (first | refine s_op rfl ?_ | (apply s_move; (iterate 4 (exact rfl))) | (apply s_ld_f tab_ok; (iterate 6 (exact rfl))) | (apply s_assign; (iterate 4 (exact rfl))) | (apply s_ext; (iterate 5 (exact rfl))) | (apply s_boxZ; (iterate 5 (exact rfl)); first | exact rfl | exact allD_mapd _) | (apply s_neq_t; (iterate 5 (exact rfl)); omega) | (apply s_fptrNil ptr68; (iterate 4 (exact rfl))) | (apply s_callS; (iterate 6 (exact rfl)); exact hs _; rintro _ σ2 ⟨rfl, hk2⟩; replace hK := hK.trans hk2; clear hk2) | refine al_nil ?_ | refine q_then_n ?_ | refine q_then_r ?_ | refine aw_seq ?_ | refine aw_reg ?_ | refine aw_true rfl ?_ | refine aw_false rfl ?_ | refine aw_skip ?_ | refine aw_ret ?_)
  all_goals exact q_retB (resB_1 rfl (resV_t rfl)) ⟨rfl, hK⟩
set_option maxRecDepth 100000 in
theorem number_c85 (n : Int) : RunsP Try.prog 85 [.v (.int .i64 n)] (fun v => v = .agg (valD (.mk 1 n ⟨#[]⟩ []))) := by
  refine RunsP.less ?_
  refine enterPB 5 tab_ok Try.func85 rfl (by kernel_rfl) rfl rfl rfl ?_
  repeat' (first | refine s_op rfl ?_ | (apply s_move; (iterate 4 (exact rfl))) | (apply s_build tabZ_ok; (iterate 5 (exact rfl))) | (apply s_allocF tabZ_ok (d := 2); (iterate 6 (exact rfl)); intro locX σ hc; have hX := hc.at'; clear hc) | (apply s_storeF tab_ok; (iterate 7 (exact rfl)); exact hX; (iterate 2 (exact rfl)); intro σ hc; replace hX := hc.at'; clear hc) | refine al_nil ?_ | refine q_then_n ?_ | refine aw_seq ?_ | refine aw_reg ?_ | refine aw_ret ?_)
  all_goals exact q_retB (resB_1 rfl (resV_c (t := 66) rfl rfl hX rfl)) ⟨_, rfl, Wk.agg ⟨Wk.refl _, Wk.refl _, Wk.refl _, Wk.nil 4, trivial⟩⟩
set_option maxRecDepth 100000 in
theorem at_c56 (n g : Int) : RunsP Try.prog 56 [.v (.int .i64 n), .v (.int .i64 g)] (fun v => v = .agg (wordD (cellWord n g))) := by
  refine enterPB 8 tab_ok Try.func56 rfl (by kernel_rfl) rfl rfl rfl ?_
  repeat' (first | refine s_op rfl ?_ | (apply s_move; (iterate 4 (exact rfl))) | (apply s_build tabZ_ok; (iterate 5 (exact rfl))) | (apply s_allocF tabZ_ok (d := 4); (iterate 6 (exact rfl)); intro locX σ hc; have hX := hc.at'; clear hc) | (apply s_storeF tab_ok; (iterate 7 (exact rfl)); exact hX; (iterate 2 (exact rfl)); intro σ hc; replace hX := hc.at'; clear hc) | refine al_nil ?_ | refine q_then_n ?_ | refine aw_seq ?_ | refine aw_reg ?_ | refine aw_ret ?_)
  all_goals exact q_retB (resB_1 rfl (resV_c (t := 36) rfl rfl hX rfl)) ⟨_, rfl, rfl⟩
/-- What Drop answers, and leaves. -/
def dropM (H : AHeap) (f : Nat) (w : AWord) : Int × AHeap := if (reachM H f [w]).2 ≠ 0 then ((reachM H f [w]).2, H) else (0, dropF f H w)
set_option maxRecDepth 100000 in
set_option maxHeartbeats 8000000 in
theorem drop_c50 {locH : Nat} {H : AHeap} {B : Int} {f : Nat} {w : AWord} (ok : H.Ok B) (hco : CellsOk H) (hH : σ[locH]? = some (ho H)) (hn9 : walksF (walkF H f) [w] [] false ≠ .bad 999) (hN : (reachM H f [w]).2 = 0 → B + dropN f H w < 1000000000 ∧ fuelOk f H w) :
    Runs Try.prog 50 [.ptr locH 0 0, .d (.fptr worldC), .d (.agg (wordD w))] σ (fun r σ' => r = .d (.v (.int .i64 (dropM H f w).1)) ∧ σ'[locH]? = some (ho (dropM H f w).2) ∧ KeptP (· ≠ locH) σ σ') := by
  have hs := fun σ1 (hH : σ1[locH]? = some (ho H)) => size_c53 (σ := σ1) (w := w) ok hco hH hn9
  have hK := KeptP.refl (· ≠ locH) σ
  by_cases he : (reachM H f [w]).2 = 0
  · have hdm : dropM H f w = (0, dropF f H w) := by unfold dropM; rw [if_neg (by simp [he])]
    obtain ⟨n1, n2⟩ := hN he
    have hd := fun σ1 (hH : σ1[locH]? = some (ho H)) => drop_c100 f H w B σ1 ok n1 n2 hH
    rw [hdm]
    rw [he] at hs
    unfold DroppedP at hd
    generalize dropF f H w = K at hd ⊢
    obtain ⟨wk, wn, ws, wg⟩ := w
    clear hdm he hN
    refine enterB 24 tab_ok Try.func50 rfl (by kernel_rfl) rfl rfl rfl ?_
    repeat' (first | refine s_op rfl ?_ | (apply s_move; (iterate 4 (exact rfl))) | (apply s_ld_f tab_ok; (iterate 6 (exact rfl))) | (apply s_assign; (iterate 4 (exact rfl))) | (apply s_ext; (iterate 5 (exact rfl))) | (apply s_boxZ; (iterate 5 (exact rfl)); first | exact rfl | exact allD_mapd _) | (apply s_neq_f; (iterate 5 (exact rfl)); omega) | (apply s_fptrNil ptr68; (iterate 4 (exact rfl))) | (apply s_callS; (iterate 6 (exact rfl)); exact hs _ hH; rintro _ σ2 ⟨rfl, hk2⟩; replace hH := hk2 _ _ trivial hH; replace hK := hK.trans hk2.any; clear hk2) | (apply s_callS; (iterate 6 (exact rfl)); exact hd _ hH; rintro _ σ2 ⟨rfl, hH2, hk2⟩; replace hK := hK.trans hk2; clear hk2) | refine al_nil ?_ | refine q_then_n ?_ | refine aw_seq ?_ | refine aw_reg ?_ | refine aw_false rfl ?_ | refine aw_skip ?_ | refine aw_ret ?_)
    all_goals exact q_retB (resB_1 rfl (resV_t rfl)) ⟨rfl, hH2, hK⟩
  · have hdm : dropM H f w = ((reachM H f [w]).2, H) := by unfold dropM; rw [if_pos he]
    rw [hdm]
    generalize (reachM H f [w]).2 = e at hs he ⊢
    obtain ⟨wk, wn, ws, wg⟩ := w
    clear hdm hN
    refine enterB 24 tab_ok Try.func50 rfl (by kernel_rfl) rfl rfl rfl ?_
    repeat' (first | refine s_op rfl ?_ | (apply s_move; (iterate 4 (exact rfl))) | (apply s_ld_f tab_ok; (iterate 6 (exact rfl))) | (apply s_assign; (iterate 4 (exact rfl))) | (apply s_ext; (iterate 5 (exact rfl))) | (apply s_boxZ; (iterate 5 (exact rfl)); first | exact rfl | exact allD_mapd _) | (apply s_neq_t; (iterate 5 (exact rfl)); omega) | (apply s_fptrNil ptr68; (iterate 4 (exact rfl))) | (apply s_callS; (iterate 6 (exact rfl)); exact hs _ hH; rintro _ σ2 ⟨rfl, hk2⟩; replace hH := hk2 _ _ trivial hH; replace hK := hK.trans hk2.any; clear hk2) | refine al_nil ?_ | refine q_then_n ?_ | refine q_then_r ?_ | refine aw_seq ?_ | refine aw_reg ?_ | refine aw_true rfl ?_ | refine aw_false rfl ?_ | refine aw_skip ?_ | refine aw_ret ?_)
    all_goals exact q_retB (resB_1 rfl (resV_t rfl)) ⟨rfl, hH, hK⟩
end
end Go.Proofs.Ytciciaikajdenaa
