/- T25: package cell's drop and Drop with a world of one file. -/
import Derived.Test.YtciciaikajdenaaTPR12T24
import Derived.Test.YtciciaikajdenaaTPR12N26x7
import Derived.Test.YtciciaikajdenaaTPR12T1x2
set_option linter.unusedSimpArgs false
set_option linter.unusedVariables false
namespace Go.Proofs.Ytciciaikajdenaa
open Go.RowKit

def NotP (locH : Nat) (z : WQ) (k : Nat) : Prop := k ≠ locH ∧ NotW z k
section
variable {σ σ' : List AObj} {locH : Nat} {z : WQ} {H : AHeap} {hs : List Bool}
/-- What drop leaves. -/
def DroppedW (locH : Nat) (z : WQ) (K : AHeap) (hs : List Bool) (σ : List AObj) : AV → List AObj → Prop := fun r σ' => r = .tup [] ∧ σ'[locH]? = some (ho K) ∧ PW σ' z hs ∧ KeptP (NotP locH z) σ σ'
set_option maxRecDepth 100000 in
set_option maxHeartbeats 8000000 in
theorem dropw_leaf {w : AWord} (hk : w.k ≠ 5) (hH : σ[locH]? = some (ho H)) (hz : PW σ z hs) (hl : hs.length ≤ 1000000) (ap : NotW z locH) : Runs Try.prog 100 [.ptr locH 0 0, .ptr z.p 0 0, .d (.agg (wordD w))] σ (DroppedW locH z H (if w.k = 6 then dropW hs w.n else hs) σ) := by
  have hd := drop123 hz hl w.n
  obtain ⟨wk, wn, ws, wg⟩ := w
  simp only at hk hd ⊢
  by_cases h6 : wk = 6
  · rw [if_pos h6]
    refine enter 38 Try.func100 rfl (by kernel_rfl) rfl rfl rfl ?_
    repeat' (first | refine s_op rfl ?_ | (apply s_move; (iterate 4 (exact rfl))) | (apply s_fa_f tab_ok; (iterate 6 (exact rfl))) | (apply s_ld_f tab_ok; (iterate 6 (exact rfl))) | (apply s_assign; (iterate 4 (exact rfl))) | (apply s_boxZ; (iterate 5 (exact rfl)); first | exact rfl | exact allD_mapd _) | (apply s_eql_t; (iterate 5 (exact rfl)); omega) | (apply s_callS; (iterate 6 (exact rfl)); exact hd; rintro _ σ2 ⟨rfl, hz2, hk2⟩) | refine al_nil ?_ | refine q_then_n ?_ | refine q_blk_n ?_ | refine aw_block ?_ | refine aw_seq ?_ | refine aw_reg ?_ | refine aw_true rfl ?_)
    all_goals exact q_end rfl ⟨rfl, hk2 _ _ ap hH, hz2, hk2.of fun _ h => h.2⟩
  · rw [if_neg h6]
    refine enter 38 Try.func100 rfl (by kernel_rfl) rfl rfl rfl ?_
    repeat' (first | refine s_op rfl ?_ | (apply s_fa_f tab_ok; (iterate 6 (exact rfl))) | (apply s_ld_f tab_ok; (iterate 6 (exact rfl))) | (apply s_assign; (iterate 4 (exact rfl))) | (apply s_boxZ; (iterate 5 (exact rfl)); first | exact rfl | exact allD_mapd _) | (apply s_eql_f; (iterate 5 (exact rfl)); omega) | refine al_nil ?_ | refine q_then_n ?_ | refine q_blk_n ?_ | refine aw_block ?_ | refine aw_seq ?_ | refine aw_reg ?_ | refine aw_false rfl ?_ | refine aw_skip ?_)
    all_goals exact q_end rfl ⟨rfl, hH, hz, KeptP.refl _ _⟩
set_option maxRecDepth 100000 in
set_option maxHeartbeats 8000000 in
theorem dropw_cell {σ0 : List AObj} {w : AWord} {B : Int} {g : AHeap → AWord → AHeap} {gw : AHeap → List Bool → AWord → List Bool} {c : AHeap → AWord → Nat} {p : AHeap → AWord → Prop} (hk : w.k = 5) (ok : H.Ok B) (hN : B + (1 + dropsN g c (H.drop w).2 (H.drop w).1.1.ws) < 1000000000) (hf : fuelsOk g p (H.drop w).2 (H.drop w).1.1.ws) (hg : ∀ H w B, AHeap.Ok H B → (g H w).Ok (B + c H w))
    (hlen : ∀ H hs w, (gw H hs w).length = hs.length) (ap : NotW z locH) (hl : hs.length ≤ 1000000)
    (hcall : ∀ (H : AHeap) (hs : List Bool) (w : AWord) (B : Int) (σ : List AObj), H.Ok B → B + c H w < 1000000000 → p H w → hs.length ≤ 1000000 → σ[locH]? = some (ho H) → PW σ z hs → Runs Try.prog 100 [.ptr locH 0 0, .ptr z.p 0 0, .d (.agg (wordD w))] σ (DroppedW locH z (g H w) (gw H hs w) σ)) (hH : σ0[locH]? = some (ho H)) (hz : PW σ0 z hs) :
    Runs Try.prog 100 [.ptr locH 0 0, .ptr z.p 0 0, .d (.agg (wordD w))] σ0 (DroppedW locH z (dropsF g (H.drop w).2 (H.drop w).1.1.ws) (gonesW g gw (H.drop w).2 hs (H.drop w).1.1.ws) σ0) := by
  have hd := fun σ (h : σ[locH]? = some (ho H)) => drop_r h ok (by omega) w
  have h64 := drop_ws ok w
  have hok := drop_keep ok w
  have hK := KeptP.refl (NotP locH z) σ0
  have oH : OutP (NotP locH z) σ0 locH := fun _ h => absurd rfl h.1
  generalize H.drop w = r at *
  obtain ⟨⟨⟨ck, cn, ws⟩, e⟩, H1⟩ := r
  simp only at hd h64 hok hN hf ⊢
  have e1 := wordsR_len ws
  obtain ⟨wk, wn, wstr, wg⟩ := w
  simp only at hk
  refine enter 38 Try.func100 rfl (by kernel_rfl) rfl rfl rfl ?_
  repeat' (first | refine s_op rfl ?_ | (apply s_move; (iterate 4 (exact rfl))) | (apply s_fa_p tab_ok; (iterate 5 (exact rfl))) | (apply s_fa_f tab_ok; (iterate 6 (exact rfl))) | (apply s_ld_f tab_ok; (iterate 6 (exact rfl))) | (apply s_assign; (iterate 4 (exact rfl))) | (apply s_len tab_ok; (iterate 5 (exact rfl))) | (apply s_ext; (iterate 5 (exact rfl))) | (apply s_boxZ; (iterate 5 (exact rfl)); first | exact rfl | exact allD_mapd _) | (apply s_eql_t; (iterate 5 (exact rfl)); omega) | (apply s_eql_f; (iterate 5 (exact rfl)); (show wk ≠ 6); omega) | (apply s_callS; (iterate 6 (exact rfl)); exact hd _ hH; rintro _ σ ⟨rfl, hc⟩; (try (replace hY := hc.keep nYH hY)); replace hz := hz.chg ap hc; replace hH := hc.at'; replace hK := hK.chg oH hc; clear hc) | (apply s_allocF tabZ_ok (d := 6); (iterate 6 (exact rfl)); intro locY σ hc; have hY := hc.at'; have nHY := hc.ne hH; have nYH := nHY.symm; have nY : NotW z locY := hz.fr hc; replace hH := hc.keep hH; replace hz := hz.fresh hc; have oY := hK.out hc; replace hK := hK.fresh hc; clear hc) | (apply s_storeF tab_ok; (iterate 7 (exact rfl)); exact hY; (iterate 2 (exact rfl)); intro σ hc; replace hY := hc.at'; replace hH := hc.keep nHY hH; replace hz := hz.chg nY hc; replace hK := hK.chg oY hc; clear hc) | (apply s_ldF tab_ok; (iterate 5 (exact rfl)); exact hY; exact rfl) | refine al_nil ?_ | refine q_then_n ?_ | refine aw_block ?_ | refine aw_seq ?_ | refine aw_reg ?_ | refine aw_true rfl ?_ | refine aw_false rfl ?_)
  refine w_loop [0, 1, 27, 28, 29] (fun n' vs' σ' => ∃ j : Nat, vs' = [.ptr locH 0 0, .ptr z.p 0 0, .d (.lst 4 (wordsR ws)), .d (.v (.int .i64 ((wordsR ws).length : Int))), .d (.v (.int .i64 (j : Int)))] ∧ σ'[locH]? = some (ho (dropsF g H1 (ws.take j))) ∧ PW σ' z (gonesW g gw H1 hs (ws.take j)) ∧ KeptP (NotP locH z) σ0 σ' ∧ j ≤ ws.length ∧ n' = ws.length - j) rfl ⟨0, rfl, hH, hz, hK, by omega, rfl⟩ ?_
  clear hH hK hd hz
  rintro n' vs' σ ⟨j, rfl, hH, hz, hK, hj, rfl⟩ fr hfr
  cases hfr
  by_cases hlt : j < ws.length
  · obtain ⟨w, hw⟩ := getS hlt
    have ht : ws.take (j + 1) = ws.take j ++ [w] := by rw [List.take_add_one, hw]; rfl
    have hF : dropsF g H1 (ws.take (j + 1)) = g (dropsF g H1 (ws.take j)) w := by rw [ht, dropsF_append]; rfl
    have hW : gonesW g gw H1 hs (ws.take (j + 1)) = gw (dropsF g H1 (ws.take j)) (gonesW g gw H1 hs (ws.take j)) w := by rw [ht, gonesW_append]; rfl
    have hcnt : dropsN g c H1 (ws.take j) + c (dropsF g H1 (ws.take j)) w ≤ dropsN g c H1 ws := by
      have e2 : ws = ws.take (j + 1) ++ ws.drop (j + 1) := (List.take_append_drop _ _).symm
      have e3 : dropsN g c H1 ws = dropsN g c H1 (ws.take (j + 1)) + dropsN g c (dropsF g H1 (ws.take (j + 1))) (ws.drop (j + 1)) := by rw [← dropsN_append, ← e2]
      have e4 : dropsN g c H1 (ws.take (j + 1)) = dropsN g c H1 (ws.take j) + c (dropsF g H1 (ws.take j)) w := by rw [ht, dropsN_append]; simp [dropsN]
      omega
    have hc := fun σ (h : σ[locH]? = some (ho (dropsF g H1 (ws.take j)))) hz => hcall _ (gonesW g gw H1 hs (ws.take j)) w (B + 1 + dropsN g c H1 (ws.take j)) σ (dropsF_ok hg (ws.take j) H1 (B + 1) hok) (by omega) (fuelsOk_get hf hw) (by rw [gonesW_len hlen]; exact hl) h hz
    unfold DroppedW at hc
    rw [← hF, ← hW] at hc
    obtain ⟨yk, yn, ys, yg⟩ := w
    clear hcall hg hf hN
    repeat' (first | refine s_op rfl ?_ | (apply s_move; (iterate 4 (exact rfl))) | (apply s_ld_f tab_ok; (iterate 6 (exact rfl))) | (apply s_idx tab_ok; (iterate 7 (exact rfl)); (first | exact valR_get (by assumption) | exact wordsR_get (by assumption) | assumption)) | (apply s_lss_t; (iterate 5 (exact rfl)); omega) | (apply s_add64; (iterate 5 (exact rfl)); omega) | (apply s_allocF tabZ_ok (d := 9); (iterate 6 (exact rfl)); intro locZ σ hc2; have hZ := hc2.at'; have nHZ := hc2.ne hH; have nZ : NotW z locZ := hz.fr hc2; replace hH := hc2.keep hH; replace hz := hz.fresh hc2; have oZ := hK.out hc2; replace hK := hK.fresh hc2; clear hc2) | (apply s_storeF tab_ok; (iterate 7 (exact rfl)); exact hZ; (iterate 2 (exact rfl)); intro σ hc2; replace hZ := hc2.at'; replace hH := hc2.keep nHZ hH; replace hz := hz.chg nZ hc2; replace hK := hK.chg oZ hc2; clear hc2) | (apply s_ldF tab_ok; (iterate 5 (exact rfl)); exact hZ; exact rfl) | (apply s_callS; (iterate 6 (exact rfl)); exact hc _ hH hz; rintro _ σ2 ⟨rfl, hH2, hz2, hk2⟩; replace hK := hK.trans hk2; clear hk2 hZ) | refine al_nil ?_ | refine q_then_n ?_ | refine q_blk_n ?_ | refine aw_block ?_ | refine aw_seq ?_ | refine aw_reg ?_ | refine aw_true rfl ?_ | refine aw_skip ?_)
    all_goals exact ⟨_, _, rfl, by omega, j + 1, rfl, hH2, hz2, hK, by omega, rfl⟩
  · rw [List.take_of_length_le (by omega)] at hH hz
    repeat' (first | refine s_op rfl ?_ | (apply s_lss_f; (iterate 5 (exact rfl)); omega) | refine al_nil ?_ | refine q_then_n ?_ | refine q_blk_n ?_ | refine q_blk_e ?_ | refine q_then_e ?_ | refine aw_exit ?_ | refine aw_seq ?_ | refine aw_reg ?_ | refine aw_false rfl ?_)
    all_goals exact q_end rfl ⟨rfl, hH, hz, hK⟩
theorem dropw100 (ap : NotW z locH) : ∀ (f : Nat) (H : AHeap) (hs : List Bool) (w : AWord) (B : Int) (σ : List AObj), H.Ok B → B + dropN f H w < 1000000000 → fuelOk f H w → hs.length ≤ 1000000 → σ[locH]? = some (ho H) → PW σ z hs → Runs Try.prog 100 [.ptr locH 0 0, .ptr z.p 0 0, .d (.agg (wordD w))] σ (DroppedW locH z (dropF f H w) (goneW f H hs w) σ)
  | 0, H, hs, w, B, σ, ok, _, hf, hl, h, hz => dropw_leaf hf h hz hl ap
  | f + 1, H, hs, w, B, σ, ok, hN, hf, hl, h, hz => by
    by_cases hk : w.k = 5
    · unfold dropF goneW
      unfold dropN at hN
      rw [if_pos hk] at hN ⊢
      rw [if_neg (by omega), if_pos hk]
      exact dropw_cell (p := fuelOk f) hk ok (by omega) (hf hk) (fun H w B ok => dropF_ok f H w B ok) (fun H hs w => goneW_len f H hs w) ap hl (fun H hs w B σ a b c d e k => dropw100 ap f H hs w B σ a b c d e k) h hz
    · unfold dropF
      rw [if_neg hk, goneW_leaf _ _ _ hk]
      exact dropw_leaf hk h hz hl ap
set_option maxRecDepth 100000 in
set_option maxHeartbeats 8000000 in
theorem drop50 {B : Int} {f : Nat} {w : AWord} (ok : H.Ok B) (hlv : LiveOk H) (hf : H.slots.length + 1 ≤ f) (hH : σ[locH]? = some (ho H)) (hz : PW σ z hs) (hl : hs.length ≤ 1000000) (ap : NotW z locH) (hN : (reachM H f [w]).2 = 0 → B + dropN f H w < 1000000000 ∧ fuelOk f H w) :
    Runs Try.prog 50 [.ptr locH 0 0, .ptr z.p 0 0, .d (.agg (wordD w))] σ (fun r σ' => r = .d (.v (.int .i64 (dropM H f w).1)) ∧ σ'[locH]? = some (ho (dropM H f w).2) ∧ PW σ' z (dropH H f hs w) ∧ KeptP (NotP locH z) σ σ') := by
  have hs0 := size_m ok hlv hf w
  have hK := KeptP.refl (NotP locH z) σ
  by_cases he : (reachM H f [w]).2 = 0
  · have hdm : dropM H f w = (0, dropF f H w) := by unfold dropM; rw [if_neg (by simp [he])]
    have hdh : dropH H f hs w = goneW f H hs w := by unfold dropH; rw [if_neg (by simp [he])]
    obtain ⟨n1, n2⟩ := hN he
    have hd := fun σ1 hH hz => dropw100 ap f H hs w B σ1 ok n1 n2 hl hH hz
    rw [hdm, hdh]
    rw [he] at hs0
    unfold DroppedW at hd
    generalize dropF f H w = K at hd ⊢
    generalize goneW f H hs w = hs2 at hd ⊢
    obtain ⟨wk, wn, ws, wg⟩ := w
    clear hdm hdh he hN
    refine enterB 24 tab_ok Try.func50 rfl (by kernel_rfl) rfl rfl rfl ?_
    repeat' (first | refine s_op rfl ?_ | (apply s_move; (iterate 4 (exact rfl))) | (apply s_ld_f tab_ok; (iterate 6 (exact rfl))) | (apply s_assign; (iterate 4 (exact rfl))) | (apply s_ext; (iterate 5 (exact rfl))) | (apply s_boxZ; (iterate 5 (exact rfl)); first | exact rfl | exact allD_mapd _) | (apply s_neq_f; (iterate 5 (exact rfl)); omega) | (apply s_ptrNil ptr68; (iterate 4 (exact rfl))) | (apply s_callS; (iterate 6 (exact rfl)); exact hs0 _ _ hH; rintro _ σ2 ⟨rfl, hk2⟩; replace hH := hk2 _ _ trivial hH; replace hz := hz.keep hk2; replace hK := hK.trans hk2.any; clear hk2) | (apply s_callS; (iterate 6 (exact rfl)); exact hd _ hH hz; rintro _ σ2 ⟨rfl, hH2, hz2, hk2⟩; replace hK := hK.trans hk2; clear hk2) | refine al_nil ?_ | refine q_then_n ?_ | refine aw_seq ?_ | refine aw_reg ?_ | refine aw_false rfl ?_ | refine aw_skip ?_ | refine aw_ret ?_)
    all_goals exact q_retB (resB_1 rfl (resV_t rfl)) ⟨rfl, hH2, hz2, hK⟩
  · have hdm : dropM H f w = ((reachM H f [w]).2, H) := by unfold dropM; rw [if_pos he]
    have hdh : dropH H f hs w = hs := by unfold dropH; rw [if_pos he]
    rw [hdm, hdh]
    generalize (reachM H f [w]).2 = e at hs0 he ⊢
    obtain ⟨wk, wn, ws, wg⟩ := w
    clear hdm hdh hN
    refine enterB 24 tab_ok Try.func50 rfl (by kernel_rfl) rfl rfl rfl ?_
    repeat' (first | refine s_op rfl ?_ | (apply s_move; (iterate 4 (exact rfl))) | (apply s_ld_f tab_ok; (iterate 6 (exact rfl))) | (apply s_assign; (iterate 4 (exact rfl))) | (apply s_ext; (iterate 5 (exact rfl))) | (apply s_boxZ; (iterate 5 (exact rfl)); first | exact rfl | exact allD_mapd _) | (apply s_neq_t; (iterate 5 (exact rfl)); omega) | (apply s_ptrNil ptr68; (iterate 4 (exact rfl))) | (apply s_callS; (iterate 6 (exact rfl)); exact hs0 _ _ hH; rintro _ σ2 ⟨rfl, hk2⟩; replace hH := hk2 _ _ trivial hH; replace hz := hz.keep hk2; replace hK := hK.trans hk2.any; clear hk2) | refine al_nil ?_ | refine q_then_n ?_ | refine q_then_r ?_ | refine aw_seq ?_ | refine aw_reg ?_ | refine aw_true rfl ?_ | refine aw_false rfl ?_ | refine aw_skip ?_ | refine aw_ret ?_)
    all_goals exact q_retB (resB_1 rfl (resV_t rfl)) ⟨rfl, hH, hz, hK⟩
end
end Go.Proofs.Ytciciaikajdenaa
/- NV: CellTrees' plain law. No program in sight. -/
set_option linter.unusedSimpArgs false
set_option linter.unusedVariables false
namespace Go.Proofs.Ytciciaikajdenaa
open Go.RowKit

theorem HoldsL.append {H : AHeap} : ∀ {l m : List Val} {ws us : List AWord} {S T : List Nat}, HoldsL H l ws S → HoldsL H m us T → HoldsL H (l ++ m) (ws ++ us) (S ++ T)
  | [], m, ws, us, S, T, ⟨h1, h2⟩, k => by subst h1 h2; exact k
  | v :: l, m, ws, us, S, T, ⟨w, ws', S1, S2, e1, e2, h1, h2⟩, k => by
    subst e1 e2
    exact ⟨w, ws' ++ us, S1, S2 ++ T, rfl, by rw [List.append_assoc], h1, h2.append k⟩
theorem HoldsL.len {H : AHeap} : ∀ {l : List Val} {ws : List AWord} {S : List Nat}, HoldsL H l ws S → ws.length = l.length
  | [], ws, S, ⟨h1, h2⟩ => by subst h1; rfl
  | v :: l, ws, S, ⟨w, ws', S1, S2, e1, e2, h1, h2⟩ => by subst e1; simp [h2.len]
theorem HoldsL.at {H : AHeap} : ∀ {l : List Val} {ws : List AWord} {S : List Nat} {i : Nat} {v : Val} {w : AWord}, HoldsL H l ws S → l[i]? = some v → ws[i]? = some w → ∃ S1 Si S2, S = S1 ++ (Si ++ S2) ∧ Holds H v w Si ∧ HoldsL H (l.take i ++ l.drop (i + 1)) (ws.take i ++ ws.drop (i + 1)) (S1 ++ S2)
  | [], ws, S, i, v, w, h, e, _ => by simp at e
  | a :: l, ws, S, 0, v, w, ⟨u, ws', S1, S2, e1, e2, h1, h2⟩, e, e' => by
    subst e1 e2
    simp at e e'
    subst e e'
    exact ⟨[], S1, S2, rfl, h1, by simpa using h2⟩
  | a :: l, ws, S, i + 1, v, w, ⟨u, ws', S1, S2, e1, e2, h1, h2⟩, e, e' => by
    subst e1 e2
    obtain ⟨T1, Ti, T2, q1, q2, q3⟩ := h2.at (i := i) (by simpa using e) (by simpa using e')
    subst q1
    refine ⟨S1 ++ T1, Ti, T2, by simp, q2, ?_⟩
    simp only [List.take_succ_cons, List.drop_succ_cons, List.cons_append, List.append_assoc]
    exact ⟨u, _, S1, T1 ++ T2, rfl, rfl, h1, q3⟩
/-- What is owned. -/
structure TInv (r B : Int) (H : AHeap) (own : List AWord) (has : List Val) : Prop where
  ok : H.Ok B
  live : LiveOk H
  room : H.room = r
  hold : ∃ S, HoldsL H has own S ∧ S.Nodup ∧ (S.length : Int) = H.live
  vals : ∀ v ∈ has, mayV v = true ∧ v.low ∧ massV v ≤ 4000
section
variable {r B : Int} {H : AHeap} {own : List AWord} {has : List Val}
theorem TInv.len (t : TInv r B H own has) : own.length = has.length := by
  obtain ⟨S, h, _⟩ := t.hold
  exact h.len
theorem TInv.slots (t : TInv r B H own has) : H.slots.length ≤ 100000 := by
  have h1 := t.ok.few
  have h2 := t.ok.room1
  omega
theorem TInv.build (t : TInv r B H own has) (hB : 0 ≤ B) {v : Val} (hv : v.low) (hm : massV v ≤ 4000) : ((buildM H v).1.2 = 0 → TInv r B (buildM H v).2 (own ++ [(buildM H v).1.1]) (has ++ [v])) ∧ ((buildM H v).1.2 ≠ 0 → (buildM H v).1.1 = .zero ∧ (buildM H v).2 = H) ∧ (mayV v = true → (buildM H v).1.2 = 0 ∨ (buildM H v).1.2 = 7) := by
  have hmk : makeE H v = 0 ∨ (makeE H v = 2 ∧ mayV v = false) ∨ makeE H v = 7 := by
    unfold makeE
    split
    · rename_i h; exact .inr (.inl ⟨rfl, h⟩)
    · split
      · exact .inr (.inr rfl)
      · exact .inl rfl
  unfold buildM
  rcases hmk with e | ⟨e, hmay⟩ | e
  · rw [if_pos e]
    have hmay : mayV v = true := by
      unfold makeE at e
      split at e
      · cases e
      · rename_i h; simpa using h
    have hr : (cellsV v : Int) ≤ H.room - H.live := by
      unfold makeE at e
      rw [if_neg (by rw [hmay]; simp)] at e
      split at e
      · cases e
      · omega
    refine ⟨fun _ => ?_, fun h => absurd rfl h, fun _ => .inl rfl⟩
    obtain ⟨b, _⟩ := build_ok hB v H hmay t.ok hr
    obtain ⟨g, T, h1, h2, h3⟩ := build_holds hB v H hmay t.ok hr
    obtain ⟨S, k1, k2, k3⟩ := t.hold
    refine ⟨b.ok, LiveOk.buildF v H t.live, b.room.trans t.room, ⟨S ++ T, (k1.grown g).append h1.one, List.nodup_append.2 ⟨k2, h2, fun a ha b hb e => ?_⟩, ?_⟩, fun u hu => ?_⟩
    · subst e
      exact h3 a hb (k1.alive a ha)
    · have := b.live
      have := h1.count
      rw [List.length_append]
      show _ = (buildF H v).2.live
      omega
    · rcases List.mem_append.1 hu with hu | hu
      · exact t.vals u hu
      · simp at hu; subst hu; exact ⟨hmay, hv, hm⟩
  · rw [if_neg (by rw [e]; decide)]
    exact ⟨fun h => (by replace h : makeE H v = 0 := h; omega), fun _ => ⟨rfl, rfl⟩, fun h => (by rw [hmay] at h; cases h)⟩
  · rw [if_neg (by rw [e]; decide)]
    exact ⟨fun h => (by replace h : makeE H v = 0 := h; omega), fun _ => ⟨rfl, rfl⟩, fun _ => .inr e⟩
theorem TInv.one (t : TInv r B H own has) {i : Nat} {v : Val} {w : AWord} (hv : has[i]? = some v) (hw : own[i]? = some w) : ∃ S, Holds H v w S ∧ S.Nodup := by
  obtain ⟨S, h, hn, _⟩ := t.hold
  obtain ⟨S1, Si, S2, e, h1, _⟩ := h.at hv hw
  subst e
  exact ⟨Si, h1, (List.nodup_append.1 (List.nodup_append.1 hn).2.1).1⟩
theorem TInv.drop (t : TInv r B H own has) {i : Nat} {v : Val} {w : AWord} (hv : has[i]? = some v) (hw : own[i]? = some w) :
    reachM H 1000000 [w] = ((cellsV v : Int), 0) ∧ (dropM H 1000000 w).1 = 0 ∧ dropN 1000000 H w ≤ 4000 ∧ fuelOk 1000000 H w ∧ TInv r (B + 4000) (dropM H 1000000 w).2 (own.take i ++ own.drop (i + 1)) (has.take i ++ has.drop (i + 1)) ∧ (dropM H 1000000 w).2.live = H.live - cellsV v := by
  obtain ⟨m1, m2, m3⟩ := t.vals v (List.mem_of_getElem? hv)
  have hc := cells_mass v
  obtain ⟨S, h, hn, hcnt⟩ := t.hold
  obtain ⟨S1, Si, S2, e, h1, h2⟩ := h.at hv hw
  subst e
  obtain ⟨n1, n2, n3⟩ := List.nodup_append.1 hn
  obtain ⟨n4, n5, n6⟩ := List.nodup_append.1 n2
  have hct := h1.count
  obtain ⟨g, dn, fo⟩ := h1.drop t.ok n4 1000000 (by omega)
  have ok2 := (dropF_ok 1000000 H w B t.ok).up (C := B + 4000) (by omega)
  have hlv := g.live
  rw [h1.dropM t.ok n4 (by omega), h1.reachM t.ok n4 (by omega), hct]
  refine ⟨rfl, rfl, by omega, fo, ⟨ok2, LiveOk.dropF 1000000 _ _ t.live, g.room.trans t.room, ⟨S1 ++ S2, h2.gone g fun j hj hi => ?_, List.nodup_append.2 ⟨n1, n5, fun a ha b hb => n3 a ha b (List.mem_append_right _ hb)⟩, ?_⟩, fun u hu => ?_⟩, ?_⟩
  · rcases List.mem_append.1 hj with hj | hj
    · exact n3 j hj j (List.mem_append_left _ hi) rfl
    · exact n6 j hi j hj rfl
  · simp only [List.length_append] at hcnt ⊢
    show ((S1.length + S2.length : Nat) : Int) = (dropF 1000000 H w).live
    omega
  · rcases List.mem_append.1 hu with hu | hu
    · exact t.vals u (List.mem_of_mem_take hu)
    · exact t.vals u (List.mem_of_mem_drop hu)
  · show (dropF 1000000 H w).live = _
    omega
theorem TInv.value (t : TInv r B H own has) {i : Nat} {v : Val} {w : AWord} (hv : has[i]? = some v) (hw : own[i]? = some w) : valueM H 1000000 w = (v, 0) := by
  obtain ⟨m1, m2, m3⟩ := t.vals v (List.mem_of_getElem? hv)
  obtain ⟨S, h, hn⟩ := t.one hv hw
  exact h.valueM t.ok hn (by omega)
end
end Go.Proofs.Ytciciaikajdenaa
/- NW: a script of layer 24; is it too heavy? -/
set_option linter.unusedSimpArgs false
set_option linter.unusedVariables false
namespace Go.Proofs.Ytciciaikajdenaa
open Go.RowKit

section
variable {P : Program} {nt : Nat} {Q : Exit → Fr → List AObj → Prop} {fr : Fr} {σ : List AObj} {ops : Array Oper} {dr : Bool} {dos ends : List Nat} {l : Trr} {i d : Nat} {ty : TypeId} {pos : String} {aft : Array Edge} {gd : Option (Nat × Bool)}
theorem s_minV (r : Int) {t t2 : TypeId} {a b : Operand} {k k' : IntKind} {m n : Int} (hp : dr = dr) (hg : guardB ops fr gd = some true) (ht : Nat.blt d nt = true) (ha : aget fr a = .d (.v (.int k m))) (hb : aget fr b = .d (.v (.int k' n))) (hv : (if n < m then n else m) = r) (h : AL P nt ops dr dos ends l Q ((d, .d (.v (.int k r))) :: fr) σ) : ALo P nt ops dr dos ends i ⟨some d, .call { callee := .builtin .min, args := #[a, b], argTypes := #[t, t2] }, ty, pos, aft, gd⟩ l Q fr σ := by
  subst hv; exact s_min hp hg ht ha hb h
end

structure ADo where
  kind : Int
  n : Int
  c : ACell
  v : Val
  w : AWord
  raw : Bool
def doD : ADo → List DV
  | ⟨kind, n, ⟨ck, cn, cw⟩, .mk vk vn vs vl, ⟨wk, wn, ws, wg⟩, raw⟩ => [.v (.int .i64 kind), .v (.int .i64 n), .v (.int .u8 ck), .v (.int .i64 cn), .lst 4 (wordsR cw), .v (.int .u8 vk), .v (.int .i64 vn), .v (.string vs), .lst 4 (valR vl), .v (.int .u8 wk), .v (.int .i64 wn), .v (.string ws), .v (.int .i64 wg), .v (.bool raw)]
def dosR (l : List ADo) : List (List DV) := l.map doD
theorem dosR_len (l : List ADo) : (dosR l).length = l.length := by simp [dosR]
theorem dosR_get {l : List ADo} {j : Nat} {p : ADo} (h : l[j]? = some p) : (dosR l)[j]? = some (doD p) := row_map h
/-- What comes in. -/
structure ADo.low (x : ADo) : Prop where
  v : x.v.low
  words : x.c.ws.length ≤ 140737488355328
/-- Not too heavy. -/
structure Light (l : List ADo) : Prop where
  len : l.length ≤ 200
  all : ∀ x ∈ l, massV x.v ≤ 4000 ∧ x.c.ws.length ≤ 4000
theorem size_z {p : Val} (hp : p.low) : RunsP Try.prog 43 [.agg (valD p), .v (.int .i64 0)] (fun v => ∃ z : Int, v = .v (.int .i64 z) ∧ 1 ≤ z ∧ z ≤ 1000000000000000 ∧ (z ≤ 9000 → (massV p : Int) ≤ z)) := (size_c p hp 0 (by decide) (by decide)).mono fun _ ⟨z, e, h1, h2⟩ => by
  obtain ⟨h3, h4, h5⟩ := h2 (by decide)
  exact ⟨z, e, h3, by omega, h5⟩
set_option maxRecDepth 100000 in
set_option maxHeartbeats 8000000 in
theorem heavy_c52 (l : List ADo) (hl : l.length ≤ 140737488355328) (hlow : ∀ x ∈ l, x.low) : RunsP Try.prog 52 [.lst 14 (dosR l)] (fun r => ∃ b : Bool, r = .v (.bool b) ∧ (b = false → Light l)) := by
  have e1 := dosR_len l
  refine enterPB 30 tab_ok Try.func52 rfl (by kernel_rfl) rfl rfl rfl ?_
  repeat' (first
      | refine s_op rfl ?_ | (apply s_move; (iterate 4 (exact rfl))) | (apply s_fa_p tab_ok; (iterate 5 (exact rfl))) | (apply s_fa_f tab_ok; (iterate 6 (exact rfl))) | (apply s_ld_p tab_ok; (iterate 7 (exact rfl)))
      | (apply s_ld_f tab_ok; (iterate 6 (exact rfl))) | (apply s_ld_w tab_ok; (iterate 5 (exact rfl)); (first | exact valD_len _ | exact wordD_len _)) | (apply s_assign; (iterate 4 (exact rfl))) | (apply s_len tab_ok; (iterate 5 (exact rfl))) | (apply s_lens str_ok; (iterate 4 (exact rfl)))
      | (apply s_idx tab_ok; (iterate 7 (exact rfl)); (first | exact valR_get (by assumption) | exact wordsR_get (by assumption) | exact dosR_get (by assumption) | assumption)) | (apply s_alloc tabZ_ok; (iterate 7 (exact rfl))) | (apply s_store tab_ok; (iterate 10 (exact rfl))) | (apply s_lss_t; (iterate 5 (exact rfl)); omega) | (apply s_lss_f; (iterate 5 (exact rfl)); omega)
      | (apply s_gtr_t; (iterate 5 (exact rfl)); omega) | (apply s_gtr_f; (iterate 5 (exact rfl)); omega) | (apply s_add64; (iterate 5 (exact rfl)); omega)
      | refine al_nil ?_ | refine q_then_n ?_ | refine q_blk_n ?_ | refine q_blk_r ?_ | refine q_blk_e ?_
      | refine q_blk_o rfl ?_ | refine q_then_e ?_ | refine aw_block ?_ | refine aw_exit ?_ | refine q_then_r ?_
      | refine aw_seq ?_ | refine aw_reg ?_ | refine aw_true rfl ?_ | refine aw_false rfl ?_ | refine aw_skip ?_
      | refine aw_ret ?_ | refine al_fork ?_ ?_ | refine al_fork3 ?_ ?_ ?_
      | refine aw_draws (id := 5) (trO [0, 1, 2, 3, 4, 5, 6, 7, 8, 9, 10, 11, 12] .nil) [9] [] mixed_ok (by kernel_rfl) ?_)
  refine w_loop [0, 3, 6, 7, 8] (fun n' vs' σ => ∃ (k : Nat) (s : Int), vs' = [.d (.lst 14 (dosR l)), .d (.v (.int .i64 s)), .d (.lst 14 (dosR l)), .d (.v (.int .i64 ((dosR l).length : Int))), .d (.v (.int .i64 (k : Int)))] ∧ 0 ≤ s ∧ s ≤ 4000 ∧ k ≤ l.length ∧ (∀ x ∈ l.take k, massV x.v ≤ 4000 ∧ x.c.ws.length ≤ 4000) ∧ n' = l.length - k) rfl ⟨0, 0, rfl, by omega, by omega, by omega, fun x hx => by simp at hx, rfl⟩ ?_
  rintro n' vs' σ ⟨k, s, rfl, hs0, hs1, hk, hall, rfl⟩ fr hfr
  cases hfr
  by_cases hlt : k < l.length
  · obtain ⟨x, hx⟩ := getS hlt
    have hxl := hlow x (List.mem_of_getElem? hx)
    have hz := size_z hxl.v
    have hwl := hxl.words
    have hnext : massV x.v ≤ 4000 → x.c.ws.length ≤ 4000 → ∀ y ∈ l.take (k + 1), massV y.v ≤ 4000 ∧ y.c.ws.length ≤ 4000 := fun h1 h2 y hy => by
      rw [List.take_add_one, hx] at hy
      rcases List.mem_append.1 hy with hy | hy
      · exact hall y hy
      · simp at hy; subst hy; exact ⟨h1, h2⟩
    clear hall hxl hlow
    obtain ⟨xk, xn, ⟨ck, cn, cw⟩, ⟨vk, vn, vs, vl⟩, ⟨wk, wn, ws, wg⟩, raw⟩ := x
    have e2 := wordsR_len cw
    replace hwl : cw.length ≤ 140737488355328 := hwl
    replace hnext : massV (.mk vk vn vs vl) ≤ 4000 → cw.length ≤ 4000 → _ := hnext
    have hr : (dosR l)[k]? = some [.v (.int .i64 xk), .v (.int .i64 xn), .v (.int .u8 ck), .v (.int .i64 cn), .lst 4 (wordsR cw), .v (.int .u8 vk), .v (.int .i64 vn), .v (.string vs), .lst 4 (valR vl), .v (.int .u8 wk), .v (.int .i64 wn), .v (.string ws), .v (.int .i64 wg), .v (.bool raw)] := dosR_get hx
    replace hz : RunsP Try.prog 43 [.agg [.v (.int .u8 vk), .v (.int .i64 vn), .v (.string vs), .lst 4 (valR vl)], .v (.int .i64 0)] (fun v => ∃ z : Int, v = .v (.int .i64 z) ∧ 1 ≤ z ∧ z ≤ 1000000000000000 ∧ (z ≤ 9000 → (massV (.mk vk vn vs vl) : Int) ≤ z)) := hz
    obtain ⟨mm, hmm, hm0, hm1, hm2⟩ : ∃ mm : Int, (if (65536 : Int) < ((wordsR cw).length : Int) then (65536 : Int) else ((wordsR cw).length : Int)) = mm ∧ 0 ≤ mm ∧ mm ≤ 65536 ∧ (mm ≤ 4000 → cw.length ≤ 4000) := by
      refine ⟨_, rfl, ?_, ?_, ?_⟩ <;> split <;> omega
    repeat' (first
      | refine s_op rfl ?_ | (apply s_move; (iterate 4 (exact rfl))) | (apply s_fa_p tab_ok; (iterate 5 (exact rfl))) | (apply s_fa_f tab_ok; (iterate 6 (exact rfl))) | (apply s_ld_p tab_ok; (iterate 7 (exact rfl)))
      | (apply s_ld_f tab_ok; (iterate 6 (exact rfl))) | (apply s_ld_w tab_ok; (iterate 5 (exact rfl)); (first | exact valD_len _ | exact wordD_len _)) | (apply s_assign; (iterate 4 (exact rfl))) | (apply s_len tab_ok; (iterate 5 (exact rfl))) | (apply s_lens str_ok; (iterate 4 (exact rfl)))
      | (apply s_idx tab_ok; (iterate 7 (exact rfl)); (first | exact valR_get (by assumption) | exact wordsR_get (by assumption) | exact dosR_get (by assumption) | assumption)) | (apply s_lss_t; (iterate 5 (exact rfl)); omega) | (apply s_lss_f; (iterate 5 (exact rfl)); omega) | (apply s_gtr_t; (iterate 5 (exact rfl)); omega) | (apply s_gtr_f; (iterate 5 (exact rfl)); omega)
      | (apply s_add64; (iterate 5 (exact rfl)); omega)
      | (apply s_minV mm; (iterate 5 (exact rfl)); exact hmm)
      | (apply s_allocF tabZ_ok (d := 5); (iterate 6 (exact rfl)); intro locX σ hc; have hX := hc.at'; clear hc)
      | (apply s_storeF tab_ok; (iterate 7 (exact rfl)); exact hX; (iterate 2 (exact rfl)); intro σ hc; replace hX := hc.at'; clear hc)
      | (apply s_ldF tab_ok; (iterate 5 (exact rfl)); exact hX; exact rfl)
      | (apply s_call; (iterate 6 (exact rfl)); exact hz; rintro _ ⟨z, rfl, hz1, hz2, hz3⟩; by_cases hz4 : s + (1 + mm + z) ≤ 4000)
      | refine al_nil ?_ | refine q_then_n ?_ | refine q_blk_n ?_ | refine q_blk_r ?_ | refine q_blk_e ?_
      | refine q_blk_o rfl ?_ | refine q_then_e ?_ | refine aw_block ?_ | refine aw_exit ?_ | refine q_then_r ?_
      | refine aw_seq ?_ | refine aw_reg ?_ | refine aw_true rfl ?_ | refine aw_false rfl ?_ | refine aw_skip ?_
      | refine aw_ret ?_ | refine al_fork ?_ ?_ | refine al_fork3 ?_ ?_ ?_
      | refine aw_draws (id := 5) (trO [0, 1, 2, 3, 4, 5, 6, 7, 8, 9, 10, 11, 12] .nil) [9] [] mixed_ok (by kernel_rfl) ?_)
    · exact ⟨_, _, rfl, by omega, k + 1, _, rfl, by omega, by omega, by omega, hnext (by have := hz3 (by omega); omega) (hm2 (by omega)), rfl⟩
    · exact q_retB (resB_1 rfl (resV_t rfl)) ⟨_, rfl, _, rfl, fun h => by cases h⟩
  · have hlen : decide (((dosR l).length : Int) > 200) = false → l.length ≤ 200 := fun h => by have := of_decide_eq_false h; omega
    repeat' (first
      | refine s_op rfl ?_ | (apply s_move; (iterate 4 (exact rfl))) | (apply s_fa_p tab_ok; (iterate 5 (exact rfl))) | (apply s_fa_f tab_ok; (iterate 6 (exact rfl))) | (apply s_ld_p tab_ok; (iterate 7 (exact rfl)))
      | (apply s_ld_f tab_ok; (iterate 6 (exact rfl))) | (apply s_ld_w tab_ok; (iterate 5 (exact rfl)); (first | exact valD_len _ | exact wordD_len _)) | (apply s_assign; (iterate 4 (exact rfl))) | (apply s_len tab_ok; (iterate 5 (exact rfl))) | (apply s_lens str_ok; (iterate 4 (exact rfl)))
      | (apply s_idx tab_ok; (iterate 7 (exact rfl)); (first | exact valR_get (by assumption) | exact wordsR_get (by assumption) | exact dosR_get (by assumption) | assumption)) | (apply s_alloc tabZ_ok; (iterate 7 (exact rfl))) | (apply s_store tab_ok; (iterate 10 (exact rfl))) | (apply s_lss_t; (iterate 5 (exact rfl)); omega) | (apply s_lss_f; (iterate 5 (exact rfl)); omega)
      | (apply s_gtr_t; (iterate 5 (exact rfl)); omega) | (apply s_gtr_f; (iterate 5 (exact rfl)); omega) | (apply s_add64; (iterate 5 (exact rfl)); omega) | (apply s_lss; (iterate 6 (exact rfl))) | (apply s_gtr; (iterate 6 (exact rfl)))
      | (apply s_add; (iterate 6 (exact rfl))) | (refine s_guard rfl rfl (fun _ => ?_) (fun _ => ?_))
      | refine al_nil ?_ | refine q_then_n ?_ | refine q_blk_n ?_ | refine q_blk_r ?_ | refine q_blk_e ?_
      | refine q_blk_o rfl ?_ | refine q_then_e ?_ | refine aw_block ?_ | refine aw_exit ?_ | refine q_then_r ?_
      | refine aw_seq ?_ | refine aw_reg ?_ | refine aw_true rfl ?_ | refine aw_false rfl ?_ | refine aw_skip ?_
      | refine aw_ret ?_ | refine al_fork ?_ ?_ | refine al_fork3 ?_ ?_ ?_ | refine aw_cond rfl (fun _ => ?_) (fun _ => ?_)
      | refine aw_draws (id := 5) (trO [0, 1, 2, 3, 4, 5, 6, 7, 8, 9, 10, 11, 12] .nil) [9] [] mixed_ok (by kernel_rfl) ?_)
    all_goals exact q_retB (resB_1 rfl (resV_t rfl)) ⟨_, rfl, _, rfl, fun h => ⟨hlen h, fun x hx => hall x (by rw [List.take_of_length_le (by omega)]; exact hx)⟩⟩
end Go.Proofs.Ytciciaikajdenaa
/- NX: CellTrees: what holds at a round's head. -/
set_option linter.unusedSimpArgs false
set_option linter.unusedVariables false
namespace Go.Proofs.Ytciciaikajdenaa
open Go.RowKit

theorem idx_ok (n : Int) {m : Nat} (hm : 0 < m) : ∃ (i : Nat) (a : Int), n.tmod m = a ∧ -(m : Int) < a ∧ a < m ∧ (a + m).tmod m = (i : Int) ∧ i < m := by
  have h1 := Int.tmod_lt_of_pos n (show (0 : Int) < m by omega)
  have h2 := Int.lt_tmod_of_pos n (show (0 : Int) < m by omega)
  have h3 := Int.tmod_lt_of_pos (n.tmod m + m) (show (0 : Int) < m by omega)
  have h4 : 0 ≤ (n.tmod m + m).tmod m := Int.tmod_nonneg _ (by omega)
  exact ⟨((n.tmod m + m).tmod m).toNat, n.tmod m, rfl, h2, h1, by omega, by omega⟩
end Go.Proofs.Ytciciaikajdenaa
