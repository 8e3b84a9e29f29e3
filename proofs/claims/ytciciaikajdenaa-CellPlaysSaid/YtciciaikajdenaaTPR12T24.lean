/- T24: a dropping and its handles; the document's gone, Drop. -/
import Derived.Test.YtciciaikajdenaaTPR12T20x4
set_option linter.unusedSimpArgs false
set_option linter.unusedVariables false
namespace Go.Proofs.Ytciciaikajdenaa
open Go.RowKit

/-- The handles that a dropping shuts. -/
def gonesW (g : AHeap → AWord → AHeap) (gw : AHeap → List Bool → AWord → List Bool) : AHeap → List Bool → List AWord → List Bool
  | _, hs, [] => hs
  | H, hs, w :: ws => gonesW g gw (g H w) (gw H hs w) ws
def goneW : Nat → AHeap → List Bool → AWord → List Bool
  | 0, _, hs, w => if w.k = 6 then dropW hs w.n else hs
  | f + 1, H, hs, w => if w.k = 6 then dropW hs w.n else if w.k = 5 then gonesW (dropF f) (goneW f) (H.drop w).2 hs (H.drop w).1.1.ws else hs
theorem gonesW_append (g : AHeap → AWord → AHeap) (gw : AHeap → List Bool → AWord → List Bool) : ∀ (a b : List AWord) (H : AHeap) (hs : List Bool), gonesW g gw H hs (a ++ b) = gonesW g gw (dropsF g H a) (gonesW g gw H hs a) b
  | [], b, H, hs => rfl
  | w :: a, b, H, hs => gonesW_append g gw a b (g H w) (gw H hs w)
theorem gonesW_len {g : AHeap → AWord → AHeap} {gw : AHeap → List Bool → AWord → List Bool} (h : ∀ H hs w, (gw H hs w).length = hs.length) : ∀ (a : List AWord) (H : AHeap) (hs : List Bool), (gonesW g gw H hs a).length = hs.length
  | [], H, hs => rfl
  | w :: a, H, hs => (gonesW_len h a (g H w) (gw H hs w)).trans (h H hs w)
theorem goneW_len : ∀ (f : Nat) (H : AHeap) (hs : List Bool) (w : AWord), (goneW f H hs w).length = hs.length
  | 0, H, hs, w => by
    unfold goneW
    split
    · exact dropW_len hs w.n
    · rfl
  | f + 1, H, hs, w => by
    unfold goneW
    split
    · exact dropW_len hs w.n
    · split
      · exact gonesW_len (fun H hs w => goneW_len f H hs w) _ _ _
      · rfl
theorem goneW_leaf (f : Nat) (H : AHeap) (hs : List Bool) {w : AWord} (hk : w.k ≠ 5) : goneW f H hs w = if w.k = 6 then dropW hs w.n else hs := by
  cases f with
  | zero => rfl
  | succ f =>
    unfold goneW
    rw [if_neg hk]
/-- A heap and a world lie apart. -/
structure Apart (q : RQ) (z : WQ) : Prop where
  p : NotW z q.p
  s : NotW z q.s
  g : NotW z q.g
theorem Apart.zp {q : RQ} {z : WQ} (a : Apart q z) : NotQ q z.p := ⟨fun e => a.p.1 e.symm, fun e => a.s.1 e.symm, fun e => a.g.1 e.symm⟩
theorem Apart.zh {q : RQ} {z : WQ} (a : Apart q z) : NotQ q z.h := ⟨fun e => a.p.2.1 e.symm, fun e => a.s.2.1 e.symm, fun e => a.g.2.1 e.symm⟩
theorem Apart.zt {q : RQ} {z : WQ} (a : Apart q z) : NotQ q z.t := ⟨fun e => a.p.2.2 e.symm, fun e => a.s.2.2 e.symm, fun e => a.g.2.2 e.symm⟩
def NotB (q : RQ) (z : WQ) (k : Nat) : Prop := NotQ q k ∧ NotW z k
section
variable {σ σ' : List AObj} {q : RQ} {z : WQ} {H : AHeap} {hs : List Bool} {loc : Nat} {o : AObj}
theorem RHeap.fr (h : RHeap σ q H) (hc : Fresh σ loc o σ') : NotQ q loc := by
  obtain ⟨_, _, _, a, b, c, _⟩ := h.at'
  exact ⟨(hc.ne a).symm, (hc.ne b).symm, (hc.ne c).symm⟩
theorem RW.fr (h : RW σ z hs) (hc : Fresh σ loc o σ') : NotW z loc := by
  obtain ⟨_, _, a, b, c⟩ := h.at'
  exact ⟨(hc.ne a).symm, (hc.ne b).symm, (hc.ne c).symm⟩
theorem PW.fr (h : PW σ z hs) (hc : Fresh σ loc o σ') : NotW z loc := by
  obtain ⟨_, _, a, b, c⟩ := h.at'
  exact ⟨(hc.ne a).symm, (hc.ne b).symm, (hc.ne c).symm⟩
theorem RHeap.fresh (h : RHeap σ q H) (hc : Fresh σ loc o σ') : RHeap σ' q H := h.keep (KeptP.fresh (KeptP.refl _ _) hc)
theorem RW.fresh (h : RW σ z hs) (hc : Fresh σ loc o σ') : RW σ' z hs := h.keep (KeptP.fresh (KeptP.refl _ _) hc)
theorem PW.fresh (h : PW σ z hs) (hc : Fresh σ loc o σ') : PW σ' z hs := h.keep (KeptP.fresh (KeptP.refl _ _) hc)
theorem RHeap.chg (h : RHeap σ q H) (n : NotQ q loc) (hc : Chg σ loc o σ') : RHeap σ' q H := h.keepP (p := (· ≠ loc)) (fun k o hk e => hc.keep hk e) n.1.symm n.2.1.symm n.2.2.symm
theorem RW.chg (h : RW σ z hs) (n : NotW z loc) (hc : Chg σ loc o σ') : RW σ' z hs := h.keepP (p := (· ≠ loc)) (fun k o hk e => hc.keep hk e) n.1.symm n.2.1.symm n.2.2.symm
theorem PW.chg (h : PW σ z hs) (n : NotW z loc) (hc : Chg σ loc o σ') : PW σ' z hs := h.keepP (p := (· ≠ loc)) (fun k o hk e => hc.keep hk e) n.1.symm n.2.1.symm n.2.2.symm
/-- What the document's gone leaves. -/
def GoneP (q : RQ) (z : WQ) (K : AHeap) (hs : List Bool) (σ : List AObj) : AV → List AObj → Prop := fun r σ' => r = .tup [] ∧ RHeap σ' q K ∧ RW σ' z hs ∧ KeptP (NotB q z) σ σ'
set_option maxRecDepth 100000 in
set_option maxHeartbeats 8000000 in
theorem gone_leaf {w : AWord} (hk : w.k ≠ 5) (h : RHeap σ q H) (hz : RW σ z hs) (hl : hs.length ≤ 1000000) (ap : Apart q z) : Runs Try.prog 106 [.ptr q.p 0 0, .ptr z.p 0 0, .d (.agg (wordD w))] σ (GoneP q z H (if w.k = 6 then dropW hs w.n else hs) σ) := by
  have hd := drop124 hz hl w.n
  obtain ⟨wk, wn, ws, wg⟩ := w
  simp only at hk hd ⊢
  by_cases h6 : wk = 6
  · rw [if_pos h6]
    refine enter 40 Try.func106 rfl (by kernel_rfl) rfl rfl rfl ?_
    repeat' (first | refine s_op rfl ?_ | (apply s_move; (iterate 4 (exact rfl))) | (apply s_fa_f tab_ok; (iterate 6 (exact rfl))) | (apply s_ld_f tab_ok; (iterate 6 (exact rfl))) | (apply s_boxZ; (iterate 5 (exact rfl)); first | exact rfl | exact allD_mapd _) | (apply s_eql_t; (iterate 5 (exact rfl)); omega) | (apply s_neq_t; (iterate 5 (exact rfl)); omega) | (apply s_callS; (iterate 6 (exact rfl)); exact hd; rintro _ σ2 ⟨rfl, hz2, hk2⟩) | refine al_nil ?_ | refine q_then_n ?_ | refine q_then_r ?_ | refine aw_seq ?_ | refine aw_reg ?_ | refine aw_true rfl ?_ | refine aw_ret ?_)
    all_goals exact q_ret rfl ⟨rfl, h.keepP hk2 ap.p ap.s ap.g, hz2, hk2.of fun _ h => h.2⟩
  · rw [if_neg h6]
    refine enter 40 Try.func106 rfl (by kernel_rfl) rfl rfl rfl ?_
    repeat' (first | refine s_op rfl ?_ | (apply s_fa_f tab_ok; (iterate 6 (exact rfl))) | (apply s_ld_f tab_ok; (iterate 6 (exact rfl))) | (apply s_boxZ; (iterate 5 (exact rfl)); first | exact rfl | exact allD_mapd _) | (apply s_eql_f; (iterate 5 (exact rfl)); omega) | (apply s_neq_t; (iterate 5 (exact rfl)); omega) | refine al_nil ?_ | refine q_then_n ?_ | refine q_then_r ?_ | refine aw_seq ?_ | refine aw_reg ?_ | refine aw_true rfl ?_ | refine aw_false rfl ?_ | refine aw_skip ?_ | refine aw_ret ?_)
    all_goals exact q_ret rfl ⟨rfl, h, hz, KeptP.refl _ _⟩
set_option maxRecDepth 100000 in
set_option maxHeartbeats 8000000 in
theorem gone_cell {σ0 : List AObj} {w : AWord} {B : Int} {g : AHeap → AWord → AHeap} {gw : AHeap → List Bool → AWord → List Bool} {c : AHeap → AWord → Nat} {p : AHeap → AWord → Prop} (hk : w.k = 5) (ok : H.Ok B) (hN : B + (1 + dropsN g c (H.drop w).2 (H.drop w).1.1.ws) < 1000000000) (hf : fuelsOk g p (H.drop w).2 (H.drop w).1.1.ws) (hg : ∀ H w B, AHeap.Ok H B → (g H w).Ok (B + c H w))
    (hlen : ∀ H hs w, (gw H hs w).length = hs.length) (ap : Apart q z) (hl : hs.length ≤ 1000000)
    (hcall : ∀ (H : AHeap) (hs : List Bool) (w : AWord) (B : Int) (σ : List AObj), H.Ok B → B + c H w < 1000000000 → p H w → hs.length ≤ 1000000 → RHeap σ q H → RW σ z hs → Runs Try.prog 106 [.ptr q.p 0 0, .ptr z.p 0 0, .d (.agg (wordD w))] σ (GoneP q z (g H w) (gw H hs w) σ)) (h : RHeap σ0 q H) (hz : RW σ0 z hs) :
    Runs Try.prog 106 [.ptr q.p 0 0, .ptr z.p 0 0, .d (.agg (wordD w))] σ0 (GoneP q z (dropsF g (H.drop w).2 (H.drop w).1.1.ws) (gonesW g gw (H.drop w).2 hs (H.drop w).1.1.ws) σ0) := by
  have hd := fun σ (h : RHeap σ q H) => free_q h ok (by omega) w
  have h64 := drop_ws ok w
  have hok := drop_keep ok w
  have hK := KeptP.refl (NotB q z) σ0
  generalize H.drop w = r at *
  obtain ⟨⟨⟨ck, cn, ws⟩, e⟩, H1⟩ := r
  simp only at hd h64 hok hN hf ⊢
  have e1 := wordsR_len ws
  obtain ⟨wk, wn, wstr, wg⟩ := w
  simp only at hk
  refine enter 40 Try.func106 rfl (by kernel_rfl) rfl rfl rfl ?_
  repeat' (first | refine s_op rfl ?_ | (apply s_move; (iterate 4 (exact rfl))) | (apply s_fa_f tab_ok; (iterate 6 (exact rfl))) | (apply s_ld_f tab_ok; (iterate 6 (exact rfl))) | (apply s_assign; (iterate 4 (exact rfl))) | (apply s_ext; (iterate 5 (exact rfl))) | (apply s_boxZ; (iterate 5 (exact rfl)); first | exact rfl | exact allD_mapd _) | (apply s_neq_f; (iterate 5 (exact rfl)); omega) | (apply s_eql_f; (iterate 5 (exact rfl)); (show wk ≠ 6); omega) | (apply s_callS; (iterate 6 (exact rfl)); exact hd _ h; rintro _ σ ⟨rfl, h2, hk2⟩; replace h := h2; replace hz := hz.keepP hk2 ap.zp ap.zh ap.zt; (try (replace hY := hk2 _ _ nY.1 hY)); replace hK := hK.trans (hk2.of fun _ h => h.1); clear hk2 h2) | (apply s_allocF tabZ_ok (d := 6); (iterate 6 (exact rfl)); intro locY σ hc; have hY := hc.at'; have nY : NotB q z locY := ⟨h.fr hc, hz.fr hc⟩; replace h := h.fresh hc; replace hz := hz.fresh hc; have oY := hK.out hc; replace hK := hK.fresh hc; clear hc) | (apply s_storeF tab_ok; (iterate 7 (exact rfl)); exact hY; (iterate 2 (exact rfl)); intro σ hc; replace hY := hc.at'; replace h := h.chg nY.1 hc; replace hz := hz.chg nY.2 hc; replace hK := hK.chg oY hc; clear hc) | refine al_nil ?_ | refine q_then_n ?_ | refine aw_block ?_ | refine aw_seq ?_ | refine aw_reg ?_ | refine aw_false rfl ?_ | refine aw_skip ?_)
  refine w_loop [0, 1, 6, 8] (fun n' vs' σ' => ∃ j : Nat, vs' = [.ptr q.p 0 0, .ptr z.p 0 0, .ptr locY 0 0, .d (.v (.int .i64 (j : Int)))] ∧ RHeap σ' q (dropsF g H1 (ws.take j)) ∧ RW σ' z (gonesW g gw H1 hs (ws.take j)) ∧ σ'[locY]? = some (.row 34 [.d (.v (.int .u8 ck)), .d (.v (.int .i64 cn)), .d (.lst 4 (wordsR ws))]) ∧ KeptP (NotB q z) σ0 σ' ∧ j ≤ ws.length ∧ n' = ws.length - j) rfl ⟨0, rfl, h, hz, hY, hK, by omega, rfl⟩ ?_
  clear h hz hY hK hd
  rintro n' vs' σ ⟨j, rfl, h, hz, hY, hK, hj, rfl⟩ fr hfr
  cases hfr
  by_cases hlt : j < ws.length
  · obtain ⟨w, hw⟩ := getS hlt
    have ht : ws.take (j + 1) = ws.take j ++ [w] := by rw [List.take_add_one, hw]; rfl
    have hF : dropsF g H1 (ws.take (j + 1)) = g (dropsF g H1 (ws.take j)) w := by rw [ht, dropsF_append]; rfl
    have hW : gonesW g gw H1 hs (ws.take (j + 1)) = gw (dropsF g H1 (ws.take j)) (gonesW g gw H1 hs (ws.take j)) w := by rw [ht, gonesW_append]; rfl
    have hcnt : dropsN g c H1 (ws.take j) + c (dropsF g H1 (ws.take j)) w ≤ dropsN g c H1 ws := by
      have e2 : ws = ws.take (j + 1) ++ ws.drop (j + 1) := (List.take_append_drop _ _).symm
      have e3 : dropsN g c H1 ws = dropsN g c H1 (ws.take (j + 1)) + dropsN g c (dropsF g H1 (ws.take (j + 1))) (ws.drop (j + 1)) := by rw [← dropsN_append, ← e2]
      have e4 : dropsN g c H1 (ws.take (j + 1)) = dropsN g c H1 (ws.take j) + c (dropsF g H1 (ws.take j)) w := by rw [ht, dropsN_append]; simp [dropsN]
      omega
    have hc := hcall _ (gonesW g gw H1 hs (ws.take j)) w (B + 1 + dropsN g c H1 (ws.take j)) σ (dropsF_ok hg (ws.take j) H1 (B + 1) hok) (by omega) (fuelsOk_get hf hw) (by rw [gonesW_len hlen]; exact hl) h hz
    unfold GoneP at hc
    rw [← hF, ← hW] at hc
    obtain ⟨yk, yn, ys, yg⟩ := w
    clear hcall hg hf hN
    repeat' (first | refine s_op rfl ?_ | (apply s_move; (iterate 4 (exact rfl))) | (apply s_fa_p tab_ok; (iterate 5 (exact rfl))) | (apply s_ld_f tab_ok; (iterate 6 (exact rfl))) | (apply s_assign; (iterate 4 (exact rfl))) | (apply s_len tab_ok; (iterate 5 (exact rfl))) | (apply s_idx tab_ok; (iterate 7 (exact rfl)); (first | exact valR_get (by assumption) | exact wordsR_get (by assumption) | assumption)) | (apply s_lss_t; (iterate 5 (exact rfl)); omega) | (apply s_add64; (iterate 5 (exact rfl)); omega) | (apply s_ldF tab_ok; (iterate 5 (exact rfl)); exact hY; exact rfl) | (apply s_callS; (iterate 6 (exact rfl)); exact hc; rintro _ σ2 ⟨rfl, h2, hz2, hk2⟩; replace hY := hk2 _ _ nY hY; replace hK := hK.trans hk2; clear hk2 h hz) | refine al_nil ?_ | refine q_then_n ?_ | refine q_blk_n ?_ | refine aw_block ?_ | refine aw_seq ?_ | refine aw_reg ?_ | refine aw_true rfl ?_ | refine aw_skip ?_)
    all_goals exact ⟨_, _, rfl, by omega, j + 1, rfl, h2, hz2, hY, hK, by omega, rfl⟩
  · rw [List.take_of_length_le (by omega)] at h hz
    repeat' (first | refine s_op rfl ?_ | (apply s_move; (iterate 4 (exact rfl))) | (apply s_fa_p tab_ok; (iterate 5 (exact rfl))) | (apply s_len tab_ok; (iterate 5 (exact rfl))) | (apply s_lss_f; (iterate 5 (exact rfl)); omega) | (apply s_ldF tab_ok; (iterate 5 (exact rfl)); exact hY; exact rfl) | refine al_nil ?_ | refine q_then_n ?_ | refine q_blk_e ?_ | refine q_then_e ?_ | refine aw_exit ?_ | refine aw_seq ?_ | refine aw_reg ?_ | refine aw_false rfl ?_)
    all_goals exact q_end rfl ⟨rfl, h, hz, hK⟩
theorem gone106 (ap : Apart q z) : ∀ (f : Nat) (H : AHeap) (hs : List Bool) (w : AWord) (B : Int) (σ : List AObj), H.Ok B → B + dropN f H w < 1000000000 → fuelOk f H w → hs.length ≤ 1000000 → RHeap σ q H → RW σ z hs → Runs Try.prog 106 [.ptr q.p 0 0, .ptr z.p 0 0, .d (.agg (wordD w))] σ (GoneP q z (dropF f H w) (goneW f H hs w) σ)
  | 0, H, hs, w, B, σ, ok, _, hf, hl, h, hz => gone_leaf hf h hz hl ap
  | f + 1, H, hs, w, B, σ, ok, hN, hf, hl, h, hz => by
    by_cases hk : w.k = 5
    · unfold dropF goneW
      unfold dropN at hN
      rw [if_pos hk] at hN ⊢
      rw [if_neg (by omega), if_pos hk]
      exact gone_cell (p := fuelOk f) hk ok (by omega) (hf hk) (fun H w B ok => dropF_ok f H w B ok) (fun H hs w => goneW_len f H hs w) ap hl (fun H hs w B σ a b c d e k => gone106 ap f H hs w B σ a b c d e k) h hz
    · unfold dropF
      rw [if_neg hk, goneW_leaf _ _ _ hk]
      exact gone_leaf hk h hz hl ap
theorem walks_bad_ne {f : AWord → List Int → Bool → Res Val} (hf : ∀ w c b, f w c b ≠ .bad 0) : ∀ (ws : List AWord) (c : List Int) (b : Bool), walksF f ws c b ≠ .bad 0
  | [], c, b => by simp [walksF]
  | w :: ws, c, b => by
    intro h
    unfold walksF at h
    cases h1 : f w c b with
    | bad e => rw [h1] at h; simp only [Res.bad.injEq] at h; subst h; exact hf _ _ _ h1
    | ok v c2 b2 =>
      rw [h1] at h
      simp only at h
      cases h2 : walksF f ws c2 b2 with
      | bad e => rw [h2] at h; simp only [Res.bad.injEq] at h; subst h; exact walks_bad_ne hf _ _ _ h2
      | ok vs c3 b3 => rw [h2] at h; simp at h
theorem walk_bad_ne (H : AHeap) : ∀ (f : Nat) (w : AWord) (c : List Int) (b : Bool), walkF H f w c b ≠ .bad 0
  | 0, w, c, b => by simp [walkF]
  | f + 1, w, c, b => by
    intro h
    unfold walkF at h
    split at h
    · simp at h
    · split at h
      · simp at h
      · split at h
        · rename_i h1; simp only [Res.bad.injEq] at h; exact h1 h
        · split at h
          · simp at h
          · cases h2 : walksF (walkF H f) (H.get w).1.ws (c ++ [w.n]) b with
            | bad e => rw [h2] at h; simp only [Res.bad.injEq] at h; subst h; exact walks_bad_ne (fun w c b => walk_bad_ne H f w c b) _ _ _ h2
            | ok vs c3 b3 => rw [h2] at h; simp at h
/-- The handles that Drop shuts. -/
def dropH (H : AHeap) (f : Nat) (hs : List Bool) (w : AWord) : List Bool := if (reachM H f [w]).2 ≠ 0 then hs else goneW f H hs w
theorem dropH_len (H : AHeap) (f : Nat) (hs : List Bool) (w : AWord) : (dropH H f hs w).length = hs.length := by
  unfold dropH
  split
  · rfl
  · exact goneW_len f H hs w
theorem reach_bad {f : Nat} {w : AWord} {e : Int} (h : walkF H f w [] false = .bad e) : (reachM H f [w]).2 = e := by
  unfold reachM; simp only [walksF, h]
theorem reach_ok {f : Nat} {w : AWord} {v : Val} {c : List Int} {b : Bool} (h : walkF H f w [] false = .ok v c b) : (reachM H f [w]).2 = 0 := by
  unfold reachM; simp only [walksF, h]
set_option maxRecDepth 100000 in
set_option maxHeartbeats 8000000 in
theorem drop63 {B : Int} {f : Nat} {w : AWord} (ok : H.Ok B) (hf : H.slots.length + 1 ≤ f) (h : RHeap σ q H) (hz : RW σ z hs) (hl : hs.length ≤ 1000000) (ap : Apart q z) (hN : (reachM H f [w]).2 = 0 → B + dropN f H w < 1000000000 ∧ fuelOk f H w) :
    Runs Try.prog 63 [.ptr q.p 0 0, .ptr z.p 0 0, .d (.agg (wordD w))] σ (fun r σ' => r = .d (.v (.int .i64 (dropM H f w).1)) ∧ RHeap σ' q (dropM H f w).2 ∧ RW σ' z (dropH H f hs w) ∧ KeptP (NotB q z) σ σ') := by
  have hK := KeptP.refl (NotB q z) σ
  cases hw : walkF H f w [] false with
  | bad e =>
    have hr := reach_bad hw
    have hwk := walk_n_bad (q := q) ok hf hw
    have he0 : e ≠ 0 := by
      intro he
      subst he
      exact walk_bad_ne H f w [] false hw
    have h1 : dropM H f w = (e, H) := by unfold dropM; rw [hr, if_pos he0]
    have h2 : dropH H f hs w = hs := by unfold dropH; rw [hr, if_pos he0]
    rw [h1, h2]
    obtain ⟨wk, wn, ws, wg⟩ := w
    clear hN hr h1 h2 hw
    refine enterB 24 tab_ok Try.func63 rfl (by kernel_rfl) rfl rfl rfl ?_
    repeat' (first | refine s_op rfl ?_ | (apply s_move; (iterate 4 (exact rfl))) | (apply s_ld_f tab_ok; (iterate 6 (exact rfl))) | (apply s_assign; (iterate 4 (exact rfl))) | (apply s_ext; (iterate 5 (exact rfl))) | (apply s_boxZ; (iterate 5 (exact rfl)); first | exact rfl | exact allD_mapd _) | (apply s_eql_f; (iterate 5 (exact rfl)); omega) | (apply s_callS; (iterate 6 (exact rfl)); exact hwk _ h; rintro _ σ2 ⟨locW, verW, nW, fW, rfl, he, hk2⟩; replace h := h.keep hk2; replace hz := hz.keep hk2; replace hK := hK.trans hk2.any; clear hk2) | refine al_nil ?_ | refine q_then_n ?_ | refine aw_seq ?_ | refine aw_reg ?_ | refine aw_false rfl ?_ | refine aw_skip ?_ | refine aw_ret ?_)
    all_goals exact q_retB (resB_1 rfl (resV_t rfl)) ⟨rfl, h, hz, hK⟩
  | ok v c2 f2 =>
    have hr := reach_ok hw
    have hwk := walk_n_ok (q := q) ok hf hw
    obtain ⟨n1, n2⟩ := hN hr
    have h1 : dropM H f w = (0, dropF f H w) := by unfold dropM; rw [hr]; rfl
    have h2 : dropH H f hs w = goneW f H hs w := by unfold dropH; rw [hr]; rfl
    rw [h1, h2]
    have hg := fun σ h hz => gone106 ap f H hs w B σ ok n1 n2 hl h hz
    unfold GoneP at hg
    generalize dropF f H w = K at hg ⊢
    generalize goneW f H hs w = hs2 at hg ⊢
    obtain ⟨wk, wn, ws, wg⟩ := w
    clear hN hr h1 h2 hw
    refine enterB 24 tab_ok Try.func63 rfl (by kernel_rfl) rfl rfl rfl ?_
    repeat' (first | refine s_op rfl ?_ | (apply s_move; (iterate 4 (exact rfl))) | (apply s_ld_f tab_ok; (iterate 6 (exact rfl))) | (apply s_assign; (iterate 4 (exact rfl))) | (apply s_ext; (iterate 5 (exact rfl))) | (apply s_boxZ; (iterate 5 (exact rfl)); first | exact rfl | exact allD_mapd _) | (apply s_eql_t; (iterate 5 (exact rfl)); omega) | (apply s_callS; (iterate 6 (exact rfl)); exact hwk _ h; rintro _ σ2 ⟨locW, verW, nW, rfl, hk2⟩; replace h := h.keep hk2; replace hz := hz.keep hk2; replace hK := hK.trans hk2.any; clear hk2) | (apply s_callS; (iterate 6 (exact rfl)); exact hg _ h hz; rintro _ σ2 ⟨rfl, h3, hz3, hk2⟩; replace hK := hK.trans hk2; clear hk2) | refine al_nil ?_ | refine q_then_n ?_ | refine aw_seq ?_ | refine aw_reg ?_ | refine aw_true rfl ?_ | refine aw_ret ?_)
    all_goals exact q_retB (resB_1 rfl (resV_t rfl)) ⟨rfl, h3, hz3, hK⟩
end
end Go.Proofs.Ytciciaikajdenaa
