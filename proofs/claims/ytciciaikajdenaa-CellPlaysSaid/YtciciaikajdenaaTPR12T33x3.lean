/- T33: CellPlays: the loop. -/
import Derived.Test.YtciciaikajdenaaTPR12T32k0x2
import Derived.Test.YtciciaikajdenaaTPR12T32k2x3
import Derived.Test.YtciciaikajdenaaTPR12T32k5ax4
import Derived.Test.YtciciaikajdenaaTPR12T25x4
import Derived.Test.YtciciaikajdenaaTPR12N26x7
set_option linter.unusedSimpArgs false
set_option linter.unusedVariables false
namespace Go.Proofs.Ytciciaikajdenaa
open Go.RowKit

/-- What holds at a round's head. -/
def TI12 (dos : List ADo) (locH : Nat) (q : RQ) (x y : WQ) (locL j : Nat) (vs : List AV) (σ : List AObj) : Prop :=
  ∃ (vL n : Nat) (B : Int) (H : AHeap) (s : List Bool) (l : List AWord), vs = [.ptr locH 0 0, .ptr q.p 0 0, .ptr x.p 0 0, .ptr y.p 0 0, .own locL vL 4 0 n, .d (.lst 14 (dosR dos)), .d (.v (.int .i64 ((dosR dos).length : Int))), .d (.v (.int .i64 (j : Int)))] ∧ Mem locH q x y locL vL σ H H s s l ∧ H.Ok B ∧ LiveOk H ∧ 0 ≤ B ∧ B ≤ 100000 * (j : Int) ∧ l.length = n ∧ n ≤ j ∧ s.length ≤ j ∧ j ≤ dos.length
def TQ12 (dos : List ADo) (locH : Nat) (q : RQ) (x y : WQ) (locL j : Nat) (e : Exit) (fr : Fr) (σ : List AObj) : Prop :=
  e = .normal ∧ ∃ vs, getO [5, 7, 9, 11, 13, 78, 79, 80] fr = some vs ∧ TI12 dos locH q x y locL j vs σ
theorem tq12 {dos : List ADo} {locH : Nat} {q : RQ} {x y : WQ} {locL j n : Nat} {K : AHeap} {B : Int} {s : List Bool} {l : List AWord} {C : Code} {fr : Fr} {σ : List AObj} (h : AWk Try.prog 282 C (PQ dos locH q x y locL n j K s l) fr σ) (ok : K.Ok B) (lv : LiveOk K) (h0 : 0 ≤ B) (h1 : B ≤ 100000 * (j : Int)) (hn : l.length = n) (hn2 : n ≤ j) (hs : s.length ≤ j) (hj : j ≤ dos.length) : AWk Try.prog 282 C (TQ12 dos locH q x y locL j) fr σ :=
  h.mono fun e fr σ ⟨a, vL, b, m⟩ => ⟨a, _, b, vL, n, B, K, s, l, rfl, m, ok, lv, h0, h1, hn, hn2, hs, hj⟩
noncomputable def plays14 : Option Code := match Try.f12.body with
  | some c => findW 14 c
  | none => none
set_option maxRecDepth 100000 in
set_option maxHeartbeats 16000000 in
theorem plays_loop {dos : List ADo} {r : Int} (hr0 : 0 ≤ r) (hr1 : r ≤ 100000) (hlow : ∀ x ∈ dos, x.low) (hlight : Light dos) {locH : Nat} {q : RQ} {x y : WQ} {σ : List AObj} (hH : σ[locH]? = some (ho (.new r))) (hQ : RHeap σ q (.new r)) (hx : PW σ x []) (hy : RW σ y []) (nq : NotQ q locH) (nx : NotW x locH) (ny : NotW y locH) (qx : Apart q x) (qy : Apart q y) (xy : NotW y x.p ∧ NotW y x.h ∧ NotW y x.t) {X : Code} (hX : plays14 = some X) :
    AWk Try.prog 282 X (retQB tab Try.f12 (fun v x => ∃ d, v = AV.d d ∧ d = DV.v (Value.bool true))) [(1, .d (.lst 14 (dosR dos))), (5, .ptr locH 0 0), (7, .ptr q.p 0 0), (9, .ptr x.p 0 0), (11, .ptr y.p 0 0), (13, .d .nil)] σ := by
  have e1 := dosR_len dos
  have hll := hlight.len
  refine w_adoptF 13 36 4 rfl ?_
  intro locL σ hc
  have hL := hc.at'
  have la : Lay locH q x y locL := ⟨nq, nx, ny, hc.ne hH, qx, qy, hQ.fr hc, xy, hx.fr hc, hy.fr hc⟩
  have hm : Mem locH q x y locL 0 σ (.new r) (.new r) [] [] [] := ⟨hc.keep hH, hQ.fresh hc, hx.fresh hc, hy.fresh hc, hL⟩
  clear hc hH hQ hx hy nq nx ny qx qy xy hL
  cases hX
  repeat' (first | refine s_op rfl ?_ | (apply s_move; (iterate 4 (exact rfl))) | (apply s_len tab_ok; (iterate 5 (exact rfl))) | refine al_nil ?_ | refine q_then_n ?_ | refine aw_block ?_ | refine aw_seq ?_ | refine aw_reg ?_)
  refine w_loop [5, 7, 9, 11, 13, 78, 79, 80] (fun n' vs' σ => ∃ j : Nat, TI12 dos locH q x y locL j vs' σ ∧ n' = dos.length - j) rfl ⟨0, ⟨0, 0, 0, .new r, [], [], rfl, hm, AHeap.new_ok r hr0 hr1 0, live_new r, by omega, by omega, rfl, by omega, by simp, by omega⟩, rfl⟩ ?_
  clear hm
  rintro n' vs' σ ⟨j, ⟨vL, n, B, H, s, l, rfl, hm, ok, lv, hB0, hB1, hn, hnj, hsj, hj⟩, rfl⟩ fr hfr
  cases hfr
  have hsl := ok_slots ok
  by_cases hlt : j < dos.length
  · obtain ⟨o, ho'⟩ := getS hlt
    have hxl := (hlow o (List.mem_of_getElem? ho')).v
    obtain ⟨hxm, hxc⟩ := hlight.all o (List.mem_of_getElem? ho')
    have hr := dosR_get ho'
    refine AWk.mono (Q := TQ12 dos locH q x y locL (j + 1)) ?_ (fun e fr' σ' h => by
      obtain ⟨h1, vs', h2, h3⟩ := h
      subst h1
      exact ⟨_, vs', h2, by omega, j + 1, h3, rfl⟩)
    have c59 := fun (σ : List AObj) (hL : σ[locL]? = some (AObj.arr 36 4 vL (wordsR l))) => meant59 hL hn (by omega) o
    have c69 := fun (σ : List AObj) h1 h2 h3 h4 => alike69 (σ0 := σ) (locH := locH) (q := q) (x := x) (y := y) (hs := s) ok h1 h2 h3 h4 (by omega)
    generalize meantW l o = mw at c59
    obtain ⟨xk, xn, ⟨ck, cn, cw⟩, ⟨vk, vn, vs, vl⟩, ⟨wk, wn, ws, wg⟩, raw⟩ := o
    obtain ⟨mk, mn, ms, mg⟩ := mw
    replace hxl : Val.low (.mk vk vn vs vl) := hxl
    replace hxm : massV (.mk vk vn vs vl) ≤ 4000 := hxm
    replace hxc : cw.length ≤ 4000 := hxc
    have hn2 : n ≤ 1000000 := by omega
    by_cases h0 : xk = 0
    · subst h0
      have c60 := fun (σ : List AObj) (hL : σ[locL]? = some (AObj.arr 36 4 vL (wordsR l))) => filled60 hL hn hn2 ⟨ck, cn, cw⟩ hxc
      have hcl : (filledC l ⟨ck, cn, cw⟩).ws.length ≤ 4000 := by show (cw.map (fillW l)).length ≤ 4000; rw [List.length_map]; exact hxc
      have a1 := fun (σ : List AObj) hH => alloc_m ok (filledC l ⟨ck, cn, cw⟩) (by unfold maxLen; omega) σ locH hH
      have a2 := fun (σ : List AObj) h => alloc_q (σ := σ) (q := q) h ok (filledC l ⟨ck, cn, cw⟩) (by omega)
      have ok2 := alloc_Ok ok hB0 (filledC l ⟨ck, cn, cw⟩)
      have lv2 := lv.alloc (filledC l ⟨ck, cn, cw⟩)
      generalize H.alloc (filledC l ⟨ck, cn, cw⟩) = M at *
      obtain ⟨⟨⟨yk, yn, ys, yg⟩, e⟩, K⟩ := M
      have c69' := fun (σ : List AObj) h1 h2 h3 h4 => alike69 (σ0 := σ) (locH := locH) (q := q) (x := x) (y := y) (hs := s) ok2 h1 h2 h3 h4 (by omega)
      exact tq12 (play_k0 (xk := 0) la hm hn hn2 hll hlt hr c59 c69' c60 a1 a2 rfl) ok2 lv2 hB0 (by omega) (by simp; omega) (by omega) (by omega) (by omega)
    by_cases h1 : xk = 1
    · subst h1
      have b1 := fun (σ : List AObj) hH => build_m hxl (by omega) ok hB0 σ locH hH
      have b2 := fun (σ : List AObj) h => build61 (σ := σ) (q := q) ok hB0 (Val.low_kok _ hxl) (by omega) h
      have ok2 := buildM_Ok ok hB0 (.mk vk vn vs vl)
      have lv2 := lv.buildM (.mk vk vn vs vl)
      generalize buildM H (.mk vk vn vs vl) = M at *
      obtain ⟨⟨⟨yk, yn, ys, yg⟩, e⟩, K⟩ := M
      have c69' := fun (σ : List AObj) h1 h2 h3 h4 => alike69 (σ0 := σ) (locH := locH) (q := q) (x := x) (y := y) (hs := s) ok2 h1 h2 h3 h4 (by omega)
      exact tq12 (play_k1 (xk := 0) la hm hn hn2 hll hlt hr c59 c69' b1 b2 rfl) ok2 lv2 hB0 (by omega) (by simp; omega) (by omega) (by omega) (by omega)
    by_cases h2 : xk = 2
    · subst h2
      have b1 := fun (σ : List AObj) hH => build_m hxl (by omega) ok hB0 σ locH hH
      have b2 := fun (σ : List AObj) h => build61 (σ := σ) (q := q) ok hB0 (Val.low_kok _ hxl) (by omega) h
      have ok0 := buildM_Ok ok hB0 (.mk vk vn vs vl)
      have lv0 := lv.buildM (.mk vk vn vs vl)
      generalize buildM H (.mk vk vn vs vl) = M0 at *
      obtain ⟨⟨⟨zk, zn, zs, zg⟩, f⟩, K0⟩ := M0
      replace ok0 : K0.Ok B := ok0
      replace lv0 : LiveOk K0 := lv0
      have hsl0 := ok_slots ok0
      have hf0 : K0.slots.length + 1 ≤ 10000000 := by omega
      have p1 := fun (σ : List AObj) hH => copy_m (w := ⟨mk, mn, ms, mg⟩) (f := 10000000) ok0 hB0 lv0 hf0 (walked_km ok0 lv0 hf0) σ locH hH
      have p2 := fun (σ : List AObj) h => copy62 (σ := σ) (q := q) (f := 10000000) ok0 hB0 lv0 hf0 ⟨mk, mn, ms, mg⟩ (walked_km ok0 lv0 hf0) h
      have ok2 := copyM_Ok ok0 hB0 10000000 ⟨mk, mn, ms, mg⟩
      have lv2 := lv0.copyM 10000000 ⟨mk, mn, ms, mg⟩
      generalize copyM K0 10000000 ⟨mk, mn, ms, mg⟩ = M at *
      obtain ⟨⟨⟨yk, yn, ys, yg⟩, e⟩, K⟩ := M
      have c69' := fun (σ : List AObj) h1 h2 h3 h4 => alike69 (σ0 := σ) (locH := locH) (q := q) (x := x) (y := y) (hs := s) ok2 h1 h2 h3 h4 (by omega)
      exact tq12 (play_k2 (xk := 0) la hm hn hn2 hll hlt hr c59 c69' b1 b2 p1 p2 rfl) ok2 lv2 hB0 (by omega) (by simp; omega) (by omega) (by omega) (by omega)
    have hf : H.slots.length + 1 ≤ 10000000 := by omega
    by_cases h3 : xk = 3
    · subst h3
      have hN : (reachM H 10000000 [⟨mk, mn, ms, mg⟩]).2 = 0 → B + dropN 10000000 H ⟨mk, mn, ms, mg⟩ < 1000000000 ∧ fuelOk 10000000 H ⟨mk, mn, ms, mg⟩ := fun h => by
        obtain ⟨g1, g2⟩ := walked_drop ok lv (Nat.le_refl _) h
        exact ⟨by omega, g2⟩
      have d1 := fun (σ : List AObj) hH hp => drop50 (σ := σ) (locH := locH) (z := x) (hs := s) ok lv hf hH hp (by omega) la.hx hN
      have d2 := fun (σ : List AObj) h hz => drop63 (σ := σ) (q := q) (z := y) (hs := s) ok hf h hz (by omega) la.qy hN
      have ok2 := dropM_Ok ok lv (Nat.le_refl 10000000) ⟨mk, mn, ms, mg⟩
      have lv2 := lv.dropM 10000000 ⟨mk, mn, ms, mg⟩
      have sl2 := dropH_len H 10000000 s ⟨mk, mn, ms, mg⟩
      clear hN
      generalize dropM H 10000000 ⟨mk, mn, ms, mg⟩ = M at *
      generalize dropH H 10000000 s ⟨mk, mn, ms, mg⟩ = s' at *
      obtain ⟨e, K⟩ := M
      have c69' := fun (σ : List AObj) h1 h2 h3 h4 => alike69 (σ0 := σ) (locH := locH) (q := q) (x := x) (y := y) (hs := s') ok2 h1 h2 h3 h4 (by omega)
      exact tq12 (play_k3 (xk := 0) la hm hn hn2 hll hlt hr c59 c69' d1 d2 rfl) ok2 lv2 (by omega) (by omega) hn (by omega) (by omega) (by omega)
    by_cases h4 : xk = 4
    · subst h4
      have v1 := fun (σ : List AObj) hH => value_m ok lv hf ⟨mk, mn, ms, mg⟩ σ locH hH
      have v2 := fun (σ : List AObj) h => value64 (σ := σ) (q := q) ok lv hf ⟨mk, mn, ms, mg⟩ h
      have z1 := fun (σ : List AObj) hH => size_m ok lv hf ⟨mk, mn, ms, mg⟩ σ locH hH
      have z2 := fun (σ : List AObj) h => reach65 (σ0 := σ) (q := q) ok hf [⟨mk, mn, ms, mg⟩] (by simp) h
      have hvm : massV (valueM H 10000000 ⟨mk, mn, ms, mg⟩).1 ≤ 1000000000 := by
        unfold valueM
        split
        · rename_i h
          obtain ⟨S, _, _, _, g, _⟩ := walked ok lv hf h
          exact Nat.le_trans g (by omega)
        · simp [massV, massVL]
      have h51 := same51_m _ hvm
      clear hvm
      generalize valueM H 10000000 ⟨mk, mn, ms, mg⟩ = M at *
      generalize reachM H 10000000 [⟨mk, mn, ms, mg⟩] = N at *
      obtain ⟨⟨pk, pn, ps, pl⟩, e⟩ := M
      obtain ⟨c, f⟩ := N
      exact tq12 (play_k4 (xk := 0) la hm hn hn2 hll hlt hr c59 c69 v1 v2 z1 z2 h51 rfl) ok lv hB0 (by omega) hn (by omega) (by omega) (by omega)
    by_cases h5 : xk = 5
    · subst h5
      by_cases hz : newestN l xn = 0
      · have c66 := fun (σ : List AObj) (hL : σ[locL]? = some (AObj.arr 36 4 vL (wordsR l))) => newest66_0 hL hn hn2 hz
        have z1 := fun (σ : List AObj) hH => reach_m ok lv hf [] (by simp) σ locH hH
        have z2 := fun (σ : List AObj) h => reach65 (σ0 := σ) (q := q) ok hf [] (by simp) h
        generalize reachM H 10000000 [] = N at *
        obtain ⟨c, f⟩ := N
        exact tq12 (play_k5a (xk := 0) la hm hn hn2 hll hlt hr c59 c69 c66 z1 z2 rfl) ok lv hB0 (by omega) hn (by omega) (by omega) (by omega)
      · have hkl := newestN_le l xn
        have c66 := fun (σ : List AObj) (hL : σ[locL]? = some (AObj.arr 36 4 vL (wordsR l))) => newest66_1 hL hn hn2 hz
        generalize newestN l xn = k at *
        have hlen : (l.drop (n - k)).length = k := by rw [List.length_drop]; omega
        have z1 := fun (σ : List AObj) hH hL => reach48o (σ := σ) (locH := locH) (locL := locL) (vL := vL) ok lv.cells hH hL rfl hlen (by omega) (walks_fine H hf _ _)
        have z2 := fun (σ : List AObj) h hL => reach65o (σ0 := σ) (q := q) (locL := locL) (vL := vL) ok hf (by omega) h hL rfl hlen
        generalize reachM H 10000000 (l.drop (n - k)) = N at *
        obtain ⟨c, f⟩ := N
        exact tq12 (play_k5b (xk := 0) la hm hn hn2 hll hlt hr c59 c69 c66 z1 z2 rfl) ok lv hB0 (by omega) hn (by omega) (by omega) (by omega)
    by_cases h6 : xk = 6
    · subst h6
      have o1 := fun (σ : List AObj) hp => open67 (σ := σ) (q := x) (hs := s) hp (by omega)
      have o2 := fun (σ : List AObj) hp => open68 (σ := σ) (q := y) (hs := s) hp (by omega)
      have sl2 : (s ++ [false]).length = s.length + 1 := by simp
      have c69' := fun (σ : List AObj) h1 h2 h3 h4 => alike69 (σ0 := σ) (locH := locH) (q := q) (x := x) (y := y) (hs := s ++ [false]) ok h1 h2 h3 h4 (by omega)
      exact tq12 (play_k6 (xk := 0) la hm hn hn2 hll hlt hr c59 c69' o1 o2 rfl) ok lv hB0 (by omega) (by simp; omega) (by omega) (by omega) (by omega)
    exact tq12 (play_kelse la hm hn hn2 hll hlt hr c59 c69 h0 h1 h2 h3 h4 h5 h6 rfl) ok lv hB0 (by omega) hn (by omega) (by omega) (by omega)
  · repeat' (first | refine s_op rfl ?_ | (apply s_assign; (iterate 4 (exact rfl))) | (apply s_lss_f; (iterate 5 (exact rfl)); omega) | refine al_nil ?_ | refine q_then_n ?_ | refine q_blk_e ?_ | refine q_then_e ?_ | refine aw_exit ?_ | refine aw_seq ?_ | refine aw_reg ?_ | refine aw_false rfl ?_ | refine aw_ret ?_)
    all_goals exact q_retB (resB_1 rfl (resV_t rfl)) ⟨_, rfl, rfl⟩
end Go.Proofs.Ytciciaikajdenaa
/- T34: CellPlays: the heads. -/
set_option linter.unusedSimpArgs false
set_option linter.unusedVariables false
namespace Go.Proofs.Ytciciaikajdenaa
open Go.RowKit

theorem OutP.ne {σ : List AObj} {a k : Nat} {ob : AObj} (o : OutP (fun _ => True) σ a) (h : σ[k]? = some ob) : k ≠ a := fun e => by subst e; exact o ob trivial h
set_option maxRecDepth 100000 in
set_option maxHeartbeats 16000000 in
theorem cellPlays_w (kn : Known) (l : List ADo) (r : Int) (hl : l.length ≤ 140737488355328) (hlow : ∀ x ∈ l, x.low) :
    RunsP Try.prog 12 [.v (.int .i64 r), .lst 14 (dosR l)] (fun v => v = .v (.bool true)) := by
  have hh := heavy_c52 l hl hlow
  have h57 := files57
  by_cases hr : 0 ≤ r ∧ r ≤ 100000
  · obtain ⟨hr0, hr1⟩ := hr
    have b0 : NewH r (.new r) := new_m hr0 hr1
    have q0 := fun (σ : List AObj) => new_q (σ := σ) hr0 hr1
    have x0 := fun (σ : List AObj) => new44 (σ0 := σ)
    have y0 := fun (σ : List AObj) => new58 (σ0 := σ)
    unfold Known NewH at *
    refine enterPB 282 tab_ok Try.func12 rfl (by kernel_rfl) rfl rfl rfl ?_
    repeat' (first | refine s_op rfl ?_ | (apply s_move; (iterate 4 (exact rfl))) | (apply s_assign; (iterate 4 (exact rfl))) | (apply s_pick_f; (iterate 5 (exact rfl))) | (apply s_ext; (iterate 5 (exact rfl))) | (apply s_not_t; (iterate 4 (exact rfl))) | (apply s_neq_f; (iterate 5 (exact rfl)); omega) | (refine w_keep [1, 5, 7, 9, 11, 13] rfl rfl ?_; exact plays_loop hr0 hr1 hlow (hb rfl) hH hQ hX hY nq nx ny qx qy xy rfl) | (apply s_callS; (iterate 6 (exact rfl)); exact kn _; rintro _ σ1 ⟨rfl, hk2⟩; clear hk2) | (apply s_call; (iterate 6 (exact rfl)); exact hh; rintro _ ⟨b, rfl, hb⟩; cases b) | (apply s_callS; (iterate 6 (exact rfl)); exact b0 _; rintro _ σ1 ⟨locH, rfl, hc⟩; have hH := hc.at'; clear hc) | (apply s_callS; (iterate 6 (exact rfl)); exact q0 _; rintro _ σ1 ⟨q, rfl, hQ, hk2, o1, o2, o3⟩; have nq : NotQ q locH := ⟨o1.ne hH, o2.ne hH, o3.ne hH⟩; replace hH := hk2 _ _ trivial hH; clear hk2 o1 o2 o3) | (apply s_callS; (iterate 6 (exact rfl)); exact x0 _; rintro _ σ1 ⟨x, rfl, hX, hk2, o1, o2, o3⟩; have nx : NotW x locH := ⟨o1.ne hH, o2.ne hH, o3.ne hH⟩; have qx : Apart q x := (by obtain ⟨_, _, _, a, b, c, _⟩ := hQ.at'; exact ⟨⟨o1.ne a, o2.ne a, o3.ne a⟩, ⟨o1.ne b, o2.ne b, o3.ne b⟩, ⟨o1.ne c, o2.ne c, o3.ne c⟩⟩); replace hH := hk2 _ _ trivial hH; replace hQ := hQ.keep hk2; clear hk2 o1 o2 o3) | (apply s_callS; (iterate 6 (exact rfl)); exact y0 _; rintro _ σ1 ⟨y, rfl, hY, hk2, o1, o2, o3⟩; have ny : NotW y locH := ⟨o1.ne hH, o2.ne hH, o3.ne hH⟩; have qy : Apart q y := (by obtain ⟨_, _, _, a, b, c, _⟩ := hQ.at'; exact ⟨⟨o1.ne a, o2.ne a, o3.ne a⟩, ⟨o1.ne b, o2.ne b, o3.ne b⟩, ⟨o1.ne c, o2.ne c, o3.ne c⟩⟩); have xy : NotW y x.p ∧ NotW y x.h ∧ NotW y x.t := (by obtain ⟨_, _, a, b, c⟩ := hX.at'; exact ⟨⟨o1.ne a, o2.ne a, o3.ne a⟩, ⟨o1.ne b, o2.ne b, o3.ne b⟩, ⟨o1.ne c, o2.ne c, o3.ne c⟩⟩); replace hH := hk2 _ _ trivial hH; replace hQ := hQ.keep hk2; replace hX := hX.keep hk2; clear hk2 o1 o2 o3) | (apply s_call; (iterate 6 (exact rfl)); first | (exact h57; rintro _ rfl)) | refine al_nil ?_ | refine q_then_n ?_ | refine q_then_r ?_ | refine aw_seq ?_ | refine aw_reg ?_ | refine aw_true rfl ?_ | refine aw_false rfl ?_ | refine aw_skip ?_ | refine aw_ret ?_)
    all_goals exact q_retB (resB_1 rfl (resV_t rfl)) ⟨_, rfl, rfl⟩
  · have b0 := fun σ => new_n (σ := σ) (room := r) (by omega)
    have q0 := fun (σ : List AObj) => new_qn (σ := σ) (r := r) (by omega)
    have x0 := fun (σ : List AObj) => new44 (σ0 := σ)
    have y0 := fun (σ : List AObj) => new58 (σ0 := σ)
    unfold Known at kn
    refine enterPB 282 tab_ok Try.func12 rfl (by kernel_rfl) rfl rfl rfl ?_
    repeat' (first | refine s_op rfl ?_ | (apply s_move; (iterate 4 (exact rfl))) | (apply s_assign; (iterate 4 (exact rfl))) | (apply s_pick_f; (iterate 5 (exact rfl))) | (apply s_ext; (iterate 5 (exact rfl))) | (apply s_not_t; (iterate 4 (exact rfl))) | (apply s_neq_t; (iterate 5 (exact rfl)); omega) | (apply s_neq_f; (iterate 5 (exact rfl)); omega) | (apply s_callS; (iterate 6 (exact rfl)); exact kn _; rintro _ σ1 ⟨rfl, hk2⟩; clear hk2) | (apply s_call; (iterate 6 (exact rfl)); exact hh; rintro _ ⟨b, rfl, hb⟩; cases b) | (apply s_callS; (iterate 6 (exact rfl)); exact b0 _; rintro _ σ1 ⟨rfl, rfl⟩) | (apply s_callS; (iterate 6 (exact rfl)); exact q0 _; rintro _ σ1 ⟨rfl, rfl⟩) | (apply s_callS; (iterate 6 (exact rfl)); exact x0 _; rintro _ σ1 ⟨x, rfl, hX, hk2, o1, o2, o3⟩; clear hX hk2 o1 o2 o3) | (apply s_callS; (iterate 6 (exact rfl)); exact y0 _; rintro _ σ1 ⟨y, rfl, hY, hk2, o1, o2, o3⟩; clear hY hk2 o1 o2 o3) | (apply s_call; (iterate 6 (exact rfl)); first | (exact h57; rintro _ rfl)) | refine al_nil ?_ | refine q_then_n ?_ | refine q_then_r ?_ | refine aw_seq ?_ | refine aw_reg ?_ | refine aw_true rfl ?_ | refine aw_false rfl ?_ | refine aw_skip ?_ | refine aw_ret ?_)
    all_goals exact q_retB (resB_1 rfl (resV_t rfl)) ⟨_, rfl, rfl⟩
end Go.Proofs.Ytciciaikajdenaa
/- T35: CellPlays. -/
set_option linter.unusedVariables false
namespace Go.Proofs.Ytciciaikajdenaa
open Go.RowKit

theorem cellPlays_c (l : List ADo) (r : Int) (hl : l.length ≤ 140737488355328) (hlow : ∀ x ∈ l, x.low) : RunsP Try.prog 12 [.v (.int .i64 r), .lst 14 (dosR l)] (fun v => v = .v (.bool true)) := cellPlays_w (fun σ => known_c) l r hl hlow
end Go.Proofs.Ytciciaikajdenaa
