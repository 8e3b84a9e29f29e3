/- N9: a building in the heap, as plain data. No program in sight. -/
import Derived.Test.YtciciaikajdenaaTPR12N8
import Derived.Test.YtciciaikajdenaaTPR12N5x2
set_option linter.unusedSimpArgs false
set_option linter.unusedVariables false
namespace Go.Proofs.Ytciciaikajdenaa
open Go.RowKit

section
variable {H : AHeap} {B : Int} {c : ACell}
theorem AHeap.give_room (H : AHeap) (c : ACell) : (H.give c).2.room = H.room := by
  unfold AHeap.give
  split <;> rfl
theorem AHeap.give_live (H : AHeap) (c : ACell) : (H.give c).2.live = H.live + 1 := by
  unfold AHeap.give AHeap.live
  cases hl : H.free.getLast? with
  | some i =>
    have hne : H.free ≠ [] := by intro e; rw [e] at hl; cases hl
    have : 1 ≤ H.free.length := by
      cases hf : H.free with
      | nil => exact absurd hf hne
      | cons a l => simp
    simp only [List.length_set, List.length_dropLast]
    omega
  | none =>
    simp only [List.length_append, List.length_singleton]
    omega
theorem AHeap.give_word (ok : H.Ok B) (c : ACell) : (H.give c).1.ok = true := by
  unfold AHeap.give
  cases hl : H.free.getLast? with
  | some i =>
    have hm := List.mem_of_getLast? hl
    have hi := (ok.dead i hm).1
    have hg := ok.gens _ (AHeap.slot_mem hi)
    simp only [cellWord, AWord.ok]
    have : (ByteArray.mk #[]).toList.isEmpty = true := by simp [ByteArray.toList_eq]
    simp [this, hg.1]
  | none =>
    simp only [cellWord, AWord.ok]
    have : (ByteArray.mk #[]).toList.isEmpty = true := by simp [ByteArray.toList_eq]
    simp [this]
theorem AHeap.alloc_give (hc : c.ok = true) (hr : H.live < H.room) : H.alloc c = (((H.give c).1, 0), (H.give c).2) := by
  unfold AHeap.alloc
  rw [if_neg (by rw [hc]; simp), if_neg (by omega)]
theorem ok_words {c : ACell} (hc : c.ok = true) : c.ws.length ≤ 64 := by
  unfold ACell.ok at hc
  simp only [Bool.and_eq_true, decide_eq_true_eq] at hc
  exact hc.1.2
end
/-- What a building keeps. -/
structure Built (B : Int) (H K : AHeap) (n : Nat) : Prop where
  ok : K.Ok B
  room : K.room = H.room
  live : K.live = H.live + n
theorem built_refl {B : Int} {H : AHeap} (ok : H.Ok B) : Built B H H 0 := ⟨ok, rfl, by simp⟩
theorem Built.trans {B : Int} {H K M : AHeap} {a b : Nat} (h : Built B H K a) (k : Built B K M b) : Built B H M (a + b) := ⟨k.ok, k.room.trans h.room, by rw [k.live, h.live]; omega⟩
theorem may_split {k n : Int} {s : ByteArray} {l : List Val} (h : mayV (.mk k n s l) = true) : headV k n s l.length = true ∧ mayL l = true := by
  simpa [mayV] using h
theorem con_ok {k n : Int} {s : ByteArray} {l : List Val} {ws : List AWord} (hk : ¬ k < 11) (h : headV k n s l.length = true) (hl : ws.length = l.length) (hw : ∀ w ∈ ws, w.ok = true) : (⟨k - 10, n, ws⟩ : ACell).ok = true := by
  rw [head_con hk] at h
  simp only [Bool.and_eq_true, decide_eq_true_eq] at h
  obtain ⟨_, _, h2, h3⟩ := h
  unfold ACell.ok at h2 ⊢
  simp only [Bool.and_eq_true, decide_eq_true_eq, List.all_eq_true] at h2 ⊢
  exact ⟨⟨h2.1.1, by show ws.length ≤ 64; omega⟩, hw⟩
mutual
theorem build_ok {B : Int} (hB : 0 ≤ B) : ∀ (v : Val) (H : AHeap), mayV v = true → H.Ok B → (cellsV v : Int) ≤ H.room - H.live → Built B H (buildF H v).2 (cellsV v) ∧ (buildF H v).1.ok = true
  | .mk k n s l, H, hm, ok, hr => by
    obtain ⟨h1, h2⟩ := may_split hm
    by_cases hk : k < 11
    · simp only [buildF, if_pos hk, cellsV]
      have hz : l.length = 0 ∧ (⟨k, n, s, 0⟩ : AWord).ok = true := by
        rw [head_leaf hk] at h1
        simp only [Bool.and_eq_true, beq_iff_eq] at h1
        exact ⟨h1.1, h1.2.2⟩
      rw [List.length_eq_zero_iff.1 hz.1, if_neg (by omega)]
      exact ⟨built_refl ok, hz.2⟩
    · simp only [cellsV, if_pos (show 10 < k by omega)] at hr ⊢
      obtain ⟨b1, b2⟩ := builds_ok hB l H h2 ok (by omega)
      have hlive := b1.live
      have hroom := b1.room
      have hc := con_ok hk h1 (buildsF_len l H) b2
      have hg : (buildsF H l).2.live < (buildsF H l).2.room := by omega
      simp only [buildF, if_neg hk]
      rw [AHeap.alloc_give hc hg]
      refine ⟨⟨b1.ok.give hB (ok_words hc) hg, ?_, ?_⟩, AHeap.give_word b1.ok _⟩
      · show ((buildsF H l).2.give _).2.room = _
        rw [AHeap.give_room, hroom]
      · show ((buildsF H l).2.give _).2.live = _
        rw [AHeap.give_live, hlive]
        omega
theorem builds_ok {B : Int} (hB : 0 ≤ B) : ∀ (l : List Val) (H : AHeap), mayL l = true → H.Ok B → (cellsL l : Int) ≤ H.room - H.live → Built B H (buildsF H l).2 (cellsL l) ∧ ∀ w ∈ (buildsF H l).1, w.ok = true
  | [], H, _, ok, _ => ⟨built_refl ok, fun w hw => by cases hw⟩
  | p :: l, H, hm, ok, hr => by
    simp only [mayL, Bool.and_eq_true] at hm
    simp only [cellsL] at hr
    obtain ⟨b1, b2⟩ := build_ok hB p H hm.1 ok (by omega)
    have hlive := b1.live
    have hroom := b1.room
    obtain ⟨d1, d2⟩ := builds_ok hB l (buildF H p).2 hm.2 b1.ok (by omega)
    simp only [buildsF, cellsL]
    exact ⟨b1.trans d1, fun w hw => by
      rcases List.mem_cons.1 hw with rfl | hw
      · exact b2
      · exact d2 w hw⟩
end
end Go.Proofs.Ytciciaikajdenaa
/- N6: package cell's value: the walk. -/
set_option linter.unusedSimpArgs false
set_option linter.unusedVariables false
namespace Go.Proofs.Ytciciaikajdenaa
open Go.RowKit

/-- What the walk of a word answers, of the program. -/
def ValP (H : AHeap) (locW locM locH : Nat) (r : Res Val) (σ : List AObj) : AV → List AObj → Prop := fun x σ' =>
  ∃ v come fl, r = .ok v come fl ∧ x = .d (.agg (valD v)) ∧ σ'[locW]? = some (walkO locH locM fl) ∧ σ'[locM]? = some (seenO come) ∧ KeptP (fun k => k ≠ locW ∧ k ≠ locM) σ σ'
def ValE (locW locM : Nat) (r : Res Val) (σ : List AObj) : Value → List AObj → Prop := fun pv σ' => ∃ e, r = .bad e ∧ pv = badV e ∧ KeptP (fun k => k ≠ locW ∧ k ≠ locM) σ σ'
/-- What the cells of a heap hold, as far as the walk asks. -/
def CellsOk (H : AHeap) : Prop := ∀ w, (H.get w).2 = 0 → 0 ≤ (H.get w).1.k ∧ (H.get w).1.k ≤ 245 ∧ (H.get w).1.ws.length ≤ 64
theorem get_err (H : AHeap) (w : AWord) : (H.get w).2 = (H.find w).1 := by
  unfold AHeap.get
  split
  · rename_i h; rw [h]
  · rfl
noncomputable def val8 : Option Code := match Try.f94.body with
  | some c => findW 8 c
  | none => none
where
  headW : Code → Option Nat
  | .region i _ _ => some i
  | .seq a _ => headW a
  | _ => none
  findW (n : Nat) : Code → Option Code
  | .seq a b => if headW a = some n then some (.seq a b) else match findW n a with
    | some c => some c
    | none => findW n b
  | .block _ c => findW n c
  | .cond _ a b => match findW n a with
    | some c => some c
    | none => findW n b
  | .loop c => findW n c
  | _ => none
theorem walksF_take {f : AWord → List Int → Bool → Res Val} : ∀ {ws : List AWord} {k : Nat} {w : AWord} {come : List Int} {fl : Bool} {vs : List Val} {c1 : List Int} {f1 : Bool}, ws[k]? = some w → walksF f (ws.take k) come fl = .ok vs c1 f1 →
    (∀ v c2 f2, f w c1 f1 = .ok v c2 f2 → walksF f (ws.take (k + 1)) come fl = .ok (vs ++ [v]) c2 f2) ∧ ∀ e, f w c1 f1 = .bad e → walksF f ws come fl = .bad e
  | [], k, w, come, fl, vs, c1, f1, h, _ => by simp at h
  | a :: ws, 0, w, come, fl, vs, c1, f1, h, h2 => by
    simp at h
    subst h
    simp only [List.take_zero, walksF, Res.ok.injEq] at h2
    obtain ⟨rfl, rfl, rfl⟩ := h2
    refine ⟨fun v c2 f2 h3 => ?_, fun e h3 => ?_⟩
    · simp [walksF, h3]
    · simp only [walksF, h3]
  | a :: ws, k + 1, w, come, fl, vs, c1, f1, h, h2 => by
    simp only [List.take_succ_cons, walksF] at h2
    cases ha : f a come fl with
    | bad e => rw [ha] at h2; cases h2
    | ok v0 c0 f0 =>
      rw [ha] at h2
      simp only at h2
      cases hb : walksF f (ws.take k) c0 f0 with
      | bad e => rw [hb] at h2; cases h2
      | ok vs0 c3 f3 =>
        rw [hb] at h2
        simp only [Res.ok.injEq] at h2
        obtain ⟨rfl, rfl, rfl⟩ := h2
        obtain ⟨i1, i2⟩ := walksF_take (f := f) (ws := ws) (k := k) (w := w) (by simpa using h) hb
        refine ⟨fun v c2 f2 h3 => ?_, fun e h3 => ?_⟩
        · simp only [List.take_succ_cons, walksF, ha, i1 v c2 f2 h3, List.cons_append]
        · simp only [walksF, ha, i2 e h3]
theorem KeptP.frz {p : Nat → Prop} {σ0 σ σ' : List AObj} {loc L : Nat} {t : TypeId} {c : List AV} (h : KeptP p σ0 σ) (n1 : OutP p σ0 loc) (n2 : OutP p σ0 L) (hc : FrzC σ loc t c L σ') : KeptP p σ0 σ' := fun k o hp e =>
  hc.keep' k o (h k o hp e) (fun q => by subst q; exact n1 o hp e) (fun q => by subst q; exact n2 o hp e)
section
variable {σ0 σ : List AObj} {locW locM locH locX locV : Nat} {H : AHeap} {come : List Int} {fl : Bool} {a b k n : Int} {ws : List AWord} {f : AWord → List Int → Bool → Res Val}
set_option maxRecDepth 100000 in
set_option maxHeartbeats 8000000 in
theorem value_kids {R : Res Val} (hR : R = match walksF f ws come fl with | .bad e => .bad e | .ok vs come fl => .ok (.mk k n ⟨#[]⟩ vs) come fl) (hn9 : R ≠ .bad 999) (hlen : ws.length ≤ 64)
    (hcall : ∀ (w : AWord) (come : List Int) (fl : Bool) (σ : List AObj), w ∈ ws → f w come fl ≠ .bad 999 → σ[locW]? = some (walkO locH locM fl) → σ[locM]? = some (seenO come) → σ[locH]? = some (ho H) → RunsX Try.prog 94 [.ptr locW 0 0, .d (.agg (wordD w))] σ (ValP H locW locM locH (f w come fl) σ) (ValE locW locM (f w come fl) σ))
    (nXW : locX ≠ locW) (nXM : locX ≠ locM) (nXV : locX ≠ locV) (nVW : locV ≠ locW) (nVM : locV ≠ locM) (nHW : locH ≠ locW) (nHM : locH ≠ locM) (nHX : locH ≠ locX) (nHV : locH ≠ locV) (nWM : locW ≠ locM)
    (oX : OutP (fun k => k ≠ locW ∧ k ≠ locM) σ0 locX) (oV : OutP (fun k => k ≠ locW ∧ k ≠ locM) σ0 locV)
    (hW : σ[locW]? = some (walkO locH locM fl)) (hM : σ[locM]? = some (seenO come)) (hH : σ[locH]? = some (ho H)) (hX : σ[locX]? = some (.row 66 [.d (.v (.int .u8 0)), .d (.v (.int .i64 0)), .d (.v (.string ⟨#[]⟩)), .d .nil])) (hV : σ[locV]? = some (.row 66 [.d (.v (.int .u8 k)), .d (.v (.int .i64 n)), .d (.v (.string ⟨#[]⟩)), .d .nil]))
    (hK : KeptP (fun k => k ≠ locW ∧ k ≠ locM) σ0 σ) {X : Code} (hc : val8 = some X) :
    AWk Try.prog 66 X (retX tab Try.f94 (ValP H locW locM locH R σ0) (ValE locW locM R σ0)) [(0, .ptr locW 0 0), (4, .ptr locX 0 0), (5, .d (.fptr (cellD ⟨a, b, ws⟩))), (6, .ptr locV 0 0)] σ := by
  have e1 := wordsR_len ws
  cases hc
  have key := fun {L : Nat} {c : List AV} {σ' : List AObj} => hK.adopt (t := 66) (L := L) (U := 66) (sz := 4) (c := c) (σ' := σ') oV
  repeat' (first | refine s_op rfl ?_ | (apply s_move; (iterate 4 (exact rfl))) | (apply s_fa_f tab_ok; (iterate 6 (exact rfl))) | (apply s_ld_f tab_ok; (iterate 6 (exact rfl))) | (apply s_len tab_ok; (iterate 5 (exact rfl))) | refine al_nil ?_ | refine q_then_n ?_ | refine aw_block ?_ | refine aw_seq ?_ | refine aw_reg ?_)
  refine w_adoptC locV 3 66 4 hV rfl ?_
  intro locL σ hc
  have hL := hc.arr
  have nWL := hc.fresh _ _ hW
  have nML := hc.fresh _ _ hM
  have nHL := hc.fresh _ _ hH
  have nXL := hc.fresh _ _ hX
  have nVL := hc.ne.symm
  replace hV := hc.row
  replace hW := hc.keep nVW.symm hW
  replace hM := hc.keep nVM.symm hM
  replace hH := hc.keep nHV hH
  replace hX := hc.keep nXV hX
  obtain ⟨hK, oL⟩ := key hc
  clear key hc
  refine w_loop [0, 4, 6, 50, 51, 52] (fun n' vs' σ => ∃ (j ver : Nat) (vsj : List Val) (cj : List Int) (fj : Bool), vs' = [.ptr locW 0 0, .ptr locX 0 0, .ptr locV 0 0, .d (.lst 4 (wordsR ws)), .d (.v (.int .i64 ((wordsR ws).length : Int))), .d (.v (.int .i64 (j : Int)))] ∧ walksF f (ws.take j) come fl = .ok vsj cj fj ∧ vsj.length = j ∧ σ[locW]? = some (walkO locH locM fj) ∧ σ[locM]? = some (seenO cj) ∧ σ[locH]? = some (ho H) ∧
    σ[locX]? = some (.row 66 [.d (.v (.int .u8 0)), .d (.v (.int .i64 0)), .d (.v (.string ⟨#[]⟩)), .d .nil]) ∧ σ[locV]? = some (.row 66 [.d (.v (.int .u8 k)), .d (.v (.int .i64 n)), .d (.v (.string ⟨#[]⟩)), .own locL ver 4 0 j]) ∧ σ[locL]? = some (.arr 66 4 ver (valR vsj)) ∧ KeptP (fun k => k ≠ locW ∧ k ≠ locM) σ0 σ ∧ j ≤ ws.length ∧ n' = ws.length - j) rfl ⟨0, 0, [], come, fl, rfl, rfl, rfl, hW, hM, hH, hX, hV, hL, hK, by omega, rfl⟩ ?_
  clear hW hM hH hX hV hL hK
  rintro n' vs' σ ⟨j, ver, vsj, cj, fj, rfl, hwalk, hvl, hW, hM, hH, hX, hV, hL, hK, hj, rfl⟩ fr hfr
  cases hfr
  have e2 := valR_len vsj
  by_cases hlt : j < ws.length
  · obtain ⟨w, hw⟩ := getS hlt
    obtain ⟨w1, w2⟩ := walksF_take hw hwalk
    have hne : f w cj fj ≠ .bad 999 := fun h => hn9 (by rw [hR, w2 _ h])
    have hc := fun σ h1 h2 h3 => hcall w cj fj σ (List.mem_of_getElem? hw) hne h1 h2 h3
    have hbad : ∀ e, f w cj fj = .bad e → R = .bad e := fun e h => by rw [hR, w2 _ h]
    clear hcall hR hn9 hwalk w2
    repeat' (first | refine s_op rfl ?_ | (apply s_move; (iterate 4 (exact rfl))) | (apply s_fa_p tab_ok; (iterate 5 (exact rfl))) | (apply s_ld_f tab_ok; (iterate 6 (exact rfl))) | (apply s_idx tab_ok; (iterate 7 (exact rfl)); (first | exact valR_get (by assumption) | exact wordsR_get (by assumption) | assumption)) | (apply s_lit1 tab_ok tabZ_ok; (iterate 9 (exact rfl)); (first | exact valD_len _)) | (apply s_lss_t; (iterate 5 (exact rfl)); omega) | (apply s_add64; (iterate 5 (exact rfl)); omega) | (apply s_allocF tabZ_ok (d := 8); (iterate 6 (exact rfl)); intro locZ σ hc; have hZ := hc.at'; have nWZ := hc.ne hW; replace hW := hc.keep hW; have nMZ := hc.ne hM; replace hM := hc.keep hM; have nHZ := hc.ne hH; replace hH := hc.keep hH; have nXZ := hc.ne hX; replace hX := hc.keep hX; have nVZ := hc.ne hV; replace hV := hc.keep hV; have nLZ := hc.ne hL; replace hL := hc.keep hL; have oZ := hK.out hc; replace hK := hK.fresh hc; clear hc) | (apply s_storeF tab_ok; (iterate 7 (exact rfl)); exact hZ; (iterate 2 (exact rfl)); intro σ hc; replace hZ := hc.at'; replace hW := hc.keep (by first | assumption | (apply Ne.symm; assumption) | omega) hW; replace hM := hc.keep (by first | assumption | (apply Ne.symm; assumption) | omega) hM; replace hH := hc.keep (by first | assumption | (apply Ne.symm; assumption) | omega) hH; replace hX := hc.keep (by first | assumption | (apply Ne.symm; assumption) | omega) hX; replace hV := hc.keep (by first | assumption | (apply Ne.symm; assumption) | omega) hV; replace hL := hc.keep (by first | assumption | (apply Ne.symm; assumption) | omega) hL; replace hK := hK.chg oZ hc; clear hc) | (apply s_ldF tab_ok; (iterate 5 (exact rfl)); exact hZ; exact rfl) | (apply s_ldF tab_ok; (iterate 5 (exact rfl)); exact hV; exact rfl) | (apply s_callX; (iterate 6 (exact rfl)); exact hc _ hW hM hH; rotate_left; rintro _ σ ⟨e, he, rfl, hk2⟩; (repeat (first | refine q_then_p ?_ | refine q_blk_p ?_)); exact q_panX ⟨e, hbad e he, rfl, hK.trans hk2⟩; rintro _ σ ⟨v, c2, f2, hf, rfl, hW2, hM2, hk2⟩; replace hX := hk2 _ _ ⟨nXW, nXM⟩ hX; replace hV := hk2 _ _ ⟨nVW, nVM⟩ hV; replace hL := hk2 _ _ ⟨nWL.symm, nML.symm⟩ hL; replace hH := hk2 _ _ ⟨nHW, nHM⟩ hH; replace hW := hW2; replace hM := hM2; replace hK := hK.trans hk2; clear hW2 hM2 hk2 hZ) | (apply s_appF tab_ok tabZ_ok (d := 62) (rows2 := [valD v]) (rows3 := valR (vsj ++ [v])) (m := j + 1); (iterate 10 (exact rfl)); exact hL; exact src_of (Tab.slIs tab_ok (t := 64) rfl) (rows_d rfl); (rw [valR_append]; rfl); (refine ⟨?_, ?_, ?_⟩ <;> first | omega | (simp only [List.length_cons, List.length_nil] <;> omega)); intro σ hc; replace hL := hc.at'; replace hW := hc.keep (by first | assumption | (apply Ne.symm; assumption) | omega) hW; replace hM := hc.keep (by first | assumption | (apply Ne.symm; assumption) | omega) hM; replace hH := hc.keep (by first | assumption | (apply Ne.symm; assumption) | omega) hH; replace hX := hc.keep (by first | assumption | (apply Ne.symm; assumption) | omega) hX; replace hV := hc.keep (by first | assumption | (apply Ne.symm; assumption) | omega) hV; replace hK := hK.chg oL hc; clear hc) | (apply s_storeF tab_ok; (iterate 7 (exact rfl)); exact hV; (iterate 2 (exact rfl)); intro σ hc; replace hV := hc.at'; replace hW := hc.keep (by first | assumption | (apply Ne.symm; assumption) | omega) hW; replace hM := hc.keep (by first | assumption | (apply Ne.symm; assumption) | omega) hM; replace hH := hc.keep (by first | assumption | (apply Ne.symm; assumption) | omega) hH; replace hX := hc.keep (by first | assumption | (apply Ne.symm; assumption) | omega) hX; replace hL := hc.keep (by first | assumption | (apply Ne.symm; assumption) | omega) hL; replace hK := hK.chg oV hc; clear hc) | refine al_nil ?_ | refine q_then_n ?_ | refine q_blk_n ?_ | refine aw_block ?_ | refine aw_seq ?_ | refine aw_reg ?_ | refine aw_true rfl ?_ | refine aw_skip ?_ | refine al_fork ?_ ?_ | refine aw_draws (id := 11) (trO [0, 2, 3] (.fork 1 (trO [4, 5, 6, 7, 8] .nil) 4 (.fork 1 (trO [5, 6, 7, 8] .nil) 5 (trO [1, 6, 7, 8] .nil)))) [1, 4, 5, 6, 8] [4, 6, 8] mixed_ok (by kernel_rfl) ?_)
    all_goals exact ⟨_, _, rfl, by omega, j + 1, _, vsj ++ [v], c2, f2, rfl, w1 v c2 f2 hf, by simp [hvl], hW, hM, hH, hX, hV, hL, hK, by omega, rfl⟩
  · have hjl : j = ws.length := by omega
    rw [List.take_of_length_le (by omega)] at hwalk
    have hRok : R = .ok (.mk k n ⟨#[]⟩ vsj) cj fj := by rw [hR, hwalk]
    clear hR hcall hn9
    repeat' (first | refine s_op rfl ?_ | (apply s_lss_f; (iterate 5 (exact rfl)); omega) | (refine w_freezeC locV 3 hV rfl hL (by omega) ?_; intro σ hc; replace hK := hK.frz oV oL hc; replace hV := hc.row; replace hW := hc.keep' _ _ hW nVW.symm nWL; replace hM := hc.keep' _ _ hM nVM.symm nML; replace hX := hc.keep' _ _ hX nXV nXL; clear hc hL) | (apply s_ldF tab_ok; (iterate 5 (exact rfl)); exact hV; exact rfl) | (apply s_storeF tab_ok; (iterate 7 (exact rfl)); exact hX; (iterate 2 (exact rfl)); intro σ hc; replace hX := hc.at'; replace hW := hc.keep (by first | assumption | (apply Ne.symm; assumption) | omega) hW; replace hM := hc.keep (by first | assumption | (apply Ne.symm; assumption) | omega) hM; replace hV := hc.keep (by first | assumption | (apply Ne.symm; assumption) | omega) hV; replace hK := hK.chg oX hc; clear hc) | refine al_nil ?_ | refine q_then_n ?_ | refine q_blk_e ?_ | refine q_then_e ?_ | refine aw_exit ?_ | refine aw_seq ?_ | refine aw_reg ?_ | refine aw_false rfl ?_ | refine aw_ret ?_)
    all_goals exact q_retX (resB_1 rfl (resV_c (t := 66) rfl rfl hX rfl)) ⟨_, _, _, hRok, rfl, hW, hM, hK⟩
end
end Go.Proofs.Ytciciaikajdenaa
