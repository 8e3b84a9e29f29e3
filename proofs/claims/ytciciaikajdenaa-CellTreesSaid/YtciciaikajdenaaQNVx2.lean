/- NV: CellTrees' plain law. No program in sight. -/
import Derived.Test.YtciciaikajdenaaQNB
set_option linter.unusedSimpArgs false
set_option linter.unusedVariables false
namespace Go.Proofs.Ytciciaikajdenaa
open Go.RowKit

theorem HoldsL.append {H : AHeap} : ∀ {l m : List Val} {ws us : List AWord} {S T : List Nat}, HoldsL H l ws S → HoldsL H m us T → HoldsL H (l ++ m) (ws ++ us) (S ++ T)
  | [], m, ws, us, S, T, ⟨h1, h2⟩, k => by subst h1 h2; exact k
  | v :: l, m, ws, us, S, T, ⟨w, ws', S1, S2, e1, e2, h1, h2⟩, k => by
    subst e1 e2
    exact ⟨w, ws' ++ us, S1, S2 ++ T, rfl, by rw [List.append_assoc], h1, h2.append k⟩
theorem HoldsL.len {H : AHeap} : ∀ {l : List Val} {ws : List AWord} {S : List Nat}, HoldsL H l ws S → ws.length = l.length
  | [], ws, S, ⟨h1, h2⟩ => by subst h1; rfl
  | v :: l, ws, S, ⟨w, ws', S1, S2, e1, e2, h1, h2⟩ => by subst e1; simp [h2.len]
theorem HoldsL.at {H : AHeap} : ∀ {l : List Val} {ws : List AWord} {S : List Nat} {i : Nat} {v : Val} {w : AWord}, HoldsL H l ws S → l[i]? = some v → ws[i]? = some w → ∃ S1 Si S2, S = S1 ++ (Si ++ S2) ∧ Holds H v w Si ∧ HoldsL H (l.take i ++ l.drop (i + 1)) (ws.take i ++ ws.drop (i + 1)) (S1 ++ S2)
  | [], ws, S, i, v, w, h, e, _ => by simp at e
  | a :: l, ws, S, 0, v, w, ⟨u, ws', S1, S2, e1, e2, h1, h2⟩, e, e' => by
    subst e1 e2
    simp at e e'
    subst e e'
    exact ⟨[], S1, S2, rfl, h1, by simpa using h2⟩
  | a :: l, ws, S, i + 1, v, w, ⟨u, ws', S1, S2, e1, e2, h1, h2⟩, e, e' => by
    subst e1 e2
    obtain ⟨T1, Ti, T2, q1, q2, q3⟩ := h2.at (i := i) (by simpa using e) (by simpa using e')
    subst q1
    refine ⟨S1 ++ T1, Ti, T2, by simp, q2, ?_⟩
    simp only [List.take_succ_cons, List.drop_succ_cons, List.cons_append, List.append_assoc]
    exact ⟨u, _, S1, T1 ++ T2, rfl, rfl, h1, q3⟩
theorem massVL_le {l : List Val} {m : Nat} (h : ∀ v ∈ l, massV v ≤ m) : massVL l ≤ l.length * m := by
  induction l with
  | nil => simp [massVL]
  | cons a l ih =>
    have h1 := h a (by simp)
    have h2 := ih fun v hv => h v (by simp [hv])
    simp only [massVL, List.length_cons, Nat.add_mul]
    omega
/-- What is owned. -/
structure TInv (r B : Int) (H : AHeap) (own : List AWord) (has : List Val) : Prop where
  ok : H.Ok B
  live : LiveOk H
  room : H.room = r
  hold : ∃ S, HoldsL H has own S ∧ S.Nodup ∧ (S.length : Int) = H.live
  vals : ∀ v ∈ has, mayV v = true ∧ v.low ∧ massV v ≤ 4000
theorem tinv_new {r : Int} (h0 : 0 ≤ r) (h1 : r ≤ 100000) : TInv r 0 (.new r) [] [] :=
  ⟨AHeap.new_ok r h0 h1 0, live_new r, rfl, ⟨[], ⟨rfl, rfl⟩, List.nodup_nil, by rw [live_of_new]; rfl⟩, fun v hv => by cases hv⟩
section
variable {r B : Int} {H : AHeap} {own : List AWord} {has : List Val}
theorem TInv.len (t : TInv r B H own has) : own.length = has.length := by
  obtain ⟨S, h, _⟩ := t.hold
  exact h.len
theorem TInv.slots (t : TInv r B H own has) : H.slots.length ≤ 100000 := by
  have h1 := t.ok.few
  have h2 := t.ok.room1
  omega
theorem TInv.build (t : TInv r B H own has) (hB : 0 ≤ B) {v : Val} (hv : v.low) (hm : massV v ≤ 4000) : ((buildM H v).1.2 = 0 → TInv r B (buildM H v).2 (own ++ [(buildM H v).1.1]) (has ++ [v])) ∧ ((buildM H v).1.2 ≠ 0 → (buildM H v).1.1 = .zero ∧ (buildM H v).2 = H) ∧ (mayV v = true → (buildM H v).1.2 = 0 ∨ (buildM H v).1.2 = 7) := by
  have hmk : makeE H v = 0 ∨ (makeE H v = 2 ∧ mayV v = false) ∨ makeE H v = 7 := by
    unfold makeE
    split
    · rename_i h; exact .inr (.inl ⟨rfl, h⟩)
    · split
      · exact .inr (.inr rfl)
      · exact .inl rfl
  unfold buildM
  rcases hmk with e | ⟨e, hmay⟩ | e
  · rw [if_pos e]
    have hmay : mayV v = true := by
      unfold makeE at e
      split at e
      · cases e
      · rename_i h; simpa using h
    have hr : (cellsV v : Int) ≤ H.room - H.live := by
      unfold makeE at e
      rw [if_neg (by rw [hmay]; simp)] at e
      split at e
      · cases e
      · omega
    refine ⟨fun _ => ?_, fun h => absurd rfl h, fun _ => .inl rfl⟩
    obtain ⟨b, _⟩ := build_ok hB v H hmay t.ok hr
    obtain ⟨g, T, h1, h2, h3⟩ := build_holds hB v H hmay t.ok hr
    obtain ⟨S, k1, k2, k3⟩ := t.hold
    refine ⟨b.ok, LiveOk.buildF v H t.live, b.room.trans t.room, ⟨S ++ T, (k1.grown g).append h1.one, List.nodup_append.2 ⟨k2, h2, fun a ha b hb e => ?_⟩, ?_⟩, fun u hu => ?_⟩
    · subst e
      exact h3 a hb (k1.alive a ha)
    · have := b.live
      have := h1.count
      rw [List.length_append]
      show _ = (buildF H v).2.live
      omega
    · rcases List.mem_append.1 hu with hu | hu
      · exact t.vals u hu
      · simp at hu; subst hu; exact ⟨hmay, hv, hm⟩
  · rw [if_neg (by rw [e]; decide)]
    exact ⟨fun h => (by replace h : makeE H v = 0 := h; omega), fun _ => ⟨rfl, rfl⟩, fun h => (by rw [hmay] at h; cases h)⟩
  · rw [if_neg (by rw [e]; decide)]
    exact ⟨fun h => (by replace h : makeE H v = 0 := h; omega), fun _ => ⟨rfl, rfl⟩, fun _ => .inr e⟩
theorem TInv.one (t : TInv r B H own has) {i : Nat} {v : Val} {w : AWord} (hv : has[i]? = some v) (hw : own[i]? = some w) : ∃ S, Holds H v w S ∧ S.Nodup := by
  obtain ⟨S, h, hn, _⟩ := t.hold
  obtain ⟨S1, Si, S2, e, h1, _⟩ := h.at hv hw
  subst e
  exact ⟨Si, h1, (List.nodup_append.1 (List.nodup_append.1 hn).2.1).1⟩
theorem TInv.copy (t : TInv r B H own has) (hB : 0 ≤ B) {i : Nat} {v : Val} {w : AWord} (hv : has[i]? = some v) (hw : own[i]? = some w) :
    ((copyM H 1000000 w).1.2 = 0 → TInv r B (copyM H 1000000 w).2 (own ++ [(copyM H 1000000 w).1.1]) (has ++ [v])) ∧ ((copyM H 1000000 w).1.2 ≠ 0 → (copyM H 1000000 w).2 = H ∧ ((copyM H 1000000 w).1.2 = 7 ∨ (copyM H 1000000 w).1.2 = 240)) ∧ ∃ come fl, walkF H 1000000 w [] false = .ok v come fl := by
  obtain ⟨m1, m2, m3⟩ := t.vals v (List.mem_of_getElem? hv)
  obtain ⟨S, h, hn⟩ := t.one hv hw
  rw [h.copyM t.ok hn (by omega)]
  obtain ⟨b1, b2, b3⟩ := t.build hB m2 m3
  refine ⟨fun h0 => ?_, fun h0 => ?_, _, _, h.value t.ok hn (by omega)⟩
  · by_cases hf : filesV v = true
    · rw [if_pos hf] at h0; cases h0
    · rw [if_neg hf] at h0 ⊢; exact b1 h0
  · by_cases hf : filesV v = true
    · rw [if_pos hf]; exact ⟨rfl, .inr rfl⟩
    · rw [if_neg hf] at h0 ⊢; exact ⟨(b2 h0).2, .inl ((b3 m1).resolve_left h0)⟩
theorem TInv.drop (t : TInv r B H own has) {i : Nat} {v : Val} {w : AWord} (hv : has[i]? = some v) (hw : own[i]? = some w) :
    reachM H 1000000 [w] = ((cellsV v : Int), 0) ∧ (dropM H 1000000 w).1 = 0 ∧ dropN 1000000 H w ≤ 4000 ∧ fuelOk 1000000 H w ∧ TInv r (B + 4000) (dropM H 1000000 w).2 (own.take i ++ own.drop (i + 1)) (has.take i ++ has.drop (i + 1)) ∧ (dropM H 1000000 w).2.live = H.live - cellsV v := by
  obtain ⟨m1, m2, m3⟩ := t.vals v (List.mem_of_getElem? hv)
  have hc := cells_mass v
  obtain ⟨S, h, hn, hcnt⟩ := t.hold
  obtain ⟨S1, Si, S2, e, h1, h2⟩ := h.at hv hw
  subst e
  obtain ⟨n1, n2, n3⟩ := List.nodup_append.1 hn
  obtain ⟨n4, n5, n6⟩ := List.nodup_append.1 n2
  have hct := h1.count
  obtain ⟨g, dn, fo⟩ := h1.drop t.ok n4 1000000 (by omega)
  have ok2 := (dropF_ok 1000000 H w B t.ok).up (C := B + 4000) (by omega)
  have hlv := g.live
  rw [h1.dropM t.ok n4 (by omega), h1.reachM t.ok n4 (by omega), hct]
  refine ⟨rfl, rfl, by omega, fo, ⟨ok2, LiveOk.dropF 1000000 _ _ t.live, g.room.trans t.room, ⟨S1 ++ S2, h2.gone g fun j hj hi => ?_, List.nodup_append.2 ⟨n1, n5, fun a ha b hb => n3 a ha b (List.mem_append_right _ hb)⟩, ?_⟩, fun u hu => ?_⟩, ?_⟩
  · rcases List.mem_append.1 hj with hj | hj
    · exact n3 j hj j (List.mem_append_left _ hi) rfl
    · exact n6 j hi j hj rfl
  · simp only [List.length_append] at hcnt ⊢
    show ((S1.length + S2.length : Nat) : Int) = (dropF 1000000 H w).live
    omega
  · rcases List.mem_append.1 hu with hu | hu
    · exact t.vals u (List.mem_of_mem_take hu)
    · exact t.vals u (List.mem_of_mem_drop hu)
  · show (dropF 1000000 H w).live = _
    omega
theorem TInv.value (t : TInv r B H own has) {i : Nat} {v : Val} {w : AWord} (hv : has[i]? = some v) (hw : own[i]? = some w) : valueM H 1000000 w = (v, 0) := by
  obtain ⟨m1, m2, m3⟩ := t.vals v (List.mem_of_getElem? hv)
  obtain ⟨S, h, hn⟩ := t.one hv hw
  exact h.valueM t.ok hn (by omega)
theorem TInv.reach (t : TInv r B H own has) (hl : has.length ≤ 200) : reachM H 1000000 own = (H.live, 0) := by
  obtain ⟨S, h, hn, hc⟩ := t.hold
  have := massVL_le fun v hv => (t.vals v hv).2.2
  have h2 : has.length * 4000 ≤ 200 * 4000 := Nat.mul_le_mul_right _ hl
  rw [h.reachM t.ok hn (by omega), hc]
end
end Go.Proofs.Ytciciaikajdenaa
/- NW: a script of layer 24; is it too heavy? -/
set_option linter.unusedSimpArgs false
set_option linter.unusedVariables false
namespace Go.Proofs.Ytciciaikajdenaa
open Go.RowKit

section
variable {P : Program} {nt : Nat} {Q : Exit → Fr → List AObj → Prop} {fr : Fr} {σ : List AObj} {ops : Array Oper} {dr : Bool} {dos ends : List Nat} {l : Trr} {i d : Nat} {ty : TypeId} {pos : String} {aft : Array Edge} {gd : Option (Nat × Bool)}
theorem s_minV (r : Int) {t t2 : TypeId} {a b : Operand} {k k' : IntKind} {m n : Int} (hp : dr = dr) (hg : guardB ops fr gd = some true) (ht : Nat.blt d nt = true) (ha : aget fr a = .d (.v (.int k m))) (hb : aget fr b = .d (.v (.int k' n))) (hv : (if n < m then n else m) = r) (h : AL P nt ops dr dos ends l Q ((d, .d (.v (.int k r))) :: fr) σ) : ALo P nt ops dr dos ends i ⟨some d, .call { callee := .builtin .min, args := #[a, b], argTypes := #[t, t2] }, ty, pos, aft, gd⟩ l Q fr σ := by
  subst hv; exact s_min hp hg ht ha hb h
end

structure ADo where
  kind : Int
  n : Int
  c : ACell
  v : Val
  w : AWord
  raw : Bool
def doD : ADo → List DV
  | ⟨kind, n, ⟨ck, cn, cw⟩, .mk vk vn vs vl, ⟨wk, wn, ws, wg⟩, raw⟩ => [.v (.int .i64 kind), .v (.int .i64 n), .v (.int .u8 ck), .v (.int .i64 cn), .lst 4 (wordsR cw), .v (.int .u8 vk), .v (.int .i64 vn), .v (.string vs), .lst 4 (valR vl), .v (.int .u8 wk), .v (.int .i64 wn), .v (.string ws), .v (.int .i64 wg), .v (.bool raw)]
def dosR (l : List ADo) : List (List DV) := l.map doD
theorem dosR_len (l : List ADo) : (dosR l).length = l.length := by simp [dosR]
theorem dosR_get {l : List ADo} {j : Nat} {p : ADo} (h : l[j]? = some p) : (dosR l)[j]? = some (doD p) := row_map h
/-- What comes in. -/
structure ADo.low (x : ADo) : Prop where
  v : x.v.low
  words : x.c.ws.length ≤ 140737488355328
/-- Not too heavy. -/
structure Light (l : List ADo) : Prop where
  len : l.length ≤ 200
  all : ∀ x ∈ l, massV x.v ≤ 4000 ∧ x.c.ws.length ≤ 4000
theorem size_z {p : Val} (hp : p.low) : RunsP Try.prog 43 [.agg (valD p), .v (.int .i64 0)] (fun v => ∃ z : Int, v = .v (.int .i64 z) ∧ 1 ≤ z ∧ z ≤ 1000000000000000 ∧ (z ≤ 9000 → (massV p : Int) ≤ z)) := (size_c p hp 0 (by decide) (by decide)).mono fun _ ⟨z, e, h1, h2⟩ => by
  obtain ⟨h3, h4, h5⟩ := h2 (by decide)
  exact ⟨z, e, h3, by omega, h5⟩
set_option maxRecDepth 100000 in
set_option maxHeartbeats 8000000 in
theorem heavy_c52 (l : List ADo) (hl : l.length ≤ 140737488355328) (hlow : ∀ x ∈ l, x.low) : RunsP Try.prog 52 [.lst 14 (dosR l)] (fun r => ∃ b : Bool, r = .v (.bool b) ∧ (b = false → Light l)) := by
  have e1 := dosR_len l
  refine enterPB 30 tab_ok Try.func52 rfl (by kernel_rfl) rfl rfl rfl ?_
  repeat' (first
      | refine s_op rfl ?_ | (apply s_move; (iterate 4 (exact rfl))) | (apply s_fa_p tab_ok; (iterate 5 (exact rfl))) | (apply s_fa_f tab_ok; (iterate 6 (exact rfl))) | (apply s_ld_p tab_ok; (iterate 7 (exact rfl)))
      | (apply s_ld_f tab_ok; (iterate 6 (exact rfl))) | (apply s_ld_w tab_ok; (iterate 5 (exact rfl)); (first | exact valD_len _ | exact wordD_len _)) | (apply s_assign; (iterate 4 (exact rfl))) | (apply s_len tab_ok; (iterate 5 (exact rfl))) | (apply s_lens str_ok; (iterate 4 (exact rfl)))
      | (apply s_idx tab_ok; (iterate 7 (exact rfl)); (first | exact valR_get (by assumption) | exact wordsR_get (by assumption) | exact dosR_get (by assumption) | assumption)) | (apply s_alloc tabZ_ok; (iterate 7 (exact rfl))) | (apply s_store tab_ok; (iterate 10 (exact rfl))) | (apply s_lss_t; (iterate 5 (exact rfl)); omega) | (apply s_lss_f; (iterate 5 (exact rfl)); omega)
      | (apply s_gtr_t; (iterate 5 (exact rfl)); omega) | (apply s_gtr_f; (iterate 5 (exact rfl)); omega) | (apply s_add64; (iterate 5 (exact rfl)); omega)
      | refine al_nil ?_ | refine q_then_n ?_ | refine q_blk_n ?_ | refine q_blk_r ?_ | refine q_blk_e ?_
      | refine q_blk_o rfl ?_ | refine q_then_e ?_ | refine aw_block ?_ | refine aw_exit ?_ | refine q_then_r ?_
      | refine aw_seq ?_ | refine aw_reg ?_ | refine aw_true rfl ?_ | refine aw_false rfl ?_ | refine aw_skip ?_
      | refine aw_ret ?_ | refine al_fork ?_ ?_ | refine al_fork3 ?_ ?_ ?_
      | refine aw_draws (id := 5) (trO [0, 1, 2, 3, 4, 5, 6, 7, 8, 9, 10, 11, 12] .nil) [9] [] mixed_ok (by kernel_rfl) ?_)
  refine w_loop [0, 3, 6, 7, 8] (fun n' vs' σ => ∃ (k : Nat) (s : Int), vs' = [.d (.lst 14 (dosR l)), .d (.v (.int .i64 s)), .d (.lst 14 (dosR l)), .d (.v (.int .i64 ((dosR l).length : Int))), .d (.v (.int .i64 (k : Int)))] ∧ 0 ≤ s ∧ s ≤ 4000 ∧ k ≤ l.length ∧ (∀ x ∈ l.take k, massV x.v ≤ 4000 ∧ x.c.ws.length ≤ 4000) ∧ n' = l.length - k) rfl ⟨0, 0, rfl, by omega, by omega, by omega, fun x hx => by simp at hx, rfl⟩ ?_
  rintro n' vs' σ ⟨k, s, rfl, hs0, hs1, hk, hall, rfl⟩ fr hfr
  cases hfr
  by_cases hlt : k < l.length
  · obtain ⟨x, hx⟩ := getS hlt
    have hxl := hlow x (List.mem_of_getElem? hx)
    have hz := size_z hxl.v
    have hwl := hxl.words
    have hnext : massV x.v ≤ 4000 → x.c.ws.length ≤ 4000 → ∀ y ∈ l.take (k + 1), massV y.v ≤ 4000 ∧ y.c.ws.length ≤ 4000 := fun h1 h2 y hy => by
      rw [List.take_add_one, hx] at hy
      rcases List.mem_append.1 hy with hy | hy
      · exact hall y hy
      · simp at hy; subst hy; exact ⟨h1, h2⟩
    clear hall hxl hlow
    obtain ⟨xk, xn, ⟨ck, cn, cw⟩, ⟨vk, vn, vs, vl⟩, ⟨wk, wn, ws, wg⟩, raw⟩ := x
    have e2 := wordsR_len cw
    replace hwl : cw.length ≤ 140737488355328 := hwl
    replace hnext : massV (.mk vk vn vs vl) ≤ 4000 → cw.length ≤ 4000 → _ := hnext
    have hr : (dosR l)[k]? = some [.v (.int .i64 xk), .v (.int .i64 xn), .v (.int .u8 ck), .v (.int .i64 cn), .lst 4 (wordsR cw), .v (.int .u8 vk), .v (.int .i64 vn), .v (.string vs), .lst 4 (valR vl), .v (.int .u8 wk), .v (.int .i64 wn), .v (.string ws), .v (.int .i64 wg), .v (.bool raw)] := dosR_get hx
    replace hz : RunsP Try.prog 43 [.agg [.v (.int .u8 vk), .v (.int .i64 vn), .v (.string vs), .lst 4 (valR vl)], .v (.int .i64 0)] (fun v => ∃ z : Int, v = .v (.int .i64 z) ∧ 1 ≤ z ∧ z ≤ 1000000000000000 ∧ (z ≤ 9000 → (massV (.mk vk vn vs vl) : Int) ≤ z)) := hz
    obtain ⟨mm, hmm, hm0, hm1, hm2⟩ : ∃ mm : Int, (if (65536 : Int) < ((wordsR cw).length : Int) then (65536 : Int) else ((wordsR cw).length : Int)) = mm ∧ 0 ≤ mm ∧ mm ≤ 65536 ∧ (mm ≤ 4000 → cw.length ≤ 4000) := by
      refine ⟨_, rfl, ?_, ?_, ?_⟩ <;> split <;> omega
    repeat' (first
      | refine s_op rfl ?_ | (apply s_move; (iterate 4 (exact rfl))) | (apply s_fa_p tab_ok; (iterate 5 (exact rfl))) | (apply s_fa_f tab_ok; (iterate 6 (exact rfl))) | (apply s_ld_p tab_ok; (iterate 7 (exact rfl)))
      | (apply s_ld_f tab_ok; (iterate 6 (exact rfl))) | (apply s_ld_w tab_ok; (iterate 5 (exact rfl)); (first | exact valD_len _ | exact wordD_len _)) | (apply s_assign; (iterate 4 (exact rfl))) | (apply s_len tab_ok; (iterate 5 (exact rfl))) | (apply s_lens str_ok; (iterate 4 (exact rfl)))
      | (apply s_idx tab_ok; (iterate 7 (exact rfl)); (first | exact valR_get (by assumption) | exact wordsR_get (by assumption) | exact dosR_get (by assumption) | assumption)) | (apply s_lss_t; (iterate 5 (exact rfl)); omega) | (apply s_lss_f; (iterate 5 (exact rfl)); omega) | (apply s_gtr_t; (iterate 5 (exact rfl)); omega) | (apply s_gtr_f; (iterate 5 (exact rfl)); omega)
      | (apply s_add64; (iterate 5 (exact rfl)); omega)
      | (apply s_minV mm; (iterate 5 (exact rfl)); exact hmm)
      | (apply s_allocF tabZ_ok (d := 5); (iterate 6 (exact rfl)); intro locX σ hc; have hX := hc.at'; clear hc)
      | (apply s_storeF tab_ok; (iterate 7 (exact rfl)); exact hX; (iterate 2 (exact rfl)); intro σ hc; replace hX := hc.at'; clear hc)
      | (apply s_ldF tab_ok; (iterate 5 (exact rfl)); exact hX; exact rfl)
      | (apply s_call; (iterate 6 (exact rfl)); exact hz; rintro _ ⟨z, rfl, hz1, hz2, hz3⟩; by_cases hz4 : s + (1 + mm + z) ≤ 4000)
      | refine al_nil ?_ | refine q_then_n ?_ | refine q_blk_n ?_ | refine q_blk_r ?_ | refine q_blk_e ?_
      | refine q_blk_o rfl ?_ | refine q_then_e ?_ | refine aw_block ?_ | refine aw_exit ?_ | refine q_then_r ?_
      | refine aw_seq ?_ | refine aw_reg ?_ | refine aw_true rfl ?_ | refine aw_false rfl ?_ | refine aw_skip ?_
      | refine aw_ret ?_ | refine al_fork ?_ ?_ | refine al_fork3 ?_ ?_ ?_
      | refine aw_draws (id := 5) (trO [0, 1, 2, 3, 4, 5, 6, 7, 8, 9, 10, 11, 12] .nil) [9] [] mixed_ok (by kernel_rfl) ?_)
    · exact ⟨_, _, rfl, by omega, k + 1, _, rfl, by omega, by omega, by omega, hnext (by have := hz3 (by omega); omega) (hm2 (by omega)), rfl⟩
    · exact q_retB (resB_1 rfl (resV_t rfl)) ⟨_, rfl, _, rfl, fun h => by cases h⟩
  · have hlen : decide (((dosR l).length : Int) > 200) = false → l.length ≤ 200 := fun h => by have := of_decide_eq_false h; omega
    repeat' (first
      | refine s_op rfl ?_ | (apply s_move; (iterate 4 (exact rfl))) | (apply s_fa_p tab_ok; (iterate 5 (exact rfl))) | (apply s_fa_f tab_ok; (iterate 6 (exact rfl))) | (apply s_ld_p tab_ok; (iterate 7 (exact rfl)))
      | (apply s_ld_f tab_ok; (iterate 6 (exact rfl))) | (apply s_ld_w tab_ok; (iterate 5 (exact rfl)); (first | exact valD_len _ | exact wordD_len _)) | (apply s_assign; (iterate 4 (exact rfl))) | (apply s_len tab_ok; (iterate 5 (exact rfl))) | (apply s_lens str_ok; (iterate 4 (exact rfl)))
      | (apply s_idx tab_ok; (iterate 7 (exact rfl)); (first | exact valR_get (by assumption) | exact wordsR_get (by assumption) | exact dosR_get (by assumption) | assumption)) | (apply s_alloc tabZ_ok; (iterate 7 (exact rfl))) | (apply s_store tab_ok; (iterate 10 (exact rfl))) | (apply s_lss_t; (iterate 5 (exact rfl)); omega) | (apply s_lss_f; (iterate 5 (exact rfl)); omega)
      | (apply s_gtr_t; (iterate 5 (exact rfl)); omega) | (apply s_gtr_f; (iterate 5 (exact rfl)); omega) | (apply s_add64; (iterate 5 (exact rfl)); omega) | (apply s_lss; (iterate 6 (exact rfl))) | (apply s_gtr; (iterate 6 (exact rfl)))
      | (apply s_add; (iterate 6 (exact rfl))) | (refine s_guard rfl rfl (fun _ => ?_) (fun _ => ?_))
      | refine al_nil ?_ | refine q_then_n ?_ | refine q_blk_n ?_ | refine q_blk_r ?_ | refine q_blk_e ?_
      | refine q_blk_o rfl ?_ | refine q_then_e ?_ | refine aw_block ?_ | refine aw_exit ?_ | refine q_then_r ?_
      | refine aw_seq ?_ | refine aw_reg ?_ | refine aw_true rfl ?_ | refine aw_false rfl ?_ | refine aw_skip ?_
      | refine aw_ret ?_ | refine al_fork ?_ ?_ | refine al_fork3 ?_ ?_ ?_ | refine aw_cond rfl (fun _ => ?_) (fun _ => ?_)
      | refine aw_draws (id := 5) (trO [0, 1, 2, 3, 4, 5, 6, 7, 8, 9, 10, 11, 12] .nil) [9] [] mixed_ok (by kernel_rfl) ?_)
    all_goals exact q_retB (resB_1 rfl (resV_t rfl)) ⟨_, rfl, _, rfl, fun h => ⟨hlen h, fun x hx => hall x (by rw [List.take_of_length_le (by omega)]; exact hx)⟩⟩
end Go.Proofs.Ytciciaikajdenaa
