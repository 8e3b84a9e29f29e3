/- The document's Get, Set. -/
import Derived.Test.YtciciaikajdenaaR4
set_option linter.unusedSimpArgs false
set_option linter.unusedVariables false
namespace Go.Proofs.Ytciciaikajdenaa
open Go.RowKit

section
variable {W0 w : World} {L : List HProp} {p : Nat} {H : AHeap}

def GetPostR (W0 : World) (L : List HProp) (p : Nat) (H : AHeap) (x : AWord) (e : Ending) (w' : World) : Prop :=
  ∃ v, e = .returned (.tuple #[.agg #[.int .u8 (H.get x).1.k, .int .i64 (H.get x).1.n, v], .int .i64 (H.get x).2]) ∧ St W0 w' (wordsOwn v (H.get x).1.ws :: heapRAt p H :: L)

def SetCPostR (W0 : World) (L : List HProp) (p : Nat) (r : (AWord × Int) × AHeap) (e : Ending) (w' : World) : Prop :=
  e = .returned (.tuple #[wv r.1.1, .int .i64 r.1.2]) ∧ St W0 w' (heapRAt p r.2 :: L)

set_option maxRecDepth 100000 in
set_option maxHeartbeats 1000000 in
theorem getR_c {B : Int} (h : St W0 w (heapRAt p H :: L)) (ok : H.Ok B) (x : AWord) :
    Calls Try.prog 23 #[.pointer (some ⟨p, 0, none⟩), wv x] w fun e w' => GetPostR W0 L p H x e w' := by
  have s0 := (h.allocC #[Value.int .u8 x.k, .int .i64 x.n, .string x.s, .int .i64 x.g] 36).allocC #[Value.int .u8 0, .int .i64 0, .slice none 0 0] 34
  simp only [World.size_alloc] at s0
  have d0 := (s0.pull 1).cell
  have HS := Lib.hid s0
  have OK := Lib.hid ok
  have HW := Lib.hid (wrong_c (s0.pull 2) ok x)
  clear h s0 ok
  unfold GetPostR
  by_cases hf : (H.find x).1 = 0
  · obtain ⟨i, hj⟩ : ∃ i, H.find x = (0, i) := ⟨(H.find x).2, Prod.ext hf rfl⟩
    have hz := AHeap.find_zero hf
    rw [hj] at hz
    simp only at hz
    have hg : H.get x = ((H.slot i).c, 0) := by unfold AHeap.get; rw [hj]; rfl
    rw [hg]
    have hxn := hz.2.2.2.1
    have hlt := hz.2.2.2.2.1
    have hws := OK.out.words _ (AHeap.slot_mem hlt)
    have HX := Lib.hid hxn
    obtain ⟨k, n, s, g⟩ := x
    simp only at hxn
    subst hxn
    have HF := Lib.hid hf
    rw [HF.out] at HW
    unfold wv at *
    clear hz hj hf hg
    go_enter Try.func23, Try.ntmps23
    go_upto_region 4 with (go_at_call 78; refine HW.out.mono ?_; rintro e w' ⟨rfl, hb⟩; have S := HS.out.mono hb; clear d0; have d0 := (S.pull 1).cell; have HS2 := Lib.hid S; clear S hb)
    generalize w.heap.size = B0 at HS2 ⊢
    obtain ⟨vs, vf, sv, e, hO⟩ := (HS2.out.pull 2).heapR_open
    obtain ⟨v, hs⟩ := sv_get e hlt
    obtain ⟨b, cap, rest, rfl, c1, c2, c3, S⟩ := hO.heapR_slots (by rw [sv_len e]; omega)
    have hlt' : i < sv.length := by rw [sv_len e]; exact hlt
    have HO := Lib.hid (And.intro e (And.intro hs (And.intro c1 (And.intro c2 c3))))
    clear e hs c1 c2 c3 hO HS HS2 HW d0
    refine wp_region_st S [0, 1, 2, 3, 4, 5, 6, 7, 8, 9, 10, 11] (fun w' => (∀ o, w'.cell? ⟨p, o, none⟩ = #[Value.int .i64 H.room, .slice (some ⟨b, 0, none⟩) sv.length cap, vf, .int .i64 H.most][o]?) ∧ (∀ o, w'.cell? ⟨B0, o, none⟩ = #[Value.int .u8 k, .int .i64 i, .string s, .int .i64 g][o]?) ∧
      w'.cell? ⟨b, i * 5, none⟩ = some (.int .u8 (H.slot i).c.k) ∧ w'.cell? ⟨b, i * 5 + 1, none⟩ = some (.int .i64 (H.slot i).c.n) ∧ w'.cell? ⟨b, i * 5 + 2, none⟩ = some v) [3, 5, 8] [9, 10] [9, 10] (by kernel_rfl) (by kernel_rfl) (fun c d v a w h => by cases d <;> exact h) ?_
    clear S
    intro w4 S
    have hcs := slot_cells S HO.out.2.1
    have HF := Lib.hid (And.intro (S.pull 1).cell (And.intro (S.pull 5).cell (And.intro hcs.1 (And.intro hcs.2.1 hcs.2.2.1))))
    clear hcs
    iterate 9
      (first
        | refine walk_load rfl rfl rfl HF.out rfl (by rintro w' ⟨g0, g1, g2, g3, g4⟩; go_simp; with_reducible rfl) ?_
        | refine walk_pure rfl rfl rfl rfl (by intro w'; go_simp; with_reducible rfl) ?_)
      simp only [List.getElem_toArray, List.getElem_cons_zero, List.getElem_cons_succ, Act.put, List.setIfInBounds_toArray, List.set_cons_zero, List.set_cons_succ]
    clear HF
    refine walk_do rfl rfl rfl (fun K hK => ?_)
    go_simp
    refine (copied_r (H.slot i).c v w4 (by omega) (St.slots_rd (S.pull 3) HO.out.2.1)).mono ?_
    rintro e w5 ⟨v', rfl, S5⟩
    obtain ⟨a', cap', rfl, _⟩ := St.own_form S5
    have S := S.chain S5
    clear S5
    simp only [List.cons_append, List.nil_append] at S
    refine hK _ _ (fun q => by cases q) ?_
    clear hK K
    try simp only [List.getElem_toArray, List.getElem_cons_zero, List.getElem_cons_succ, Act.put, List.setIfInBounds_toArray, List.set_cons_zero, List.set_cons_succ]
    have cp := (S.pull 5).cell
    have fp := (S.pull 5).free
    refine walk_do rfl rfl rfl (fun K hK => ?_)
    simp only [cv]
    go_simp
    have S := (((S.pull 5).set 0 (.int .u8 (H.slot i).c.k)).set 1 (.int .i64 (H.slot i).c.n)).set 2 (.slice a' (H.slot i).c.ws.length cap')
    simp only [List.setIfInBounds_toArray, List.set_cons_zero, List.set_cons_succ] at S
    refine hK _ _ (fun q => by cases q) ?_
    clear hK K cp fp
    try simp only [List.getElem_toArray, List.getElem_cons_zero, List.getElem_cons_succ, Act.put, List.setIfInBounds_toArray, List.set_cons_zero, List.set_cons_succ]
    iterate 1
      refine walk_pure rfl rfl rfl rfl (by intro w'; go_simp; with_reducible rfl) ?_
      simp only [List.getElem_toArray, List.getElem_cons_zero, List.getElem_cons_succ, Act.put, List.setIfInBounds_toArray, List.set_cons_zero, List.set_cons_succ]
    refine walk_nil ?_
    have d4 := S.cell
    have HS := Lib.hid S
    clear S
    go_wp2_with fail
    refine bodyPost_ret (v := .tuple #[.agg #[.int .u8 (H.slot i).c.k, .int .i64 (H.slot i).c.n, .slice a' (H.slot i).c.ws.length cap'], .int .i64 0]) (by simp [results, Try.results23, go_sem, d4]) rfl ⟨_, rfl, ?_⟩
    -- [B0+1, w, b, p, own, slotsW, B0, L]
    have T := St.heapR_back HO.out.1 HO.out.2.2.1 HO.out.2.2.2.1 HO.out.2.2.2.2 (HS.out.tail.push 5)
    exact (T.pull 1).tail.pull 1
  · obtain ⟨k, hk'⟩ : ∃ k, (H.find x).1 = k := ⟨_, rfl⟩
    have k0 : (k != 0) = true := by rw [← hk']; simpa using hf
    have hg : H.get x = (.zero, k) := by unfold AHeap.get; rw [if_neg hf, hk']
    rw [hg]
    rw [hk'] at HW
    clear hf hk' hg
    unfold wv at *
    simp only [ACell.zero]
    go_enter Try.func23, Try.ntmps23
    go_wp2_with (go_at_call 78; refine HW.out.mono ?_; rintro e w' ⟨rfl, hb⟩; have S := HS.out.mono hb; clear d0; have d0 := (S.pull 1).cell; have d1 := S.cell; have f1 := S.free; have HS2 := Lib.hid S; clear S hb)
    have S := ((HS2.out.set 0 (.int .u8 0)).set 1 (.int .i64 0)).set 2 (.slice none 0 0)
    have d4 := S.cell
    refine bodyPost_ret (v := .tuple #[.agg #[.int .u8 0, .int .i64 0, .slice none 0 0], .int .i64 k]) (by simp [results, Try.results23, go_sem, d4]) rfl ⟨_, rfl, ?_⟩
    exact S.tail.tail.own_nil

set_option maxRecDepth 100000 in
set_option maxHeartbeats 1000000 in
theorem setR_c {B : Int} (h : St W0 w (heapRAt p H :: L)) (ok : H.Ok B) (x : AWord) (i : Int) (y : AWord) :
    Calls Try.prog 28 #[.pointer (some ⟨p, 0, none⟩), wv x, .int .i64 i, wv y] w fun e w' => SetCPostR W0 L p (H.set x i y) e w' := by
  have s0 := ((h.allocC #[Value.int .u8 x.k, .int .i64 x.n, .string x.s, .int .i64 x.g] 36).allocC #[Value.int .u8 y.k, .int .i64 y.n, .string y.s, .int .i64 y.g] 36).allocC #[Value.int .u8 0, .int .i64 0, .string ⟨#[]⟩, .int .i64 0] 36
  simp only [World.size_alloc, Nat.add_assoc, Nat.reduceAdd] at s0
  have d0 := (s0.pull 2).cell
  have HS := Lib.hid s0
  have OK := Lib.hid ok
  have HW := Lib.hid (wrong_c (s0.pull 3) ok x)
  have HY := Lib.hid (word_r y)
  clear h s0 ok
  unfold SetCPostR
  by_cases hf : (H.find x).1 = 0
  · obtain ⟨j, hj⟩ : ∃ j, H.find x = (0, j) := ⟨(H.find x).2, Prod.ext hf rfl⟩
    have hz := AHeap.find_zero hf
    rw [hj] at hz
    simp only at hz
    have hxn := hz.2.2.2.1
    have hlt := hz.2.2.2.2.1
    have hws := OK.out.words _ (AHeap.slot_mem hlt)
    have hset : H.set x i y = if i < 0 ∨ ((H.slot j).c.ws.length : Int) ≤ i then ((.zero, 5), H) else if y.ok = false then ((.zero, 2), H) else (((H.slot j).c.ws.getD i.toNat .zero, 0), { H with slots := H.slots.set j { H.slot j with c := (H.slot j).c.put i.toNat y } }) := by
      unfold AHeap.set; rw [hj]; simp
    obtain ⟨r, hr⟩ : ∃ r, H.set x i y = r := ⟨_, rfl⟩
    rw [hr] at hset ⊢
    have HR := Lib.hid hset
    obtain ⟨k, n, s, g⟩ := x
    simp only at hxn
    subst hxn
    have HF := Lib.hid hf
    rw [HF.out] at HW
    unfold wv at *
    clear hz hj hf hset hr
    go_enter Try.func28, Try.ntmps28
    go_upto_region 4 with (go_at_call 78; refine HW.out.mono ?_; rintro e w' ⟨rfl, hb⟩; have S := HS.out.mono hb; clear d0; have HS2 := Lib.hid S; clear S hb)
    generalize w.heap.size = B0 at HS2 ⊢
    obtain ⟨vs, vf, sv, e, hO⟩ := (HS2.out.pull 3).heapR_open
    obtain ⟨v, hs⟩ := sv_get e hlt
    obtain ⟨b, cap, rest, rfl, c1, c2, c3, S⟩ := hO.heapR_slots (by rw [sv_len e]; omega)
    have hlt' : j < sv.length := by rw [sv_len e]; exact hlt
    have HO := Lib.hid (And.intro e (And.intro hs (And.intro c1 (And.intro c2 c3))))
    clear e hs c1 c2 c3 hO HS HS2 HW
    have d1 := (S.pull 1).cell
    have d2 := (S.pull 6).cell
    obtain ⟨q0, q1, q2, q3, q4⟩ := slot_cells S HO.out.2.1
    obtain ⟨va, vcap, rfl⟩ := rd_form (St.slots_rd (S.pull 3) HO.out.2.1)
    have HS := Lib.hid S
    clear S q0 q1 q3 q4
    go_quiet (fail)
    have S := HS.out.drewN nq
    generalize w'.drewN nq = w4 at S ⊢
    clear HS d1 d2 q2
    simp only [Nat.add_assoc, Nat.reduceAdd]
    have fin : ∀ {w' : World} {q : AWord} {H' : AHeap} {sv' : List (ASlot × Value)}, sv'.map Prod.fst = H'.slots → sv'.length = sv.length → sv'.flatMap slotCells = sv.flatMap slotCells → H'.room = H.room → H'.most = H.most → H'.free = H.free →
        St W0 w' (cellsB (B0 + 2) #[.int .u8 q.k, .int .i64 q.n, .string q.s, .int .i64 q.g] 36 :: cellsB b (sv.flatMap slotCells ++ rest).toArray 114 :: cellsB p #[.int .i64 H.room, .slice (some ⟨b, 0, none⟩) sv.length cap, vf, .int .i64 H.most] 54 :: ownS 3 1 vf H.free.length (intsV H.free) :: slotsW sv' ::
          cellsB (B0 + 1) #[.int .u8 y.k, .int .i64 y.n, .string y.s, .int .i64 y.g] 36 :: cellsB B0 #[.int .u8 k, .int .i64 j, .string s, .int .i64 g] 36 :: L) → St W0 w' (heapRAt p H' :: L) := by
      intro w' q H' sv' e1 e2 e3 e4 e5 e6 T
      rw [← e3, ← e2, ← e4, ← e5, ← e6] at T
      have T2 := St.heapR_back e1 (by rw [e2]; exact HO.out.2.2.1) HO.out.2.2.2.1 (by rw [e2]; exact HO.out.2.2.2.2) T.tail
      exact (((T2.pull 1).tail).pull 1).tail
    by_cases hrg : i < 0 ∨ ((H.slot j).c.ws.length : Int) ≤ i
    · have HR2 := HR.out
      rw [if_pos hrg] at HR2
      subst HR2
      have S := S.pull 4
      have d4 := S.cell
      have f4 := S.free
      have HS := Lib.hid S
      clear S HR
      have e : ∀ (b1 b2 : Bool), True := fun _ _ => trivial
      by_cases h0 : i < 0
      · clear hrg
        go_wp2_with fail
        have S := (((HS.out.set 0 (.int .u8 0)).set 1 (.int .i64 0)).set 2 (.string ⟨#[]⟩)).set 3 (.int .i64 0)
        simp only [List.setIfInBounds_toArray, List.set_cons_zero, List.set_cons_succ] at S
        have d5 := S.cell
        refine bodyPost_ret (v := .tuple #[.agg #[.int .u8 0, .int .i64 0, .string ⟨#[]⟩, .int .i64 0], .int .i64 5]) (by simp [results, Try.results28, go_sem, d5]) rfl ⟨rfl, ?_⟩
        exact fin (q := .zero) HO.out.1 rfl rfl rfl rfl rfl S
      · have h1 : ((H.slot j).c.ws.length : Int) ≤ i := by omega
        clear hrg
        go_wp2_with fail
        have S := (((HS.out.set 0 (.int .u8 0)).set 1 (.int .i64 0)).set 2 (.string ⟨#[]⟩)).set 3 (.int .i64 0)
        simp only [List.setIfInBounds_toArray, List.set_cons_zero, List.set_cons_succ] at S
        have d5 := S.cell
        refine bodyPost_ret (v := .tuple #[.agg #[.int .u8 0, .int .i64 0, .string ⟨#[]⟩, .int .i64 0], .int .i64 5]) (by simp [results, Try.results28, go_sem, d5]) rfl ⟨rfl, ?_⟩
        exact fin (q := .zero) HO.out.1 rfl rfl rfl rfl rfl S
    · have HR2 := HR.out
      rw [if_neg hrg] at HR2
      simp only [not_or, Int.not_lt, Int.not_le] at hrg
      obtain ⟨hi0, hi1⟩ := hrg
      have dy := (S.pull 5).cell
      cases hy : y.ok
      · rw [hy, if_pos rfl] at HR2
        subst HR2
        have HYY := Lib.hid hy
        have HS := Lib.hid S
        clear S HR hy
        go_wp2_with (go_at_call 73; refine (HY.out _).mono ?_; rintro e w5 ⟨rfl, hb2⟩; rw [HYY.out]; have S := (HS.out.mono hb2).pull 4; have d4 := S.cell; have f4 := S.free; have HS2 := Lib.hid S; clear S hb2)
        have S := (((HS2.out.set 0 (.int .u8 0)).set 1 (.int .i64 0)).set 2 (.string ⟨#[]⟩)).set 3 (.int .i64 0)
        simp only [List.setIfInBounds_toArray, List.set_cons_zero, List.set_cons_succ] at S
        have d5 := S.cell
        refine bodyPost_ret (v := .tuple #[.agg #[.int .u8 0, .int .i64 0, .string ⟨#[]⟩, .int .i64 0], .int .i64 2]) (by simp [results, Try.results28, go_sem, d5]) rfl ⟨rfl, ?_⟩
        exact fin (q := .zero) HO.out.1 rfl rfl rfl rfl rfl S
      · rw [hy, if_neg (by decide)] at HR2
        have HYY := Lib.hid hy
        have HS := Lib.hid S
        have HR3 := Lib.hid HR2
        obtain ⟨n, rfl⟩ := Int.eq_ofNat_of_zero_le hi0
        have hn : n < (H.slot j).c.ws.length := by omega
        clear S HR hy HR2
        go_upto_region 9 with (go_at_call 73; refine (HY.out _).mono ?_; rintro e w5 ⟨rfl, hb2⟩; rw [HYY.out]; have S := (HS.out.mono hb2))
        clear dy HS
        have ht := (S.pull 3).slots_take HO.out.2.1
        obtain ⟨hl, hc⟩ := St.own_cases ht
        obtain ⟨bw, wcap, wr, e0, k1, k2, k3, t⟩ := hc.resolve_left (fun q => by have := q.2.1; omega)
        injection e0 with e1 e2 e3
        subst e1 e3
        obtain ⟨z, hz⟩ : ∃ z, (H.slot j).c.ws[n]? = some z := ⟨_, List.getElem?_eq_getElem hn⟩
        have hzz : (H.slot j).c.ws.getD (n : Int).toNat .zero = z := by simp [List.getD, hz]
        obtain ⟨f0, f1, f2, f3⟩ := rd_word (St.own_rd ht) hz
        simp only [Nat.zero_add] at f0 f1 f2 f3
        have T := t.allocC #[Value.int .u8 z.k, .int .i64 z.n, .string z.s, .int .i64 z.g] 36
        have HT := Lib.hid T
        have HZ := Lib.hid hz
        have HK := Lib.hid (And.intro hl (And.intro k1 (And.intro k2 (And.intro k3 hzz))))
        clear S ht t T hl k1 k2 k3 hc hz hzz hb2
        go_upto_region 10 with fail
        generalize w5.heap.size = b12 at HT ⊢
        refine abs_wp HT.out ?_
        clear HT f0 f1 f2 f3
        intro w6 S
        -- [b12, bw, erase, b, p, own, B2, B1, B0, L]
        have dy := (S.pull 7).cell
        have fw := (S.pull 1).free
        obtain ⟨f0, f1, f2, f3⟩ := rd_word (St.own_rd ((S.pull 1).own_mk HK.out.1 HK.out.2.1 HK.out.2.2.1 HK.out.2.2.2.1)) HZ.out
        simp only [Nat.zero_add] at f0 f1 f2 f3
        have HS := Lib.hid S
        clear S
        go_upto_region 11 with fail
        have S := ((((HS.out.pull 1).set (n * 4) (.int .u8 y.k)).set (n * 4 + 1) (.int .i64 y.n)).set (n * 4 + 2) (.string y.s)).set (n * 4 + 3) (.int .i64 y.g)
        simp only [List.setIfInBounds_toArray] at S
        rw [flat_set4 y wr (H.slot j).c.ws n hn] at S
        refine abs_wp S ?_
        clear HS f0 f1 f2 f3 S fw dy
        intro w7 S
        -- [bw, b12, erase, b, p, own, B2, B1, B0, L]
        have d12 := (S.pull 1).cell
        have d4 := (S.pull 6).cell
        have f4 := (S.pull 6).free
        have HS := Lib.hid S
        clear S
        go_wp2_with fail
        have S := ((((HS.out.pull 6).set 0 (.int .u8 z.k)).set 1 (.int .i64 z.n)).set 2 (.string z.s)).set 3 (.int .i64 z.g)
        simp only [List.setIfInBounds_toArray, List.set_cons_zero, List.set_cons_succ] at S
        have d5 := S.cell
        have hr : r = ((z, 0), { H with slots := H.slots.set j { H.slot j with c := (H.slot j).c.put n y } }) := by rw [HR3.out, HK.out.2.2.2.2]; rfl
        rw [hr]
        refine bodyPost_ret (v := .tuple #[.agg #[.int .u8 z.k, .int .i64 z.n, .string z.s, .int .i64 z.g], .int .i64 0]) (by simp [results, Try.results28, go_sem, d5]) rfl ⟨rfl, ?_⟩
        have hw : (flatW ((H.slot j).c.ws.set n y)).length = (H.slot j).c.ws.length * 4 := by rw [flatW_len, List.length_set]
        -- [B2, bw, b12, erase, b, p, own, B1, B0, L]
        have T4 := (S.pull 1).own_mk (n := (H.slot j).c.ws.length) (cap := vcap) (sz := 4) hw HK.out.2.1 HK.out.2.2.1 (by rw [hw]; have := HK.out.2.2.2.1; rw [HK.out.1] at this; exact this)
        have hlen : ((H.slot j).c.put n y).ws.length = (H.slot j).c.ws.length := by simp [ACell.put]
        -- [own, B2, b12, erase, b, p, own3, B1, B0, L]
        have T5 := (T4.pull 3).pull 1
        have T6 := St.slots_set (s := { H.slot j with c := (H.slot j).c.put n y }) (v := .slice (some ⟨bw, 0, none⟩) (H.slot j).c.ws.length vcap) (sv := sv) (i := j) (w := _) (W0 := W0) (L := _) (by
          show St W0 _ (ownS 36 4 _ ((H.slot j).c.put n y).ws.length _ :: _)
          rw [hlen]; exact T5) hlt'
        -- [slots', B2, b12, b, p, own3, B1, B0, L]
        exact fin (q := z) (slots_map_set HO.out.1 j _ _) (by simp) (flat_set_same HO.out.2.1 rfl) rfl rfl rfl (((T6.pull 2).tail).push 4)
  · obtain ⟨k, hk'⟩ : ∃ k, (H.find x).1 = k := ⟨_, rfl⟩
    have k0 : (k != 0) = true := by rw [← hk']; simpa using hf
    have hg : H.set x i y = ((.zero, k), H) := by unfold AHeap.set; rw [if_pos hf, hk']
    rw [hg]
    rw [hk'] at HW
    clear hf hk' hg
    unfold wv at *
    simp only [AWord.zero]
    go_enter Try.func28, Try.ntmps28
    go_wp2_with (go_at_call 78; refine HW.out.mono ?_; rintro e w' ⟨rfl, hb⟩; have S := HS.out.mono hb; clear d0; have d1 := S.cell; have f1 := S.free; have HS2 := Lib.hid S; clear S hb)
    have S := (((HS2.out.set 0 (.int .u8 0)).set 1 (.int .i64 0)).set 2 (.string ⟨#[]⟩)).set 3 (.int .i64 0)
    have d4 := S.cell
    refine bodyPost_ret (v := .tuple #[.agg #[.int .u8 0, .int .i64 0, .string ⟨#[]⟩, .int .i64 0], .int .i64 k]) (by simp [results, Try.results28, go_sem, d4]) rfl ⟨rfl, ?_⟩
    exact S.tail.tail.tail
end
end Go.Proofs.Ytciciaikajdenaa
