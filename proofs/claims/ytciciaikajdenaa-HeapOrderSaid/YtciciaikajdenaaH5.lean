/- HeapOrder: the walk. -/
import Derived.Test.YtciciaikajdenaaK2
import Derived.Test.YtciciaikajdenaaH5M
set_option linter.unusedSimpArgs false
set_option linter.unusedVariables false
namespace Go.Proofs.Ytciciaikajdenaa
open Go.RowKit

set_option maxRecDepth 100000 in
theorem order_early (n : Int) (a : Option Addr) (m cap : Nat) (w : World) (h : n < 0 ∨ 400 < n ∨ n < m) :
    Calls Try.prog 5 #[.int .i64 n, .slice a m cap] w fun e w' => KnownPost w e w' := by
  by_cases h1 : n < 0
  · go_enter Try.func5, Try.ntmps5
    go_wp2_with (go_at_call 13; refine (known_c _).mono ?_; rintro e w1 ⟨rfl, hb⟩)
    go_ret
    exact ⟨rfl, hb⟩
  · by_cases h2 : 400 < n
    · go_enter Try.func5, Try.ntmps5
      go_wp2_with (go_at_call 13; refine (known_c _).mono ?_; rintro e w1 ⟨rfl, hb⟩)
      go_ret
      exact ⟨rfl, hb⟩
    · have h3 : n < m := by omega
      go_enter Try.func5, Try.ntmps5
      go_wp2_with (go_at_call 13; refine (known_c _).mono ?_; rintro e w1 ⟨rfl, hb⟩)
      go_ret
      exact ⟨rfl, hb⟩

def kWords (k : Nat) : List AWord := (List.range k).map fun i => cellWord (i : Nat) 0

/-- While the first cells are given. -/
def OrdRel1 (w : World) (n p b7 : Nat) (v i : Value) (wr : World) : Prop :=
  ∃ k : Nat, k ≤ n ∧ i = .int .i64 k ∧ St w wr [heapAt p (hoA n k), wordsOwn v (kWords k), cellsB b7 #[.int .u8 3, .int .i64 0, .slice none 0 0] 34]

theorem kWords_succ (k : Nat) : kWords (k + 1) = kWords k ++ [cellWord k 0] := by simp [kWords, List.range_succ]
theorem kWords_len (k : Nat) : (kWords k).length = k := by simp [kWords]
theorem kWords_get {k j : Nat} (h : j < k) : (kWords k)[j]? = some (cellWord j 0) := by simp [kWords, h]
def gWords (gs : List Nat) : List AWord := gs.map fun i => cellWord (i : Nat) 0

/-- While cells are freed. -/
def OrdRel2 (w : World) (n p b7 m : Nat) (l : Value) (v i : Value) (wr : World) : Prop :=
  ∃ (k : Nat) (gs : List Nat), k ≤ m ∧ i = .int .i64 k ∧ gs.Nodup ∧ (∀ g ∈ gs, g < n) ∧ gs.length ≤ k ∧ (hoB n gs).Ok 1 ∧
    St w wr [heapAt p (hoB n gs), wordsOwn v (gWords gs), wordsOwn l (kWords n), cellsB b7 #[.int .u8 3, .int .i64 0, .slice none 0 0] 34]

theorem gWords_append (gs : List Nat) (j : Nat) : gWords (gs ++ [j]) = gWords gs ++ [cellWord j 0] := by simp [gWords]
theorem gWords_len (gs : List Nat) : (gWords gs).length = gs.length := by simp [gWords]

/-- While cells are given again. -/
def OrdRel3 (w : World) (n p b7 : Nat) (gs : List Nat) (l i : Value) (wr : World) : Prop :=
  ∃ k : Nat, k ≤ gs.length ∧ i = .int .i64 ((k : Int) - 1) ∧ (hoC n gs k).Ok 1 ∧
    St w wr [heapAt p (hoC n gs k), wordsOwn l (gWords gs), cellsB b7 #[.int .u8 3, .int .i64 0, .slice none 0 0] 34]

set_option maxRecDepth 100000 in
set_option maxHeartbeats 4000000 in
theorem order_main (n : Nat) (hn : n ≤ 400) (a : Option Addr) (zs : List Int) (cap : Nat) (w : World) (hl : zs.length ≤ n)
    (hz : 0 < zs.length → rd w 1 (.slice a zs.length cap) zs.length (zs.map (Value.int .i64))) :
    Calls Try.prog 5 #[.int .i64 n, .slice a zs.length cap] w fun e w' => KnownPost w e w' := by
  have hw2 : IntKind.i64.wrap (2 * (n : Int)) = 2 * n := IntWalk.i64_in _ (by omega)
  have h0 : ¬ (n : Int) < 0 := by omega
  have h4 : ¬ 400 < (n : Int) := by omega
  have hl' : ¬ (n : Int) < zs.length := by omega
  go_enter Try.func5, Try.ntmps5
  go_wp2_with (go_at_call 13; refine (known_c _).mono ?_; rintro e w1 ⟨rfl, hb⟩)
  refine (new_ok (2 * n) w1 (by omega) (by omega)).mono ?_
  rintro e w2 ⟨p, rfl, S⟩
  rw [hoA_zero] at S
  have S := (((St.refl w).mono hb).chain S).allocC #[Value.int .u8 3, .int .i64 0, .slice none 0 0] 34
  clear hb
  have HS := Lib.hid S
  clear S
  go_wp2_with fail
  generalize w2.heap.size = b7 at HS ⊢
  go_loopw [8, 47] (fun v i wr => OrdRel1 w n p b7 v i wr) (fun _ i _ => n - (intOf i).toNat)
  case atStart =>
    refine ⟨0, Nat.zero_le _, rfl, ?_⟩
    have S := HS.out.own_nil (T := 36) (sz := 4)
    exact (S.pull 2)
  case round =>
    obtain ⟨k, hk, rfl, S⟩ := hrel
    obtain ⟨va, vcap, rfl, _⟩ := (S.pull 1).own_form
    by_cases hlt : k < n
    · have dc := (S.pull 2).cell
      have HS := Lib.hid S
      clear S
      go_wp2_with fail
      refine (alloc_c HS.out (hoA_ok hn hk) kArr (.slice none 0 0) (fun w' _ => rd.nil w' 4) (by decide)).mono ?_
      rintro e w3 ⟨rfl, S⟩
      rw [hoA_alloc hlt] at S ⊢
      simp only [wv, cellWord] at S ⊢
      have S := S.allocC #[Value.int .u8 5, .int .i64 k, .string ⟨#[]⟩, .int .i64 0] 36
      clear HS dc
      have HS := Lib.hid S
      clear S
      go_wp2_with fail
      generalize w3.heap.size = b10 at HS ⊢
      refine wp_region_st HS.out [0, 1, 2, 3, 4, 5, 6, 7] (fun w' => (∀ o, w'.cell? ⟨b10, o, none⟩ = #[Value.int .u8 5, .int .i64 k, .string ⟨#[]⟩, .int .i64 0][o]?)) [3] [5] [] (by kernel_rfl) (by kernel_rfl) (fun c d v a w h => by cases d <;> exact h) ?_
      clear HS
      intro w4 S
      have HF := Lib.hid S.cell
      iterate 5
        (first
          | refine walk_load rfl rfl rfl HF.out rfl (by rintro w' g0; go_simp; with_reducible rfl) ?_
          | refine walk_pure rfl rfl rfl rfl (by intro w'; go_simp; with_reducible rfl) ?_)
        simp only [List.getElem_toArray, List.getElem_cons_zero, List.getElem_cons_succ, Act.put, List.setIfInBounds_toArray, List.set_cons_zero, List.set_cons_succ]
      refine walk_do rfl rfl rfl (fun K hK => ?_)
      go_simp
      refine (cell_c k 0 _).mono ?_
      rintro e w' ⟨rfl, hb⟩
      have S := S.mono hb
      clear hb
      clear HF
      have HF := Lib.hid S.cell
      refine hK _ _ (fun _ => HF.out) ?_
      clear hK K
      try simp only [List.getElem_toArray, List.getElem_cons_zero, List.getElem_cons_succ, Act.put, List.setIfInBounds_toArray, List.set_cons_zero, List.set_cons_succ]
      iterate 2
        (first
          | refine walk_load rfl rfl rfl HF.out rfl (by rintro w' g0; go_simp; with_reducible rfl) ?_
          | refine walk_pure rfl rfl rfl rfl (by intro w'; go_simp; with_reducible rfl) ?_)
        simp only [List.getElem_toArray, List.getElem_cons_zero, List.getElem_cons_succ, Act.put, List.setIfInBounds_toArray, List.set_cons_zero, List.set_cons_succ]
      refine walk_nil ?_
      clear HF
      have d10 := S.cell
      have S1 := S.allocC #[Value.int .u8 5, .int .i64 k, .string ⟨#[]⟩, .int .i64 0] 36
      obtain ⟨ii, hi1, hz0, hz1, hz2⟩ := info_parts info36
      have hwl : (kWords k).length = k := by simp [kWords]
      have A := Lib.hid fun o rest ops Q x => wpList_append_st (P := Try.prog) (o := o) (rest := rest) (ops := ops) (Q := Q) (a := x) (S1.pull 3) (rd_cells (sz := 4) (n := 1) (cap := 1) S1 (Nat.le_refl _) rfl) (one_flatW [cellWord k 0]) hi1 hz0 hz1 hz2 rfl (by unfold maxLen; omega) (by omega) Try.underlying32
      clear S S1 hi1 hz0 hz1 hz2 hwl
      go_wp2_with (at_builtin; refine A.out _ _ _ _ _ _ _ rfl rfl rfl rfl ?_; intro v' w1 S1 _; have S1 := Lib.hid S1)
      refine ⟨⟨k + 1, by omega, by go_num, ?_⟩, by simp [intOf]; omega⟩
      have S2 := ((S1.out.pull 1).tail.pull 1).tail.pull 1
      unfold wordsOwn
      rw [kWords_succ, List.length_append, show flatW (kWords k ++ [cellWord k 0]) = flatW (kWords k) ++ flatW [cellWord k 0] from List.flatMap_append]
      exact S2
    · have e : n = k := by omega
      subst e
      rw [hoB_nil, kWords_len] at S
      have HS2 := Lib.hid S
      clear HS S hlt hk
      rw [kWords_len]
      go_wp2_with fail
      go_loopw [12, 71] (fun v i wr => OrdRel2 w n p b7 zs.length (.slice va n vcap) v i wr) (fun _ i _ => zs.length - (intOf i).toNat)
      case atStart =>
        refine ⟨0, [], Nat.zero_le _, rfl, List.nodup_nil, by simp, Nat.le_refl _, ?_, ?_⟩
        · rw [← hoB_nil]; exact hoA_ok hn (Nat.le_refl _)
        · have S := HS2.out.own_nil (T := 36) (sz := 4)
          exact S.pull 1
      case round =>
        obtain ⟨k, gs, hk, rfl, hnd, hgb, hgl, ok, S⟩ := hrel
        obtain ⟨vg, gcap, rfl, _⟩ := (S.pull 1).own_form
        by_cases hlt : k < zs.length
        · obtain ⟨x, hx⟩ : ∃ x, zs[k]? = some x := ⟨_, List.getElem?_eq_getElem hlt⟩
          have hzr := hz (by omega)
          obtain ⟨b, off, rfl⟩ := rd_some hzr (by omega)
          have hcx : wr.cell? ⟨b, off + k, none⟩ = some (.int .i64 x) := by
            obtain ⟨_, h | ⟨b', off', cap', e, _, _, hc⟩⟩ := hzr.st S
            · have := h.2; omega
            · injection e with e1 e2 e3
              injection e1 with e1
              injection e1 with e1 e4 e5
              subst e1; subst e4
              exact hc k _ (by simp [hx])
          by_cases hr : x < 0 ∨ (n : Int) ≤ x
          · have HS := Lib.hid S
            clear S HS2 hx
            by_cases hr1 : x < 0
            · go_wp2_with fail
              go_ret
              exact ⟨rfl, HS.out.below⟩
            · have hr2 : (n : Int) ≤ x := by omega
              go_wp2_with fail
              go_ret
              exact ⟨rfl, HS.out.below⟩
          · obtain ⟨j, rfl⟩ : ∃ j : Nat, x = j := ⟨x.toNat, by omega⟩
            have hj : j < n := by omega
            have hj0 : ¬ (j : Int) < 0 := by omega
            have hj1 : ¬ (n : Int) ≤ (j : Int) := by omega
            have ro := (S.pull 2).own_rd
            rw [kWords_len] at ro
            obtain ⟨bl, ol, rfl⟩ := rd_some ro (by omega)
            have q := rd_word (n := n) (ws := kWords n) (by rw [kWords_len]; exact ro) (kWords_get hj)
            obtain ⟨q0, q1, q2, q3⟩ := q
            simp only [cellWord] at q0 q1 q2 q3
            have HS := Lib.hid S
            clear S HS2 ro hr
            go_wp2_with fail
            refine (drop_c HS.out ok (by decide) (cellWord j 0)).mono ?_
            rintro e w3 ⟨v, rfl, S⟩
            clear HS
            rw [hoB_drop gs hj] at S ⊢
            by_cases hin : j ∈ gs
            · simp only [hin, if_true, ACell.zero] at S ⊢
              obtain ⟨ad, capd, rfl, _⟩ := St.own_form S
              simp only [List.length_nil] at S ⊢
              have HS := Lib.hid (S.tail.alloc (.cells #[Value.int .u8 0, .int .i64 0, .slice ad 0 capd] 34)).tail
              clear S
              go_wp2_with fail
              exact ⟨⟨k + 1, gs, by omega, by go_num, hnd, hgb, by omega, ok, HS.out⟩, by simp [intOf]; omega⟩
            · simp only [hin, if_false, kArr] at S ⊢
              obtain ⟨ad, capd, rfl, _⟩ := St.own_form S
              simp only [List.length_nil] at S ⊢
              have S := (S.tail.alloc (.cells #[Value.int .u8 3, .int .i64 0, .slice ad 0 capd] 34)).tail
              have ok2 := hoB_ok hj hin ok
              have q := rd_word (n := n) (ws := kWords n) (cap := vcap) (by have := (S.pull 2).own_rd; rwa [kWords_len] at this ⊢) (kWords_get hj)
              obtain ⟨q0, q1, q2, q3⟩ := q
              simp only [cellWord] at q0 q1 q2 q3
              have S1 := S.allocC #[Value.int .u8 5, .int .i64 j, .string ⟨#[]⟩, .int .i64 0] 36
              simp only [World.size_alloc] at S1
              obtain ⟨ii, hi1, hz0, hz1, hz2⟩ := info_parts info36
              have hwl : (gWords gs).length ≤ 400 := by rw [gWords_len]; omega
              have A := Lib.hid fun o rest ops Q x => wpList_append_st (P := Try.prog) (o := o) (rest := rest) (ops := ops) (Q := Q) (a := x) (S1.pull 2) (rd_cells (sz := 4) (n := 1) (cap := 1) S1 (Nat.le_refl _) rfl) (one_flatW [cellWord j 0]) hi1 hz0 hz1 hz2 rfl (by unfold maxLen; omega) (by omega) Try.underlying32
              clear S S1 hi1 hz0 hz1 hz2 hwl
              go_wp2_with (at_builtin; refine A.out _ _ _ _ _ _ _ rfl rfl rfl rfl ?_; intro v' w1 S1 _; have S1 := Lib.hid S1)
              refine ⟨⟨k + 1, gs ++ [j], by omega, by go_num, ?_, ?_, by simp; omega, ok2, ?_⟩, by simp [intOf]; omega⟩
              · exact List.nodup_append.2 ⟨hnd, by simp, by intro a ha b hb; simp at hb; subst hb; rintro rfl; exact hin ha⟩
              · intro g hg
                rcases List.mem_append.1 hg with h | h
                · exact hgb g h
                · simp at h; omega
              · have S2 := (S1.out.pull 1).tail.pull 1
                unfold wordsOwn
                rw [gWords_append, List.length_append, show flatW (gWords gs ++ [cellWord j 0]) = flatW (gWords gs) ++ flatW [cellWord j 0] from List.flatMap_append]
                exact S2
        · have S := ((S.pull 2).tail)
          rw [gWords_len] at S ⊢
          have hw3 : IntKind.i64.wrap ((gs.length : Int) - 1) = gs.length - 1 := IntWalk.i64_in _ (by omega)
          have HS := Lib.hid S
          clear S HS2
          go_wp2_with fail
          go_loopw [17] (fun i wr => OrdRel3 w n p b7 gs (.slice vg gs.length gcap) i wr) (fun i _ => (intOf i + 1).toNat)
          case atStart => exact ⟨gs.length, Nat.le_refl _, rfl, ok, HS.out⟩
          case round =>
            obtain ⟨i, hi, rfl, ok3, S⟩ := hrel
            by_cases hi0 : 0 < i
            · obtain ⟨i, rfl⟩ : ∃ k, i = k + 1 := ⟨i - 1, by omega⟩
              have e0 : ((i + 1 : Nat) : Int) - 1 = i := by omega
              rw [e0]
              obtain ⟨g, hg⟩ : ∃ g, gs[i]? = some g := ⟨_, List.getElem?_eq_getElem (by omega)⟩
              have hgi : gs[i]'(by omega) = g := by have := List.getElem?_eq_getElem (l := gs) (i := i) (by omega); rw [this] at hg; injection hg
              obtain ⟨ea, er⟩ := hoC_alloc (n := n) (k := i) (gs := gs) (by omega) hnd hgb (by omega)
              have ok4 := hoC_ok (n := n) (k := i) (gs := gs) (by omega) hnd hgb (by omega) ok3
              rw [hgi] at ea
              have ro := (S.pull 1).own_rd
              rw [gWords_len] at ro
              obtain ⟨bg, og, rfl⟩ := rd_some ro (by omega)
              have d7 := (S.pull 2).cell
              have HS2 := Lib.hid S
              clear S HS ro er
              go_wp2_with fail
              refine (alloc_c HS2.out ok3 kArr (.slice none 0 0) (fun w' _ => rd.nil w' 4) (by decide)).mono ?_
              rintro e w5 ⟨rfl, S⟩
              rw [ea] at S ⊢
              simp only [wv, cellWord] at S ⊢
              have S := S.allocC #[Value.int .u8 5, .int .i64 g, .string ⟨#[]⟩, .int .i64 1] 36
              clear HS2 d7
              have HS := Lib.hid S
              clear S
              go_wp2_with fail
              generalize w5.heap.size = b18 at HS ⊢
              have hF : ∀ w', St w w' [cellsB b18 #[Value.int .u8 5, .int .i64 g, .string ⟨#[]⟩, .int .i64 1] 36, heapAt p (hoC n gs i), wordsOwn (.slice (some ⟨bg, og, none⟩) gs.length gcap) (gWords gs), cellsB b7 #[.int .u8 3, .int .i64 0, .slice none 0 0] 34] →
                  (∀ o, w'.cell? ⟨b18, o, none⟩ = #[Value.int .u8 5, .int .i64 g, .string ⟨#[]⟩, .int .i64 1][o]?) ∧ w'.cell? ⟨bg, og + i * 4 + 1, none⟩ = some (.int .i64 g) := by
                intro w' q
                refine ⟨q.cell, ?_⟩
                have q' := rd_word (n := gs.length) (ws := gWords gs) (cap := gcap) (by have := (q.pull 2).own_rd; rwa [gWords_len] at this ⊢) (i := i) (x := cellWord g 1 |> fun _ => cellWord g 0) (by simp [gWords, hg])
                exact q'.2.1
              have HFF := Lib.hid hF
              clear hF
              have hil : i < gs.length := by omega
              refine wp_region_st HS.out [0, 1, 2, 3, 4, 5, 6, 7, 8, 9, 10, 11] (fun w' => (∀ o, w'.cell? ⟨b18, o, none⟩ = #[Value.int .u8 5, .int .i64 g, .string ⟨#[]⟩, .int .i64 1][o]?) ∧ w'.cell? ⟨bg, og + i * 4 + 1, none⟩ = some (.int .i64 g)) [3, 8] [9] [] (by kernel_rfl) (by kernel_rfl) (fun c d v a w h => by cases d <;> exact h) ?_
              clear HS
              intro w6 S
              have HF := Lib.hid (HFF.out _ S)
              iterate 9
                (first
                  | refine walk_load rfl rfl rfl HF.out rfl (by rintro w' ⟨g0, g1⟩; go_simp; with_reducible rfl) ?_
                  | refine walk_pure rfl rfl rfl rfl (by intro w'; go_simp; with_reducible rfl) ?_)
                simp only [List.getElem_toArray, List.getElem_cons_zero, List.getElem_cons_succ, Act.put, List.setIfInBounds_toArray, List.set_cons_zero, List.set_cons_succ]
              refine walk_do rfl rfl rfl (fun K hK => ?_)
              go_simp
              refine (cell_c g 1 _).mono ?_
              rintro e w' ⟨rfl, hb⟩
              have S := S.mono hb
              clear hb
              clear HF
              have HF := Lib.hid (HFF.out _ S)
              refine hK _ _ (fun _ => HF.out) ?_
              clear hK K
              try simp only [List.getElem_toArray, List.getElem_cons_zero, List.getElem_cons_succ, Act.put, List.setIfInBounds_toArray, List.set_cons_zero, List.set_cons_succ]
              iterate 2
                (first
                  | refine walk_load rfl rfl rfl HF.out rfl (by rintro w' ⟨g0, g1⟩; go_simp; with_reducible rfl) ?_
                  | refine walk_pure rfl rfl rfl rfl (by intro w'; go_simp; with_reducible rfl) ?_)
                simp only [List.getElem_toArray, List.getElem_cons_zero, List.getElem_cons_succ, Act.put, List.setIfInBounds_toArray, List.set_cons_zero, List.set_cons_succ]
              refine walk_nil ?_
              clear HF
              have hwi : IntKind.i64.wrap ((i : Int) - 1) = i - 1 := IntWalk.i64_in _ (by omega)
              have HS := Lib.hid S
              clear S
              go_wp2_with fail
              exact ⟨⟨i, by omega, rfl, ok4, HS.out.tail⟩, by simp [intOf]⟩
            · obtain rfl : i = 0 := by omega
              have HS2 := Lib.hid S
              clear S HS
              go_wp2_with fail
              have hl1 := live_c HS2.out
              have hl2 := fun (m : Nat) => most_c (HS2.out.drewN m)
              rw [hoC_live] at hl1
              rw [hoC_most] at hl2
              have HL := Lib.hid hl2
              clear hl2
              refine hl1.mono ?_
              rintro e w5 ⟨rfl, m, rfl⟩
              go_wp2_with fail
              refine (HL.out m).mono ?_
              rintro e w5 ⟨rfl, rfl⟩
              have S := HS2.out.drewN m
              have d7 := (S.pull 2).cell
              clear HS2 HL hl1
              generalize wr.drewN m = w7 at *
              have HS := Lib.hid S
              clear S
              cases n with
              | zero =>
                go_wp2_with fail
                refine (alloc_c HS.out ok3 kArr (.slice none 0 0) (fun w' _ => rd.nil w' 4) (by decide)).mono ?_
                rintro e w8 ⟨rfl, S⟩
                rw [hoC_full] at S ⊢
                simp only [wv, AWord.zero] at S ⊢
                have HS := Lib.hid (S.alloc (.cells #[Value.int .u8 0, .int .i64 0, .string ⟨#[]⟩, .int .i64 0] 36))
                clear S
                go_wp2_with fail
                go_ret
                exact ⟨rfl, HS.out.below⟩
              | succ n =>
                go_wp2_with fail
                refine (alloc_c HS.out ok3 kArr (.slice none 0 0) (fun w' _ => rd.nil w' 4) (by decide)).mono ?_
                rintro e w8 ⟨rfl, S⟩
                rw [hoC_last (by omega)] at ⊢
                generalize (AHeap.alloc _ kArr).2 = H9 at S
                simp only [wv, cellWord] at S ⊢
                have S := S.allocC #[Value.int .u8 5, .int .i64 ((n + 1 : Nat) : Int), .string ⟨#[]⟩, .int .i64 0] 36
                clear HS d7
                have HS := Lib.hid S
                clear S
                go_wp2_with fail
                generalize w8.heap.size = b22 at HS ⊢
                refine wp_region_st HS.out [0, 1, 2, 3, 4, 5, 6, 7, 8] (fun w' => (∀ o, w'.cell? ⟨b22, o, none⟩ = #[Value.int .u8 5, .int .i64 ((n + 1 : Nat) : Int), .string ⟨#[]⟩, .int .i64 0][o]?)) [3] [5] [] (by kernel_rfl) (by kernel_rfl) (fun c d v a w h => by cases d <;> exact h) ?_
                clear HS
                intro w9 S
                have HF := Lib.hid S.cell
                iterate 5
                  (first
                    | refine walk_load rfl rfl rfl HF.out rfl (by rintro w' g0; go_simp; with_reducible rfl) ?_
                    | refine walk_pure rfl rfl rfl rfl (by intro w'; go_simp; with_reducible rfl) ?_)
                  simp only [List.getElem_toArray, List.getElem_cons_zero, List.getElem_cons_succ, Act.put, List.setIfInBounds_toArray, List.set_cons_zero, List.set_cons_succ]
                refine walk_do rfl rfl rfl (fun K hK => ?_)
                go_simp
                refine (cell_c _ 0 _).mono ?_
                rintro e w' ⟨rfl, hb⟩
                have S := S.mono hb
                clear hb
                clear HF
                have HF := Lib.hid S.cell
                refine hK _ _ (fun _ => HF.out) ?_
                clear hK K
                try simp only [List.getElem_toArray, List.getElem_cons_zero, List.getElem_cons_succ, Act.put, List.setIfInBounds_toArray, List.set_cons_zero, List.set_cons_succ]
                iterate 3
                  (first
                    | refine walk_load rfl rfl rfl HF.out rfl (by rintro w' g0; go_simp; with_reducible rfl) ?_
                    | refine walk_pure rfl rfl rfl rfl (by intro w'; go_simp; with_reducible rfl) ?_)
                  simp only [List.getElem_toArray, List.getElem_cons_zero, List.getElem_cons_succ, Act.put, List.setIfInBounds_toArray, List.set_cons_zero, List.set_cons_succ]
                refine walk_nil ?_
                clear HF
                have HS := Lib.hid S
                clear S
                go_wp2_with fail
                go_ret
                exact ⟨rfl, HS.out.below⟩

end Go.Proofs.Ytciciaikajdenaa
