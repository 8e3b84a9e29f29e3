/- C20: rows, fresh, of the program. -/
import Derived.Test.YtjflembhgjcgkaaTP11C13x2
import Derived.Test.YtjflembhgjcgkaaTP11XM4M7M5
set_option linter.unusedSimpArgs false
set_option linter.unusedVariables false
namespace Go.Proofs.Ytjflembhgjcgkaa
open Go.RowKit

def onesL (l : List Pat) : List (List Pat) := l.map fun p => [p]

set_option maxRecDepth 100000 in
theorem rows_c (l : List Pat) (hl : l.length ≤ 10000000) : RunsP Try.prog 64 [patsD l] (fun v => v = rowsD (onesL l)) := by
  refine RunsP.ofOwn (rows := (onesL l).map rowD) ?_
  have e1 := patR_len l
  refine enter 19 Try.func64 rfl (by kernel_rfl) rfl rfl rfl ?_
  repeat' (first | refine s_op rfl ?_ | (apply s_move; (iterate 4 (exact rfl))) | (apply s_assign; (iterate 4 (exact rfl))) | (apply s_len tab_ok; (iterate 5 (exact rfl))) | refine al_nil ?_ | refine q_then_n ?_ | refine aw_block ?_ | refine aw_seq ?_ | refine aw_reg ?_)
  refine w_adoptF 3 26 1 rfl ?_
  intro locN σ hc
  refine w_loop [3, 6, 7, 8] (fun n vs σ => ∃ k ver : Nat, vs = [.own locN ver 1 0 ((onesL (l.take k)).map rowD).length, .d (patsD l), .d (.v (.int .i64 ((patR l).length : Int))), .d (.v (.int .i64 (k : Int)))] ∧ σ[locN]? = some (.arr 26 1 ver ((onesL (l.take k)).map rowD)) ∧ k ≤ l.length ∧ n = l.length - k) rfl ⟨0, 0, rfl, hc.at', by omega, rfl⟩ ?_
  clear hc
  rintro n vs σ ⟨k, ver, rfl, hN, hk2, rfl⟩ fr hfr
  cases hfr
  have lN : ((onesL (l.take k)).map rowD).length ≤ 10000000 := by simp [onesL]; omega
  by_cases hlt : k < l.length
  · obtain ⟨pk, pn, pi, ps, pa, pb, pc, pl, hq⟩ := getM hlt
    have ht : onesL (l.take (k + 1)) = onesL (l.take k) ++ [[Pat.mk pk pn pi ps pa pb pc pl]] := by unfold onesL; rw [List.take_add_one, hq, List.map_append]; rfl
    repeat' (first | refine s_op rfl ?_ | (apply s_move; (iterate 4 (exact rfl))) | (apply s_ld_f tab_ok; (iterate 6 (exact rfl))) | (apply s_assign; (iterate 4 (exact rfl))) | (apply s_idx tab_ok; (iterate 7 (exact rfl)); (first | exact patR_get (by assumption) | exact valR_get (by assumption) | exact row_map (by assumption) | assumption)) | (apply s_lit tab_ok tabZ_ok; (iterate 10 (exact rfl))) | (apply s_lss_t; (iterate 5 (exact rfl)); omega) | (apply s_add64; (iterate 5 (exact rfl)); omega) | (apply s_allocF tabZ_ok; (iterate 6 (exact rfl)); intro locX σ hc; have hX := hc.at'; have nNX := hc.ne hN; replace hN := hc.keep hN; clear hc) | (apply s_storeF tab_ok; (iterate 7 (exact rfl)); exact hX; (iterate 2 (exact rfl)); intro σ hc; replace hN := hc.keep nNX hN; replace hX := hc.at'; clear hc) | (apply s_ldF tab_ok; (iterate 5 (exact rfl)); exact hX; exact rfl) | (apply s_appF tab_ok tabZ_ok (rows2 := [rowD [Pat.mk pk pn pi ps pa pb pc pl]]) (rows3 := (onesL (l.take (k + 1))).map rowD) (m := ((onesL (l.take (k + 1))).map rowD).length); (iterate 10 (exact rfl)); exact hN; exact src_of (Tab.slIs tab_ok (t := 114) rfl) (rows_d rfl); (rw [ht, List.map_append]; rfl); (rw [ht]; simp at lN ⊢; omega); intro σ hc; replace hN := hc.at'; clear hc) | refine al_nil ?_ | refine q_then_n ?_ | refine q_blk_n ?_ | refine aw_block ?_ | refine aw_seq ?_ | refine aw_reg ?_ | refine aw_true rfl ?_ | refine aw_skip ?_)
    exact ⟨_, _, rfl, by omega, k + 1, _, rfl, hN, by omega, rfl⟩
  · have he : l.take k = l := List.take_of_length_le (by omega)
    rw [he] at hN
    rw [he]
    repeat' (first | refine s_op rfl ?_ | (apply s_move; (iterate 4 (exact rfl))) | (apply s_assign; (iterate 4 (exact rfl))) | (apply s_lss_f; (iterate 5 (exact rfl)); omega) | refine al_nil ?_ | refine q_then_n ?_ | refine q_blk_e ?_ | refine q_then_e ?_ | refine aw_exit ?_ | refine aw_seq ?_ | refine aw_reg ?_ | refine aw_false rfl ?_ | refine aw_ret ?_)
    exact q_ret rfl ⟨locN, ver, 26, rfl, hN⟩

set_option maxRecDepth 100000 in
theorem has_c (p : Pat) (h : Head) (ha : asksH p = some h) (l : List Head) (hl : l.length ≤ 10000000) : RunsP Try.prog 114 [.fptr (patD p), .fptr [headsD l]] (fun v => v = .v (.bool (decide (h ∈ l)))) := by
  obtain ⟨k, n, i, s, a, b, c, q⟩ := p
  have hask := asks_c (.mk k n i s a b c q)
  rw [ha] at hask
  have hcn := containsH_c l h (by omega)
  refine enterP 13 Try.func114 rfl (by kernel_rfl) rfl rfl rfl ?_
  repeat' (first | refine s_op rfl ?_ | (apply s_move; (iterate 4 (exact rfl))) | (apply s_ld_p tab_ok; (iterate 7 (exact rfl))) | (apply s_ld_f tab_ok; (iterate 6 (exact rfl))) | (apply s_assign; (iterate 4 (exact rfl))) | (apply s_ext; (iterate 5 (exact rfl))) | (apply s_alloc tabZ_ok; (iterate 7 (exact rfl))) | (apply s_store tab_ok; (iterate 10 (exact rfl))) | (apply s_call; (iterate 6 (exact rfl)); first | (exact hask; rintro _ rfl) | (exact hcn; rintro _ rfl)) | refine al_nil ?_ | refine q_then_n ?_ | refine aw_seq ?_ | refine aw_reg ?_ | refine aw_ret ?_)
  exact q_ret rfl ⟨_, rfl, rfl⟩

theorem aas_size (i : Nat) : (aas i).size = i := by simp [aas, ByteArray.size]
theorem aas_next (i : Nat) : aas i ++ ⟨#[97]⟩ = aas (i + 1) := by
  refine ByteArray.ext ?_
  apply Array.toList_inj.1
  show (ByteArray.append _ _).data.toList = _
  simp [aas, List.replicate_succ']

set_option maxRecDepth 100000 in
theorem fresh_nil (g : Sg) : RunsP Try.prog 94 [.agg (sigD g), headsD []] (fun v => v = .tup [.agg (patD anyP), .v (.bool true)]) := by
  refine RunsP.weak ?_
  have e0 : (([] : List Head).map headD).length = 0 := rfl
  refine enterPB 76 tab_ok Try.func94 rfl (by kernel_rfl) rfl rfl rfl ?_
  repeat' (first | refine s_op rfl ?_ | (apply s_ld_f tab_ok; (iterate 6 (exact rfl))) | (apply s_assign; (iterate 4 (exact rfl))) | (apply s_len tab_ok; (iterate 5 (exact rfl))) | (apply s_build tabZ_ok; (iterate 5 (exact rfl))) | (apply s_alloc tabZ_ok; (iterate 7 (exact rfl))) | (apply s_boxZ; (iterate 5 (exact rfl)); first | exact rfl | exact allD_mapd _) | (apply s_store tab_ok; (iterate 10 (exact rfl))) | (apply s_eql_t; (iterate 5 (exact rfl)); omega) | refine al_nil ?_ | refine q_then_n ?_ | refine q_then_r ?_ | refine aw_seq ?_ | refine aw_reg ?_ | refine aw_true rfl ?_ | refine aw_ret ?_)
  refine q_retB (resB_2 rfl (resV_c (t := 41) rfl rfl rfl rfl) (resV_t rfl) rfl) ⟨_, rfl, ?_⟩
  exact Wk.tup (.cons (Wk.agg (wkL_patnil (Wk.nil 8))) (.cons (.refl _) .nil))

set_option maxRecDepth 100000 in
set_option maxHeartbeats 4000000 in
theorem fresh_int (g : Sg) (n i : Int) (s : ByteArray) (t : List Head) (hl : (⟨3, n, i, s⟩ :: t : List Head).length ≤ 10000000) : RunsP Try.prog 94 [.agg (sigD g), headsD (⟨3, n, i, s⟩ :: t)] (fun v => v = .tup [.agg (patD (.mk 3 0 (freshN headI (⟨3, n, i, s⟩ :: t)) ⟨#[]⟩ 0 0 0 [])), .v (.bool true)]) := by
  refine RunsP.weak ?_
  have hrow : ((⟨3, n, i, s⟩ :: t : List Head).map headD)[0]? = some [.v (.int .u8 3), .v (.int .i64 n), .v (.int .i64 i), .v (.string s)] := rfl
  have e1 : ((⟨3, n, i, s⟩ :: t : List Head).map headD).length = t.length + 1 := by simp
  have e2 : (⟨3, n, i, s⟩ :: t : List Head).length = t.length + 1 := rfl
  generalize (⟨3, n, i, s⟩ :: t : List Head) = L at *
  refine enterPB 76 tab_ok Try.func94 rfl (by kernel_rfl) rfl rfl rfl ?_
  repeat' (first | refine s_op rfl ?_ | (apply s_fa_p tab_ok; (iterate 5 (exact rfl))) | (apply s_fa_f tab_ok; (iterate 6 (exact rfl))) | (apply s_ld_p tab_ok; (iterate 7 (exact rfl))) | (apply s_ld_f tab_ok; (iterate 6 (exact rfl))) | (apply s_assign; (iterate 4 (exact rfl))) | (apply s_len tab_ok; (iterate 5 (exact rfl))) | (apply s_mkf; (iterate 4 (exact rfl))) | (apply s_build tabZ_ok; (iterate 5 (exact rfl))) | (apply s_alloc tabZ_ok; (iterate 7 (exact rfl))) | (apply s_boxZ; (iterate 5 (exact rfl)); first | exact rfl | exact allD_mapd _) | (apply s_store tab_ok; (iterate 10 (exact rfl))) | (apply s_eql_t; (iterate 5 (exact rfl)); omega) | (apply s_eql_f; (iterate 5 (exact rfl)); omega) | (apply s_idx tab_ok (j := 0) (row := [.v (.int .u8 3), .v (.int .i64 n), .v (.int .i64 i), .v (.string s)]); (iterate 7 (exact rfl)); exact hrow) | refine al_nil ?_ | refine q_then_n ?_ | refine aw_block ?_ | refine aw_seq ?_ | refine aw_reg ?_ | refine aw_true rfl ?_ | refine aw_false rfl ?_ | refine aw_skip ?_)
  refine w_loop [4, 6, 7] (fun n' vs σ => ∃ k : Nat, vs = [.ptr 0 0 0, .ptr 1 0 0, .clo (.func 114) [] [.ptr 1 0 0, .d (.fptr [headsD L])]] ∧ σ[0]? = some (.row 41 ([.v (.int .u8 0), .v (.int .i64 0), .v (.int .i64 0), .v (.string ⟨#[]⟩), .v (.int .i64 0), .v (.int .i64 0), .v (.int .i64 0), .nil].map .d)) ∧ σ[1]? = some (.row 41 ([.v (.int .u8 3), .v (.int .i64 0), .v (.int .i64 (k : Int)), .v (.string ⟨#[]⟩), .v (.int .i64 0), .v (.int .i64 0), .v (.int .i64 0), .nil].map .d)) ∧ k ≤ L.length ∧ n' = L.length - k ∧ ∀ j, j < k → headI j ∈ L) rfl ⟨0, rfl, rfl, rfl, by omega, rfl, fun j hj => absurd hj (Nat.not_lt_zero j)⟩ ?_
  rintro n' vs σ ⟨k, rfl, hR, hX, hk, rfl, hall⟩ fr hfr
  cases hfr
  have nRX : (0 : Nat) ≠ 1 := by decide
  have hh := (has_c (.mk 3 0 k ⟨#[]⟩ 0 0 0 []) (headI k) (by simp [asksH, headI]) L (by omega)).wkA (args' := [.fptr [.v (.int .u8 3), .v (.int .i64 0), .v (.int .i64 (k : Int)), .v (.string ⟨#[]⟩), .v (.int .i64 0), .v (.int .i64 0), .v (.int .i64 0), .nil], .fptr [headsD L]]) (.cons (Wk.fptr (wkL_patnil (Wk.nil 8))) (.cons (.refl _) .nil))
  by_cases hm : headI k ∈ L
  · rw [decide_eq_true hm] at hh
    have hlt : k + 1 ≤ L.length := inj_len headI_inj (k + 1) L fun j hj => by
      by_cases e : j = k
      · rw [e]; exact hm
      · exact hall j (by omega)
    repeat' (first | refine s_op rfl ?_ | (apply s_move; (iterate 4 (exact rfl))) | (apply s_fa_p tab_ok; (iterate 5 (exact rfl))) | (apply s_add64; (iterate 5 (exact rfl)); omega) | (apply s_callB; (iterate 6 (exact rfl)); exact viewL_ptr hX rfl (viewL_d viewL_nil); exact hh; exact (fun v h => ⟨_, h⟩); rintro _ rfl) | (apply s_ldF tab_ok; (iterate 5 (exact rfl)); exact hX; exact rfl) | (apply s_storeF tab_ok; (iterate 7 (exact rfl)); exact hX; (iterate 2 (exact rfl)); intro σ hc; replace hR := hc.keep nRX hR; replace hX := hc.at'; clear hc) | refine al_nil ?_ | refine q_then_n ?_ | refine q_blk_n ?_ | refine aw_block ?_ | refine aw_seq ?_ | refine aw_reg ?_ | refine aw_true rfl ?_ | refine aw_skip ?_)
    exact ⟨_, _, rfl, by omega, k + 1, rfl, hR, hX, hlt, rfl, fun j hj => by
      by_cases e : j = k
      · rw [e]; exact hm
      · exact hall j (by omega)⟩
  · rw [decide_eq_false hm] at hh
    repeat' (first | refine s_op rfl ?_ | (apply s_move; (iterate 4 (exact rfl))) | (apply s_assign; (iterate 4 (exact rfl))) | (apply s_callB; (iterate 6 (exact rfl)); exact viewL_ptr hX rfl (viewL_d viewL_nil); exact hh; exact (fun v h => ⟨_, h⟩); rintro _ rfl) | (apply s_ldF tab_ok; (iterate 5 (exact rfl)); exact hX; exact rfl) | (apply s_storeF tab_ok; (iterate 7 (exact rfl)); exact hR; (iterate 2 (exact rfl)); intro σ hc; replace hX := hc.keep nRX.symm hX; replace hR := hc.at'; clear hc) | refine al_nil ?_ | refine q_then_n ?_ | refine q_blk_r ?_ | refine q_blk_e ?_ | refine q_then_e ?_ | refine aw_exit ?_ | refine q_then_r ?_ | refine aw_seq ?_ | refine aw_reg ?_ | refine aw_false rfl ?_ | refine aw_ret ?_)
    rw [freshN_eq headI_inj hm hall]
    refine q_retB (resB_2 rfl (resV_c (t := 41) rfl rfl hR rfl) (resV_t rfl) rfl) ⟨_, rfl, ?_⟩
    exact Wk.tup (.cons (Wk.agg (wkL_patnil (Wk.nil 8))) (.cons (.refl _) .nil))

set_option maxRecDepth 100000 in
set_option maxHeartbeats 4000000 in
theorem fresh_str (g : Sg) (n i : Int) (s : ByteArray) (t : List Head) (hl : (⟨4, n, i, s⟩ :: t : List Head).length ≤ 10000000) : RunsP Try.prog 94 [.agg (sigD g), headsD (⟨4, n, i, s⟩ :: t)] (fun v => v = .tup [.agg (patD (.mk 4 0 0 (aas (freshN headS (⟨4, n, i, s⟩ :: t))) 0 0 0 [])), .v (.bool true)]) := by
  refine RunsP.weak ?_
  have hrow : ((⟨4, n, i, s⟩ :: t : List Head).map headD)[0]? = some [.v (.int .u8 4), .v (.int .i64 n), .v (.int .i64 i), .v (.string s)] := rfl
  have e1 : ((⟨4, n, i, s⟩ :: t : List Head).map headD).length = t.length + 1 := by simp
  have e2 : (⟨4, n, i, s⟩ :: t : List Head).length = t.length + 1 := rfl
  generalize (⟨4, n, i, s⟩ :: t : List Head) = L at *
  refine enterPB 76 tab_ok Try.func94 rfl (by kernel_rfl) rfl rfl rfl ?_
  repeat' (first | refine s_op rfl ?_ | (apply s_fa_p tab_ok; (iterate 5 (exact rfl))) | (apply s_fa_f tab_ok; (iterate 6 (exact rfl))) | (apply s_ld_p tab_ok; (iterate 7 (exact rfl))) | (apply s_ld_f tab_ok; (iterate 6 (exact rfl))) | (apply s_assign; (iterate 4 (exact rfl))) | (apply s_len tab_ok; (iterate 5 (exact rfl))) | (apply s_mkf; (iterate 4 (exact rfl))) | (apply s_build tabZ_ok; (iterate 5 (exact rfl))) | (apply s_alloc tabZ_ok; (iterate 7 (exact rfl))) | (apply s_boxZ; (iterate 5 (exact rfl)); first | exact rfl | exact allD_mapd _) | (apply s_store tab_ok; (iterate 10 (exact rfl))) | (apply s_eql_t; (iterate 5 (exact rfl)); omega) | (apply s_eql_f; (iterate 5 (exact rfl)); omega) | (apply s_idx tab_ok (j := 0) (row := [.v (.int .u8 4), .v (.int .i64 n), .v (.int .i64 i), .v (.string s)]); (iterate 7 (exact rfl)); exact hrow) | refine al_nil ?_ | refine q_then_n ?_ | refine aw_block ?_ | refine aw_seq ?_ | refine aw_reg ?_ | refine aw_true rfl ?_ | refine aw_false rfl ?_ | refine aw_skip ?_)
  refine w_loop [4, 6, 7] (fun n' vs σ => ∃ k : Nat, vs = [.ptr 0 0 0, .ptr 1 0 0, .clo (.func 114) [] [.ptr 1 0 0, .d (.fptr [headsD L])]] ∧ σ[0]? = some (.row 41 ([.v (.int .u8 0), .v (.int .i64 0), .v (.int .i64 0), .v (.string ⟨#[]⟩), .v (.int .i64 0), .v (.int .i64 0), .v (.int .i64 0), .nil].map .d)) ∧ σ[1]? = some (.row 41 ([.v (.int .u8 4), .v (.int .i64 0), .v (.int .i64 0), .v (.string (aas k)), .v (.int .i64 0), .v (.int .i64 0), .v (.int .i64 0), .nil].map .d)) ∧ k ≤ L.length ∧ n' = L.length - k ∧ ∀ j, j < k → headS j ∈ L) rfl ⟨0, rfl, rfl, rfl, by omega, rfl, fun j hj => absurd hj (Nat.not_lt_zero j)⟩ ?_
  rintro n' vs σ ⟨k, rfl, hR, hX, hk, rfl, hall⟩ fr hfr
  have hsz := aas_size k
  have hsz1 : (⟨#[97]⟩ : ByteArray).size = 1 := rfl
  have hnx := aas_next k
  cases hfr
  have nRX : (0 : Nat) ≠ 1 := by decide
  have hh := (has_c (.mk 4 0 0 (aas k) 0 0 0 []) (headS k) (by simp [asksH, headS]) L (by omega)).wkA (args' := [.fptr [.v (.int .u8 4), .v (.int .i64 0), .v (.int .i64 0), .v (.string (aas k)), .v (.int .i64 0), .v (.int .i64 0), .v (.int .i64 0), .nil], .fptr [headsD L]]) (.cons (Wk.fptr (wkL_patnil (Wk.nil 8))) (.cons (.refl _) .nil))
  by_cases hm : headS k ∈ L
  · rw [decide_eq_true hm] at hh
    have hlt : k + 1 ≤ L.length := inj_len headS_inj (k + 1) L fun j hj => by
      by_cases e : j = k
      · rw [e]; exact hm
      · exact hall j (by omega)
    repeat' (first | refine s_op rfl ?_ | (apply s_move; (iterate 4 (exact rfl))) | (apply s_fa_p tab_ok; (iterate 5 (exact rfl))) | (apply s_stradd; (iterate 5 (exact rfl)); omega) | (apply s_callB; (iterate 6 (exact rfl)); exact viewL_ptr hX rfl (viewL_d viewL_nil); exact hh; exact (fun v h => ⟨_, h⟩); rintro _ rfl) | (apply s_ldF tab_ok; (iterate 5 (exact rfl)); exact hX; exact rfl) | (apply s_storeF tab_ok; (iterate 7 (exact rfl)); exact hX; (iterate 2 (exact rfl)); intro σ hc; replace hR := hc.keep nRX hR; replace hX := hc.at'; clear hc) | refine al_nil ?_ | refine q_then_n ?_ | refine q_blk_n ?_ | refine aw_block ?_ | refine aw_seq ?_ | refine aw_reg ?_ | refine aw_true rfl ?_ | refine aw_skip ?_)
    exact ⟨_, _, rfl, by omega, k + 1, rfl, hR, by rw [← hnx]; exact hX, hlt, rfl, fun j hj => by
      by_cases e : j = k
      · rw [e]; exact hm
      · exact hall j (by omega)⟩
  · rw [decide_eq_false hm] at hh
    repeat' (first | refine s_op rfl ?_ | (apply s_move; (iterate 4 (exact rfl))) | (apply s_assign; (iterate 4 (exact rfl))) | (apply s_callB; (iterate 6 (exact rfl)); exact viewL_ptr hX rfl (viewL_d viewL_nil); exact hh; exact (fun v h => ⟨_, h⟩); rintro _ rfl) | (apply s_ldF tab_ok; (iterate 5 (exact rfl)); exact hX; exact rfl) | (apply s_storeF tab_ok; (iterate 7 (exact rfl)); exact hR; (iterate 2 (exact rfl)); intro σ hc; replace hX := hc.keep nRX.symm hX; replace hR := hc.at'; clear hc) | refine al_nil ?_ | refine q_then_n ?_ | refine q_blk_r ?_ | refine q_blk_e ?_ | refine q_then_e ?_ | refine aw_exit ?_ | refine q_then_r ?_ | refine aw_seq ?_ | refine aw_reg ?_ | refine aw_false rfl ?_ | refine aw_ret ?_)
    rw [freshN_eq headS_inj hm hall]
    refine q_retB (resB_2 rfl (resV_c (t := 41) rfl rfl hR rfl) (resV_t rfl) rfl) ⟨_, rfl, ?_⟩
    exact Wk.tup (.cons (Wk.agg (wkL_patnil (Wk.nil 8))) (.cons (.refl _) .nil))

theorem find_here {α : Type} {pr : α → Bool} : ∀ {l : List α} {k : Nat} {x : α}, (∀ j y, j < k → l[j]? = some y → pr y = false) → l[k]? = some x → pr x = true → l.find? pr = some x
  | [], _, _, _, h, _ => by simp at h
  | a :: l, 0, x, _, h, hp => by simp at h; subst h; simp [hp]
  | a :: l, k + 1, x, h1, h, hp => by
    have ha := h1 0 a (by omega) rfl
    rw [List.find?_cons, ha]
    exact find_here (k := k) (fun j y hj hy => h1 (j + 1) y (by omega) (by simpa using hy)) (by simpa using h) hp
theorem find_not {α : Type} {pr : α → Bool} {l : List α} (h : ∀ (j : Nat) (y : α), l[j]? = some y → pr y = false) : l.find? pr = none := by
  rw [List.find?_eq_none]
  intro x hx
  obtain ⟨j, hj⟩ := List.getElem?_of_mem hx
  simp [h j x hj]

set_option maxRecDepth 100000 in
set_option maxHeartbeats 4000000 in
theorem fresh_con (g : Sg) (hs : g.Small) (hsv : Serves g) (m0 : Nat) (i : Int) (s : ByteArray) (t : List Head) (hl : (⟨5, (m0 : Int), i, s⟩ :: t : List Head).length ≤ 10000000) (hm0 : m0 < g.cons.length) :
    RunsP Try.prog 94 [.agg (sigD g), headsD (⟨5, (m0 : Int), i, s⟩ :: t)] (fun v => match (g.consOf (g.dataOf m0)).find? fun c => decide (headC c ∉ (⟨5, (m0 : Int), i, s⟩ :: t : List Head)) with
      | some c => v = .tup [.agg (patD (.mk 5 c 0 ⟨#[]⟩ 0 0 0 (anysL (g.arity c)))), .v (.bool true)]
      | none => ∃ z : Int, v = .tup [.agg [.v (.int .u8 5), .v (.int .i64 z), .v (.int .i64 0), .v (.string ⟨#[]⟩), .v (.int .i64 0), .v (.int .i64 0), .v (.int .i64 0), .nil], .v (.bool false)]) := by
  have l1 := hs.cons
  obtain ⟨⟨nm, dt, fs0, ms⟩, hcn⟩ := getS hm0
  obtain ⟨⟨dn, dp, dc⟩, hd, hmem⟩ := hsv.con m0 _ hcn
  obtain ⟨md, rfl, hdn⟩ := dat_nat hd
  have hdo := dataOf_at hcn
  have hco : g.consOf (g.dataOf m0) = dc := by rw [hdo]; unfold Sg.consOf; rw [hd]
  rw [hco]
  have ldc : dc.length ≤ 1000000000 := hs.each _ (List.mem_of_getElem? hdn)
  have hrow : ((⟨5, (m0 : Int), i, s⟩ :: t : List Head).map headD)[0]? = some [.v (.int .u8 5), .v (.int .i64 (m0 : Int)), .v (.int .i64 i), .v (.string s)] := rfl
  have e1 : ((⟨5, (m0 : Int), i, s⟩ :: t : List Head).map headD).length = t.length + 1 := by simp
  have e2 : (⟨5, (m0 : Int), i, s⟩ :: t : List Head).length = t.length + 1 := rfl
  have e3 : (dc.map intRow).length = dc.length := by simp
  generalize (⟨5, (m0 : Int), i, s⟩ :: t : List Head) = L at *
  refine Runs.pure ?_
  have main : Runs Try.prog 94 ([.agg (sigD g), headsD L].map .d) [] fun v _ => ∃ d, v = .d d ∧ ((∃ c, dc.find? (fun c => decide (headC c ∉ L)) = some c ∧ Wk d (.tup [.agg (patD (.mk 5 c 0 ⟨#[]⟩ 0 0 0 (anysL (g.arity c)))), .v (.bool true)])) ∨ (dc.find? (fun c => decide (headC c ∉ L)) = none ∧ ∃ z : Int, d = .tup [.agg [.v (.int .u8 5), .v (.int .i64 z), .v (.int .i64 0), .v (.string ⟨#[]⟩), .v (.int .i64 0), .v (.int .i64 0), .v (.int .i64 0), .nil], .v (.bool false)])) := by
    refine enterB 76 tab_ok Try.func94 rfl (by kernel_rfl) rfl rfl rfl ?_
    repeat' (first | refine s_op rfl ?_ | (apply s_move; (iterate 4 (exact rfl))) | (apply s_fa_p tab_ok; (iterate 5 (exact rfl))) | (apply s_fa_f tab_ok; (iterate 6 (exact rfl))) | (apply s_ld_p tab_ok; (iterate 7 (exact rfl))) | (apply s_ld_f tab_ok; (iterate 6 (exact rfl))) | (apply s_assign; (iterate 4 (exact rfl))) | (apply s_len tab_ok; (iterate 5 (exact rfl))) | (apply s_mkf; (iterate 4 (exact rfl))) | (apply s_build tabZ_ok; (iterate 5 (exact rfl))) | (apply s_alloc tabZ_ok; (iterate 7 (exact rfl))) | (apply s_boxZ; (iterate 5 (exact rfl)); first | exact rfl | exact allD_mapd _) | (apply s_store tab_ok; (iterate 10 (exact rfl))) | (apply s_eql_f; (iterate 5 (exact rfl)); omega) | (apply s_idx tab_ok (j := 0) (row := [.v (.int .u8 5), .v (.int .i64 (m0 : Int)), .v (.int .i64 i), .v (.string s)]); (iterate 7 (exact rfl)); exact hrow) | (apply s_idx tab_ok; (iterate 7 (exact rfl)); exact row_map (by assumption)) | refine al_nil ?_ | refine q_then_n ?_ | refine q_blk_n ?_ | refine aw_block ?_ | refine aw_seq ?_ | refine aw_reg ?_ | refine aw_false rfl ?_ | refine aw_skip ?_ | refine aw_draws (id := 14) (trO [0, 1, 2, 3, 4, 5, 6, 7, 8, 9, 10, 11, 12, 13, 14, 15] .nil) [] [] mixed_ok (by kernel_rfl) ?_)
    refine w_loop [2, 4, 6, 7, 53, 54, 55] (fun n' vs σ => ∃ (k : Nat) (z : Int), vs = [.d (.fptr (sigD g)), .ptr 0 0 0, .ptr 1 0 0, .clo (.func 114) [] [.ptr 1 0 0, .d (.fptr [headsD L])], .d (intsD dc), .d (.v (.int .i64 ((dc.map intRow).length : Int))), .d (.v (.int .i64 (k : Int)))] ∧ σ[0]? = some (.row 41 ([.v (.int .u8 0), .v (.int .i64 0), .v (.int .i64 0), .v (.string ⟨#[]⟩), .v (.int .i64 0), .v (.int .i64 0), .v (.int .i64 0), .nil].map .d)) ∧ σ[1]? = some (.row 41 ([.v (.int .u8 5), .v (.int .i64 z), .v (.int .i64 0), .v (.string ⟨#[]⟩), .v (.int .i64 0), .v (.int .i64 0), .v (.int .i64 0), .nil].map .d)) ∧ k ≤ dc.length ∧ n' = dc.length - k ∧ ∀ j y, j < k → dc[j]? = some y → headC y ∈ L) rfl ⟨0, 0, rfl, rfl, rfl, by omega, rfl, fun j y hj => absurd hj (Nat.not_lt_zero j)⟩ ?_
    rintro n' vs σ ⟨k, z, rfl, hR, hX, hk, rfl, hall⟩ fr hfr
    cases hfr
    have nRX : (0 : Nat) ≠ 1 := by decide
    by_cases hlt : k < dc.length
    · obtain ⟨c, hc⟩ := getS hlt
      obtain ⟨cc, hcc, _⟩ := hsv.dat md _ hdn c (List.mem_of_getElem? hc)
      obtain ⟨mc, rfl, hmc⟩ := con_nat hcc
      obtain ⟨cnm, cdt, cfs, cms⟩ := cc
      have hcf : cfs.length ≤ 1000000000 := hs.fields _ (List.mem_of_getElem? hmc)
      have har := arity_at hmc
      have han := anys_c cfs.length hcf
      have hh := (has_c (.mk 5 mc 0 ⟨#[]⟩ 0 0 0 []) (headC mc) (by simp [asksH, headC]) L (by omega)).wkA (args' := [.fptr [.v (.int .u8 5), .v (.int .i64 (mc : Int)), .v (.int .i64 0), .v (.string ⟨#[]⟩), .v (.int .i64 0), .v (.int .i64 0), .v (.int .i64 0), .nil], .fptr [headsD L]]) (.cons (Wk.fptr (wkL_patnil (Wk.nil 8))) (.cons (.refl _) .nil))
      by_cases hm : headC mc ∈ L
      · rw [decide_eq_true hm] at hh
        repeat' (first | refine s_op rfl ?_ | (apply s_move; (iterate 4 (exact rfl))) | (apply s_fa_p tab_ok; (iterate 5 (exact rfl))) | (apply s_ld_f tab_ok; (iterate 6 (exact rfl))) | (apply s_assign; (iterate 4 (exact rfl))) | (apply s_idx tab_ok; (iterate 7 (exact rfl)); (first | exact patR_get (by assumption) | exact valR_get (by assumption) | exact row_map (by assumption) | assumption)) | (apply s_not_t; (iterate 4 (exact rfl))) | (apply s_lss_t; (iterate 5 (exact rfl)); omega) | (apply s_add64; (iterate 5 (exact rfl)); omega) | (apply s_callB; (iterate 6 (exact rfl)); exact viewL_ptr hX rfl (viewL_d viewL_nil); exact hh; exact (fun v h => ⟨_, h⟩); rintro _ rfl) | (apply s_storeF tab_ok; (iterate 7 (exact rfl)); exact hX; (iterate 2 (exact rfl)); intro σ hc; replace hR := hc.keep nRX hR; replace hX := hc.at'; clear hc) | refine al_nil ?_ | refine q_then_n ?_ | refine q_blk_n ?_ | refine aw_block ?_ | refine aw_seq ?_ | refine aw_reg ?_ | refine aw_true rfl ?_ | refine aw_false rfl ?_ | refine aw_skip ?_)
        exact ⟨_, _, rfl, by omega, k + 1, _, rfl, hR, hX, by omega, rfl, fun j y hj hy => by
          by_cases e : j = k
          · rw [e, hc] at hy; injection hy with hy; rw [← hy]; exact hm
          · exact hall j y (by omega) hy⟩
      · rw [decide_eq_false hm] at hh
        repeat' (first | refine s_op rfl ?_ | (apply s_move; (iterate 4 (exact rfl))) | (apply s_fa_p tab_ok; (iterate 5 (exact rfl))) | (apply s_fa_f tab_ok; (iterate 6 (exact rfl))) | (apply s_ld_f tab_ok; (iterate 6 (exact rfl))) | (apply s_assign; (iterate 4 (exact rfl))) | (apply s_len tab_ok; (iterate 5 (exact rfl))) | (apply s_idx tab_ok; (iterate 7 (exact rfl)); (first | exact patR_get (by assumption) | exact valR_get (by assumption) | exact row_map (by assumption) | assumption)) | (apply s_not_f; (iterate 4 (exact rfl))) | (apply s_lss_t; (iterate 5 (exact rfl)); omega) | (apply s_callB; (iterate 6 (exact rfl)); exact viewL_ptr hX rfl (viewL_d viewL_nil); exact hh; exact (fun v h => ⟨_, h⟩); rintro _ rfl) | (apply s_ldF tab_ok; (iterate 5 (exact rfl)); exact hX; exact rfl) | (apply s_storeF tab_ok; (iterate 7 (exact rfl)); exact hX; (iterate 2 (exact rfl)); intro σ hc; replace hR := hc.keep nRX hR; replace hX := hc.at'; clear hc) | (apply s_storeF tab_ok; (iterate 7 (exact rfl)); exact hR; (iterate 2 (exact rfl)); intro σ hc; replace hX := hc.keep nRX.symm hX; replace hR := hc.at'; clear hc) | (apply s_call; (iterate 6 (exact rfl)); first | (exact han; rintro _ rfl)) | refine al_nil ?_ | refine q_then_n ?_ | refine q_blk_r ?_ | refine aw_block ?_ | refine q_then_r ?_ | refine aw_seq ?_ | refine aw_reg ?_ | refine aw_true rfl ?_ | refine aw_skip ?_ | refine aw_ret ?_)
        refine q_retB (resB_2 rfl (resV_c (t := 41) rfl rfl hR rfl) (resV_t rfl) rfl) ⟨_, rfl, .inl ⟨mc, find_here (fun j y hj hy => by simpa using hall j y hj hy) hc (by simpa using hm), ?_⟩⟩
        rw [har]
        exact Wk.refl _
    · repeat' (first | refine s_op rfl ?_ | (apply s_assign; (iterate 4 (exact rfl))) | (apply s_lss_f; (iterate 5 (exact rfl)); omega) | (apply s_ldF tab_ok; (iterate 5 (exact rfl)); exact hX; exact rfl) | (apply s_storeF tab_ok; (iterate 7 (exact rfl)); exact hR; (iterate 2 (exact rfl)); intro σ hc; replace hX := hc.keep nRX.symm hX; replace hR := hc.at'; clear hc) | refine al_nil ?_ | refine q_then_n ?_ | refine q_blk_e ?_ | refine q_then_e ?_ | refine aw_exit ?_ | refine aw_seq ?_ | refine aw_reg ?_ | refine aw_false rfl ?_ | refine aw_ret ?_)
      refine q_retB (resB_2 rfl (resV_c (t := 41) rfl rfl hR rfl) (resV_t rfl) rfl) ⟨_, rfl, .inr ⟨find_not fun j y hy => ?_, z, rfl⟩⟩
      simpa using hall j y (by have := (List.getElem?_eq_some_iff.1 hy).1; omega) hy
  refine ⟨main.1, fun B R x w vs ha hh hc => Calls.mono (main.2 B R x w vs ha hh hc) fun e w' ⟨u, v, x', σ', h1, h2, h3, h4, h5, d, hd, h6⟩ => ?_⟩
  subst hd
  rcases h6 with ⟨c, hf, hw⟩ | ⟨hf, y, rfl⟩
  · rw [hf]
    exact ⟨u, .d (.tup [.agg (patD (.mk 5 c 0 ⟨#[]⟩ 0 0 0 (anysL (g.arity c)))), .v (.bool true)]), x', σ', h1, h2, hw x'.F u h3, h4, h5, _, rfl, rfl⟩
  · rw [hf]
    exact ⟨u, .d _, x', σ', h1, h2, h3, h4, h5, _, rfl, y, rfl⟩
end Go.Proofs.Ytjflembhgjcgkaa
