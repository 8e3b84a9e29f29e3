/- C3, C4: in one. -/
import Derived.Test.YtjflembhgjcgkaaTP11C2
import Derived.Test.YtjflembhgjcgkaaTP11XM1M11C1x2
set_option linter.unusedSimpArgs false
set_option linter.unusedVariables false
/- C3: IndexFunc, ContainsFunc; asks, open, empty, Apart, Fits, anys of the program; Index and Contains of heads. -/
namespace Go.Proofs.Ytjflembhgjcgkaa
open Go.RowKit

def fidx {α : Type} (l : List α) (pr : α → Bool) : Int := match l.findIdx? pr with | some i => (i : Int) | none => -1
theorem fidx_here {α : Type} {l : List α} {pr : α → Bool} : ∀ {k : Nat} {x : α}, (l.take k).any pr = false → l[k]? = some x → pr x = true → fidx l pr = k := by
  intro k x h hx hp
  have : l.findIdx? pr = some k := by
    rw [List.findIdx?_eq_some_iff_getElem]
    obtain ⟨hk, he⟩ := List.getElem?_eq_some_iff.1 hx
    refine ⟨hk, by rw [he]; exact hp, fun j hj => ?_⟩
    rw [List.any_eq_false] at h
    have := h (l[j]'(by omega)) (List.mem_of_getElem? (i := j) (by rw [List.getElem?_take_of_lt hj]; exact List.getElem?_eq_getElem (by omega)))
    simpa using this
  rw [fidx, this]
theorem fidx_none {α : Type} {l : List α} {pr : α → Bool} (h : l.any pr = false) : fidx l pr = -1 := by
  have : l.findIdx? pr = none := by
    rw [List.findIdx?_eq_none_iff]
    intro x hx
    rw [List.any_eq_false] at h
    simpa using h x hx
  rw [fidx, this]
theorem fidx_any {α : Type} (l : List α) (pr : α → Bool) : (0 ≤ fidx l pr ↔ l.any pr = true) ∧ (l.any pr = false → fidx l pr = -1) := by
  refine ⟨?_, fidx_none⟩
  cases h : l.any pr with
  | false => rw [fidx_none h]; simp
  | true =>
    unfold fidx
    cases hc : l.findIdx? pr with
    | none =>
      rw [List.findIdx?_eq_none_iff] at hc
      rw [List.any_eq_true] at h
      obtain ⟨x, hx, hp⟩ := h
      rw [hc x hx] at hp; cases hp
    | some i => simp
theorem any_take {α : Type} {l : List α} {pr : α → Bool} {k : Nat} {x : α} (h : (l.take k).any pr = false) (hx : l[k]? = some x) (hp : pr x = false) : (l.take (k + 1)).any pr = false := by
  rw [List.take_add_one, hx]; simp [h, hp]

set_option maxRecDepth 100000 in
theorem indexF0_c (l : List Pat) (g : FuncId) (pr : Pat → Bool) (hg : ∀ p ∈ l, RunsP Try.prog g [.agg (patD p)] (fun v => v = .v (.bool (pr p)))) (hl : l.length ≤ 9223372036854775807) :
    RunsP Try.prog 81 [patsD l, .clo (.func g) [] []] (fun v => v = .v (.int .i64 (fidx l pr))) := by
  refine enterP 19 Try.func81 rfl (by kernel_rfl) rfl rfl rfl ?_
  have e1 := patR_len l
  repeat' (first | refine s_op rfl ?_ | (apply s_move; (iterate 4 (exact rfl))) | (apply s_assign; (iterate 4 (exact rfl))) | (apply s_len tab_ok; (iterate 5 (exact rfl))) | refine al_nil ?_ | refine q_then_n ?_ | refine aw_block ?_ | refine aw_seq ?_ | refine aw_reg ?_)
  refine w_loop [0, 1, 7, 8] (fun n vs σ => ∃ k : Nat, vs = [.d (patsD l), .d (.clo (.func g) [] []), .d (.v (.int .i64 ((patR l).length : Int))), .d (.v (.int .i64 (k : Int)))] ∧ σ = [] ∧ k ≤ l.length ∧ n = l.length - k ∧ (l.take k).any pr = false) rfl ⟨0, rfl, rfl, by omega, rfl, by simp⟩ ?_
  rintro n vs σ ⟨k, rfl, rfl, hk, rfl, hp⟩ fr hfr
  cases hfr
  by_cases hlt : k < l.length
  · obtain ⟨q, hq⟩ := getS hlt
    have hr := hg q (List.mem_of_getElem? hq)
    cases hb : pr q <;> rw [hb] at hr
    · repeat' (first | refine s_op rfl ?_ | (apply s_move; (iterate 4 (exact rfl))) | (apply s_ld_w tab_ok; (iterate 5 (exact rfl)); (first | exact patD_len _ | exact valD_len _)) | (apply s_assign; (iterate 4 (exact rfl))) | (apply s_idx tab_ok; (iterate 7 (exact rfl)); (first | exact patR_get (by assumption) | exact valR_get (by assumption) | exact row_map (by assumption) | assumption)) | (apply s_lss_t; (iterate 5 (exact rfl)); omega) | (apply s_add64; (iterate 5 (exact rfl)); omega) | (apply s_call; (iterate 6 (exact rfl)); first | (exact hr; rintro _ rfl)) | refine al_nil ?_ | refine q_then_n ?_ | refine q_blk_n ?_ | refine aw_block ?_ | refine aw_seq ?_ | refine aw_reg ?_ | refine aw_true rfl ?_ | refine aw_false rfl ?_ | refine aw_skip ?_)
      exact ⟨_, _, rfl, by omega, k + 1, rfl, rfl, by omega, rfl, any_take hp hq hb⟩
    · repeat' (first | refine s_op rfl ?_ | (apply s_move; (iterate 4 (exact rfl))) | (apply s_ld_w tab_ok; (iterate 5 (exact rfl)); (first | exact patD_len _ | exact valD_len _)) | (apply s_assign; (iterate 4 (exact rfl))) | (apply s_idx tab_ok; (iterate 7 (exact rfl)); (first | exact patR_get (by assumption) | exact valR_get (by assumption) | exact row_map (by assumption) | assumption)) | (apply s_lss_t; (iterate 5 (exact rfl)); omega) | (apply s_call; (iterate 6 (exact rfl)); first | (exact hr; rintro _ rfl)) | refine al_nil ?_ | refine q_then_n ?_ | refine q_blk_r ?_ | refine aw_block ?_ | refine q_then_r ?_ | refine aw_seq ?_ | refine aw_reg ?_ | refine aw_true rfl ?_ | refine aw_skip ?_ | refine aw_ret ?_)
      exact q_ret rfl ⟨_, rfl, by rw [fidx_here hp hq hb]⟩
  · repeat' (first | refine s_op rfl ?_ | (apply s_assign; (iterate 4 (exact rfl))) | (apply s_lss_f; (iterate 5 (exact rfl)); omega) | refine al_nil ?_ | refine q_then_n ?_ | refine q_blk_e ?_ | refine q_then_e ?_ | refine aw_exit ?_ | refine aw_seq ?_ | refine aw_reg ?_ | refine aw_false rfl ?_ | refine aw_ret ?_)
    exact q_ret rfl ⟨_, rfl, by rw [fidx_none]; rwa [List.take_of_length_le (by omega)] at hp⟩

set_option maxRecDepth 100000 in
theorem indexF1_c (l : List Pat) (g : FuncId) (cs : DV) (pr : Pat → Bool) (hg : ∀ p ∈ l, RunsP Try.prog g [.agg (patD p), cs] (fun v => v = .v (.bool (pr p)))) (hl : l.length ≤ 9223372036854775807) :
    RunsP Try.prog 81 [patsD l, .clo (.func g) [] [cs]] (fun v => v = .v (.int .i64 (fidx l pr))) := by
  refine enterP 19 Try.func81 rfl (by kernel_rfl) rfl rfl rfl ?_
  have e1 := patR_len l
  repeat' (first | refine s_op rfl ?_ | (apply s_move; (iterate 4 (exact rfl))) | (apply s_assign; (iterate 4 (exact rfl))) | (apply s_len tab_ok; (iterate 5 (exact rfl))) | refine al_nil ?_ | refine q_then_n ?_ | refine aw_block ?_ | refine aw_seq ?_ | refine aw_reg ?_)
  refine w_loop [0, 1, 7, 8] (fun n vs σ => ∃ k : Nat, vs = [.d (patsD l), .d (.clo (.func g) [] [cs]), .d (.v (.int .i64 ((patR l).length : Int))), .d (.v (.int .i64 (k : Int)))] ∧ σ = [] ∧ k ≤ l.length ∧ n = l.length - k ∧ (l.take k).any pr = false) rfl ⟨0, rfl, rfl, by omega, rfl, by simp⟩ ?_
  rintro n vs σ ⟨k, rfl, rfl, hk, rfl, hp⟩ fr hfr
  cases hfr
  by_cases hlt : k < l.length
  · obtain ⟨q, hq⟩ := getS hlt
    have hr := hg q (List.mem_of_getElem? hq)
    cases hb : pr q <;> rw [hb] at hr
    · repeat' (first | refine s_op rfl ?_ | (apply s_move; (iterate 4 (exact rfl))) | (apply s_ld_w tab_ok; (iterate 5 (exact rfl)); (first | exact patD_len _ | exact valD_len _)) | (apply s_assign; (iterate 4 (exact rfl))) | (apply s_idx tab_ok; (iterate 7 (exact rfl)); (first | exact patR_get (by assumption) | exact valR_get (by assumption) | exact row_map (by assumption) | assumption)) | (apply s_lss_t; (iterate 5 (exact rfl)); omega) | (apply s_add64; (iterate 5 (exact rfl)); omega) | (apply s_call; (iterate 6 (exact rfl)); first | (exact hr; rintro _ rfl)) | refine al_nil ?_ | refine q_then_n ?_ | refine q_blk_n ?_ | refine aw_block ?_ | refine aw_seq ?_ | refine aw_reg ?_ | refine aw_true rfl ?_ | refine aw_false rfl ?_ | refine aw_skip ?_)
      exact ⟨_, _, rfl, by omega, k + 1, rfl, rfl, by omega, rfl, any_take hp hq hb⟩
    · repeat' (first | refine s_op rfl ?_ | (apply s_move; (iterate 4 (exact rfl))) | (apply s_ld_w tab_ok; (iterate 5 (exact rfl)); (first | exact patD_len _ | exact valD_len _)) | (apply s_assign; (iterate 4 (exact rfl))) | (apply s_idx tab_ok; (iterate 7 (exact rfl)); (first | exact patR_get (by assumption) | exact valR_get (by assumption) | exact row_map (by assumption) | assumption)) | (apply s_lss_t; (iterate 5 (exact rfl)); omega) | (apply s_call; (iterate 6 (exact rfl)); first | (exact hr; rintro _ rfl)) | refine al_nil ?_ | refine q_then_n ?_ | refine q_blk_r ?_ | refine aw_block ?_ | refine q_then_r ?_ | refine aw_seq ?_ | refine aw_reg ?_ | refine aw_true rfl ?_ | refine aw_skip ?_ | refine aw_ret ?_)
      exact q_ret rfl ⟨_, rfl, by rw [fidx_here hp hq hb]⟩
  · repeat' (first | refine s_op rfl ?_ | (apply s_assign; (iterate 4 (exact rfl))) | (apply s_lss_f; (iterate 5 (exact rfl)); omega) | refine al_nil ?_ | refine q_then_n ?_ | refine q_blk_e ?_ | refine q_then_e ?_ | refine aw_exit ?_ | refine aw_seq ?_ | refine aw_reg ?_ | refine aw_false rfl ?_ | refine aw_ret ?_)
    exact q_ret rfl ⟨_, rfl, by rw [fidx_none]; rwa [List.take_of_length_le (by omega)] at hp⟩

set_option maxRecDepth 100000 in
theorem containsF_c (l : List Pat) (g : FuncId) (pr : Pat → Bool) (hg : ∀ p ∈ l, RunsP Try.prog g [.agg (patD p)] (fun v => v = .v (.bool (pr p)))) (hl : l.length ≤ 9223372036854775807) :
    RunsP Try.prog 100 [patsD l, .clo (.func g) [] []] (fun v => v = .v (.bool (l.any pr))) := by
  refine enterP 9 Try.func100 rfl (by kernel_rfl) rfl rfl rfl ?_
  have h := indexF0_c l g pr hg hl
  have h2 := (fidx_any l pr).1
  cases hb : l.any pr <;> rw [hb] at h2 <;> simp only [Bool.false_eq_true, iff_false, iff_true] at h2
  · repeat' (first | refine s_op rfl ?_ | (apply s_move; (iterate 4 (exact rfl))) | (apply s_assign; (iterate 4 (exact rfl))) | (apply s_geq_f; (iterate 5 (exact rfl)); omega) | (apply s_call; (iterate 6 (exact rfl)); first | (exact h; rintro _ rfl)) | refine al_nil ?_ | refine q_then_n ?_ | refine aw_seq ?_ | refine aw_reg ?_ | refine aw_ret ?_)
    exact q_ret rfl ⟨_, rfl, by simp⟩
  · repeat' (first | refine s_op rfl ?_ | (apply s_move; (iterate 4 (exact rfl))) | (apply s_assign; (iterate 4 (exact rfl))) | (apply s_geq_t; (iterate 5 (exact rfl)); omega) | (apply s_call; (iterate 6 (exact rfl)); first | (exact h; rintro _ rfl)) | refine al_nil ?_ | refine q_then_n ?_ | refine aw_seq ?_ | refine aw_reg ?_ | refine aw_ret ?_)
    exact q_ret rfl ⟨_, rfl, by simp⟩

set_option maxRecDepth 100000 in
theorem containsF1_c (l : List Pat) (g : FuncId) (cs : DV) (pr : Pat → Bool) (hg : ∀ p ∈ l, RunsP Try.prog g [.agg (patD p), cs] (fun v => v = .v (.bool (pr p)))) (hl : l.length ≤ 9223372036854775807) :
    RunsP Try.prog 100 [patsD l, .clo (.func g) [] [cs]] (fun v => v = .v (.bool (l.any pr))) := by
  refine enterP 9 Try.func100 rfl (by kernel_rfl) rfl rfl rfl ?_
  have h := indexF1_c l g cs pr hg hl
  have h2 := (fidx_any l pr).1
  cases hb : l.any pr <;> rw [hb] at h2 <;> simp only [Bool.false_eq_true, iff_false, iff_true] at h2
  · repeat' (first | refine s_op rfl ?_ | (apply s_move; (iterate 4 (exact rfl))) | (apply s_assign; (iterate 4 (exact rfl))) | (apply s_geq_f; (iterate 5 (exact rfl)); omega) | (apply s_call; (iterate 6 (exact rfl)); first | (exact h; rintro _ rfl)) | refine al_nil ?_ | refine q_then_n ?_ | refine aw_seq ?_ | refine aw_reg ?_ | refine aw_ret ?_)
    exact q_ret rfl ⟨_, rfl, by simp⟩
  · repeat' (first | refine s_op rfl ?_ | (apply s_move; (iterate 4 (exact rfl))) | (apply s_assign; (iterate 4 (exact rfl))) | (apply s_geq_t; (iterate 5 (exact rfl)); omega) | (apply s_call; (iterate 6 (exact rfl)); first | (exact h; rintro _ rfl)) | refine al_nil ?_ | refine q_then_n ?_ | refine aw_seq ?_ | refine aw_reg ?_ | refine aw_ret ?_)
    exact q_ret rfl ⟨_, rfl, by simp⟩

/-! The program's asks, open, empty. -/
def okT : Option Head → DV
  | some h => .tup [.agg (headD h), .v (.bool true)]
  | none => .tup [.agg (headD noHead), .v (.bool false)]

set_option maxRecDepth 100000 in
theorem asks_c (p : Pat) : RunsP Try.prog 76 [.agg (patD p)] (fun v => v = okT (asksH p)) := by
  obtain ⟨k, n, i, s, a, b, c, l⟩ := p
  refine enterPB 28 tab_ok Try.func76 rfl (by kernel_rfl) rfl rfl rfl ?_
  by_cases h3 : k = 3
  · repeat' (first | refine s_op rfl ?_ | (apply s_fa_p tab_ok; (iterate 5 (exact rfl))) | (apply s_ld_p tab_ok; (iterate 7 (exact rfl))) | (apply s_assign; (iterate 4 (exact rfl))) | (apply s_build tabZ_ok; (iterate 5 (exact rfl))) | (apply s_alloc tabZ_ok; (iterate 7 (exact rfl))) | (apply s_box; (iterate 7 (exact rfl))) | (apply s_store tab_ok; (iterate 10 (exact rfl))) | (apply s_eql_t; (iterate 5 (exact rfl)); omega) | refine al_nil ?_ | refine q_then_n ?_ | refine q_blk_r ?_ | refine aw_block ?_ | refine q_then_r ?_ | refine aw_seq ?_ | refine aw_reg ?_ | refine aw_true rfl ?_ | refine aw_ret ?_)
    refine q_retB (resB_2 rfl (resV_c (t := 127) rfl rfl rfl rfl) (resV_t rfl) rfl) ⟨_, rfl, by simp [okT, asksH, h3, headD]⟩
  · by_cases h4 : k = 4
    · repeat' (first | refine s_op rfl ?_ | (apply s_fa_p tab_ok; (iterate 5 (exact rfl))) | (apply s_ld_p tab_ok; (iterate 7 (exact rfl))) | (apply s_assign; (iterate 4 (exact rfl))) | (apply s_build tabZ_ok; (iterate 5 (exact rfl))) | (apply s_alloc tabZ_ok; (iterate 7 (exact rfl))) | (apply s_box; (iterate 7 (exact rfl))) | (apply s_store tab_ok; (iterate 10 (exact rfl))) | (apply s_eql_t; (iterate 5 (exact rfl)); omega) | (apply s_eql_f; (iterate 5 (exact rfl)); omega) | refine al_nil ?_ | refine q_then_n ?_ | refine q_blk_r ?_ | refine aw_block ?_ | refine q_then_r ?_ | refine aw_seq ?_ | refine aw_reg ?_ | refine aw_true rfl ?_ | refine aw_false rfl ?_ | refine aw_ret ?_)
      refine q_retB (resB_2 rfl (resV_c (t := 127) rfl rfl rfl rfl) (resV_t rfl) rfl) ⟨_, rfl, by simp [okT, asksH, h3, h4, headD]⟩
    · by_cases h5 : k = 5
      · repeat' (first | refine s_op rfl ?_ | (apply s_fa_p tab_ok; (iterate 5 (exact rfl))) | (apply s_ld_p tab_ok; (iterate 7 (exact rfl))) | (apply s_assign; (iterate 4 (exact rfl))) | (apply s_build tabZ_ok; (iterate 5 (exact rfl))) | (apply s_alloc tabZ_ok; (iterate 7 (exact rfl))) | (apply s_box; (iterate 7 (exact rfl))) | (apply s_store tab_ok; (iterate 10 (exact rfl))) | (apply s_eql_t; (iterate 5 (exact rfl)); omega) | (apply s_eql_f; (iterate 5 (exact rfl)); omega) | refine al_nil ?_ | refine q_then_n ?_ | refine q_blk_r ?_ | refine aw_block ?_ | refine q_then_r ?_ | refine aw_seq ?_ | refine aw_reg ?_ | refine aw_true rfl ?_ | refine aw_false rfl ?_ | refine aw_ret ?_)
        refine q_retB (resB_2 rfl (resV_c (t := 127) rfl rfl rfl rfl) (resV_t rfl) rfl) ⟨_, rfl, by simp [okT, asksH, h3, h4, h5, headD]⟩
      · repeat' (first | refine s_op rfl ?_ | (apply s_fa_p tab_ok; (iterate 5 (exact rfl))) | (apply s_ld_p tab_ok; (iterate 7 (exact rfl))) | (apply s_assign; (iterate 4 (exact rfl))) | (apply s_build tabZ_ok; (iterate 5 (exact rfl))) | (apply s_alloc tabZ_ok; (iterate 7 (exact rfl))) | (apply s_box; (iterate 7 (exact rfl))) | (apply s_store tab_ok; (iterate 10 (exact rfl))) | (apply s_eql_f; (iterate 5 (exact rfl)); omega) | refine al_nil ?_ | refine q_then_n ?_ | refine q_blk_n ?_ | refine aw_block ?_ | refine aw_seq ?_ | refine aw_reg ?_ | refine aw_false rfl ?_ | refine aw_skip ?_ | refine aw_ret ?_)
        refine q_retB (resB_2 rfl (resV_c (t := 127) rfl rfl rfl rfl) (resV_t rfl) rfl) ⟨_, rfl, by simp [okT, asksH, h3, h4, h5, headD, noHead]⟩

set_option maxRecDepth 100000 in
theorem popen_c (p : Pat) : RunsP Try.prog 77 [.agg (patD p)] (fun v => v = .v (.bool (openB p))) := by
  obtain ⟨k, n, i, s, a, b, c, l⟩ := p
  refine enterP 11 Try.func77 rfl (by kernel_rfl) rfl rfl rfl ?_
  by_cases h1 : k = 1
  · repeat' (first | refine s_op rfl ?_ | (apply s_skip; exact rfl) | (apply s_move; (iterate 4 (exact rfl))) | (apply s_fa_p tab_ok; (iterate 5 (exact rfl))) | (apply s_ld_p tab_ok; (iterate 7 (exact rfl))) | (apply s_assign; (iterate 4 (exact rfl))) | (apply s_pick_t; (iterate 5 (exact rfl))) | (apply s_box; (iterate 7 (exact rfl))) | (apply s_eql_t; (iterate 5 (exact rfl)); omega) | refine al_nil ?_ | refine q_then_n ?_ | refine aw_seq ?_ | refine aw_reg ?_ | refine aw_ret ?_)
    exact q_ret rfl ⟨_, rfl, by simp [openB, Pat.kind, h1]⟩
  · by_cases h2 : k = 2
    · repeat' (first | refine s_op rfl ?_ | (apply s_move; (iterate 4 (exact rfl))) | (apply s_fa_p tab_ok; (iterate 5 (exact rfl))) | (apply s_ld_p tab_ok; (iterate 7 (exact rfl))) | (apply s_assign; (iterate 4 (exact rfl))) | (apply s_pick_f; (iterate 5 (exact rfl))) | (apply s_box; (iterate 7 (exact rfl))) | (apply s_eql_t; (iterate 5 (exact rfl)); omega) | (apply s_eql_f; (iterate 5 (exact rfl)); omega) | refine al_nil ?_ | refine q_then_n ?_ | refine aw_seq ?_ | refine aw_reg ?_ | refine aw_ret ?_)
      exact q_ret rfl ⟨_, rfl, by simp [openB, Pat.kind, h2]⟩
    · repeat' (first | refine s_op rfl ?_ | (apply s_move; (iterate 4 (exact rfl))) | (apply s_fa_p tab_ok; (iterate 5 (exact rfl))) | (apply s_ld_p tab_ok; (iterate 7 (exact rfl))) | (apply s_assign; (iterate 4 (exact rfl))) | (apply s_pick_f; (iterate 5 (exact rfl))) | (apply s_box; (iterate 7 (exact rfl))) | (apply s_eql_f; (iterate 5 (exact rfl)); omega) | refine al_nil ?_ | refine q_then_n ?_ | refine aw_seq ?_ | refine aw_reg ?_ | refine aw_ret ?_)
      exact q_ret rfl ⟨_, rfl, by simp [openB, Pat.kind, h1, h2]⟩
end Go.Proofs.Ytjflembhgjcgkaa

/- C4: heads against heads; empty, Apart, Fits; Index and Contains of heads. -/
namespace Go.Proofs.Ytjflembhgjcgkaa
open Go.RowKit

theorem bytes_toList_inj {a b : ByteArray} (h : a.toList = b.toList) : a = b := by
  rw [Lib.toList_data, Lib.toList_data] at h
  rw [← Lib.mk_data a, ← Lib.mk_data b, h]

set_option maxRecDepth 100000 in
theorem run_eq127 (w : World) (f g : Head) : (Op.equalIn 10000 127 (.agg (headV f).toArray) (.agg (headV g).toArray)).run Try.prog w = .ok (decide (f = g)) w := by
  unfold headV
  rw [run_equalIn_agg w 9999 127 _ _ (by kernel_rfl) (by kernel_rfl)]
  go_simp
  obtain ⟨a, b, c, d⟩ := f
  obtain ⟨a', b', c', d'⟩ := g
  simp only [Head.mk.injEq]
  have hd : (d.toList = d'.toList) = (d = d') := propext ⟨bytes_toList_inj, fun h => by rw [h]⟩
  simp only [hd]
  by_cases h1 : a = a' <;> by_cases h2 : b = b' <;> by_cases h3 : c = c' <;> by_cases h4 : d = d' <;> simp [h1, h2, h3, h4]

section
variable {nt : Nat} {Q : Exit → Fr → List AObj → Prop} {fr : Fr} {σ : List AObj} {ops : Array Oper} {dr : Bool} {dos ends : List Nat} {l : Trr} {i d : Nat}
variable {ty : TypeId} {pos : String} {aft : Array Edge} {gd : Option (Nat × Bool)}
theorem s_eq127_t {t' : TypeId} {a b : Operand} {f g : Head} (hp : dr = dr) (hg : guardB ops fr gd = some true) (ht : Nat.blt d nt = true) (ha : aget fr a = .d (.agg (headD f))) (hb : aget fr b = .d (.agg (headD g))) (hc : f = g) (h : AL Try.prog nt ops dr dos ends l Q ((d, .d (.v (.bool true))) :: fr) σ) : ALo Try.prog nt ops dr dos ends i ⟨some d, .binOp .eql 127 a b t', ty, pos, aft, gd⟩ l Q fr σ :=
  ⟨fun ho => s_read ho hp hg ht (rd_aggEq (r := true) (xs := headV f) (ys := headV g) rfl (by kernel_rfl) ha hb (fun w => by rw [run_eq127, decide_eq_true hc])) h⟩
theorem s_eq127_f {t' : TypeId} {a b : Operand} {f g : Head} (hp : dr = dr) (hg : guardB ops fr gd = some true) (ht : Nat.blt d nt = true) (ha : aget fr a = .d (.agg (headD f))) (hb : aget fr b = .d (.agg (headD g))) (hc : f ≠ g) (h : AL Try.prog nt ops dr dos ends l Q ((d, .d (.v (.bool false))) :: fr) σ) : ALo Try.prog nt ops dr dos ends i ⟨some d, .binOp .eql 127 a b t', ty, pos, aft, gd⟩ l Q fr σ :=
  ⟨fun ho => s_read ho hp hg ht (rd_aggEq (r := false) (xs := headV f) (ys := headV g) rfl (by kernel_rfl) ha hb (fun w => by rw [run_eq127, decide_eq_false hc])) h⟩
theorem s_ne127_t {t' : TypeId} {a b : Operand} {f g : Head} (hp : dr = dr) (hg : guardB ops fr gd = some true) (ht : Nat.blt d nt = true) (ha : aget fr a = .d (.agg (headD f))) (hb : aget fr b = .d (.agg (headD g))) (hc : f ≠ g) (h : AL Try.prog nt ops dr dos ends l Q ((d, .d (.v (.bool true))) :: fr) σ) : ALo Try.prog nt ops dr dos ends i ⟨some d, .binOp .neq 127 a b t', ty, pos, aft, gd⟩ l Q fr σ :=
  ⟨fun ho => s_read ho hp hg ht (rd_aggNe (r := false) (xs := headV f) (ys := headV g) rfl (by kernel_rfl) ha hb (fun w => by rw [run_eq127, decide_eq_false hc])) h⟩
theorem s_ne127_f {t' : TypeId} {a b : Operand} {f g : Head} (hp : dr = dr) (hg : guardB ops fr gd = some true) (ht : Nat.blt d nt = true) (ha : aget fr a = .d (.agg (headD f))) (hb : aget fr b = .d (.agg (headD g))) (hc : f = g) (h : AL Try.prog nt ops dr dos ends l Q ((d, .d (.v (.bool false))) :: fr) σ) : ALo Try.prog nt ops dr dos ends i ⟨some d, .binOp .neq 127 a b t', ty, pos, aft, gd⟩ l Q fr σ :=
  ⟨fun ho => s_read ho hp hg ht (rd_aggNe (r := true) (xs := headV f) (ys := headV g) rfl (by kernel_rfl) ha hb (fun w => by rw [run_eq127, decide_eq_true hc])) h⟩
end

set_option maxRecDepth 100000 in
theorem indexH_c (l : List Head) (x : Head) (hl : l.length ≤ 9223372036854775807) : RunsP Try.prog 120 [headsD l, .agg (headD x)] (fun v => v = .v (.int .i64 (idxI l x))) := by
  refine enterP 19 Try.func120 rfl (by kernel_rfl) rfl rfl rfl ?_
  have e1 : (l.map headD).length = l.length := by simp
  repeat' (first | refine s_op rfl ?_ | (apply s_move; (iterate 4 (exact rfl))) | (apply s_assign; (iterate 4 (exact rfl))) | (apply s_len tab_ok; (iterate 5 (exact rfl))) | (apply s_box; (iterate 7 (exact rfl))) | refine al_nil ?_ | refine q_then_n ?_ | refine aw_block ?_ | refine aw_seq ?_ | refine aw_reg ?_)
  refine w_loop [0, 3, 7, 8] (fun n vs σ => ∃ k : Nat, vs = [.d (headsD l), .ptr 0 0 0, .d (.v (.int .i64 ((l.map headD).length : Int))), .d (.v (.int .i64 (k : Int)))] ∧ σ = [.row 127 ((headD x).map .d)] ∧ k ≤ l.length ∧ n = l.length - k ∧ x ∉ l.take k) rfl ⟨0, rfl, rfl, by omega, rfl, by simp⟩ ?_
  rintro n vs σ ⟨k, rfl, rfl, hk, rfl, hp⟩ fr hfr
  cases hfr
  by_cases hlt : k < l.length
  · obtain ⟨y, hy⟩ := getS hlt
    by_cases hxy : x = y
    · repeat' (first | refine s_op rfl ?_ | (apply s_move; (iterate 4 (exact rfl))) | (apply s_ld_p tab_ok; (iterate 7 (exact rfl))) | (apply s_ld_f tab_ok; (iterate 6 (exact rfl))) | (apply s_assign; (iterate 4 (exact rfl))) | (apply s_idx tab_ok; (iterate 7 (exact rfl)); (first | exact patR_get (by assumption) | exact valR_get (by assumption) | exact row_map (by assumption) | assumption)) | (apply s_lss_t; (iterate 5 (exact rfl)); omega) | (apply s_eq127_t; (iterate 3 (exact rfl)); exact rfl; exact rfl; assumption) | refine al_nil ?_ | refine q_then_n ?_ | refine q_blk_r ?_ | refine aw_block ?_ | refine q_then_r ?_ | refine aw_seq ?_ | refine aw_reg ?_ | refine aw_true rfl ?_ | refine aw_skip ?_ | refine aw_ret ?_ | refine aw_draws (id := 4) (trO [0, 1, 2, 3, 4, 5] .nil) [] [] mixed_ok (by kernel_rfl) ?_)
      subst hxy
      exact q_ret rfl ⟨_, rfl, by rw [idxI_here hp hy]⟩
    · repeat' (first | refine s_op rfl ?_ | (apply s_move; (iterate 4 (exact rfl))) | (apply s_ld_p tab_ok; (iterate 7 (exact rfl))) | (apply s_ld_f tab_ok; (iterate 6 (exact rfl))) | (apply s_assign; (iterate 4 (exact rfl))) | (apply s_idx tab_ok; (iterate 7 (exact rfl)); (first | exact patR_get (by assumption) | exact valR_get (by assumption) | exact row_map (by assumption) | assumption)) | (apply s_lss_t; (iterate 5 (exact rfl)); omega) | (apply s_add64; (iterate 5 (exact rfl)); omega) | (apply s_eq127_f (f := x) (g := y); (iterate 3 (exact rfl)); exact rfl; exact rfl; assumption) | refine al_nil ?_ | refine q_then_n ?_ | refine q_blk_n ?_ | refine aw_block ?_ | refine aw_seq ?_ | refine aw_reg ?_ | refine aw_true rfl ?_ | refine aw_false rfl ?_ | refine aw_skip ?_ | refine aw_draws (id := 4) (trO [0, 1, 2, 3, 4, 5] .nil) [] [] mixed_ok (by kernel_rfl) ?_)
      exact ⟨_, _, rfl, by omega, k + 1, rfl, rfl, by omega, rfl, notin_next hp hy hxy⟩
  · repeat' (first | refine s_op rfl ?_ | (apply s_assign; (iterate 4 (exact rfl))) | (apply s_lss_f; (iterate 5 (exact rfl)); omega) | refine al_nil ?_ | refine q_then_n ?_ | refine q_blk_e ?_ | refine q_then_e ?_ | refine aw_exit ?_ | refine aw_seq ?_ | refine aw_reg ?_ | refine aw_false rfl ?_ | refine aw_ret ?_)
    exact q_ret rfl ⟨_, rfl, by rw [idxI_none]; rwa [List.take_of_length_le (by omega)] at hp⟩

set_option maxRecDepth 100000 in
theorem containsH_c (l : List Head) (x : Head) (hl : l.length ≤ 9223372036854775807) : RunsP Try.prog 113 [headsD l, .agg (headD x)] (fun v => v = .v (.bool (decide (x ∈ l)))) := by
  refine enterP 9 Try.func113 rfl (by kernel_rfl) rfl rfl rfl ?_
  have h := indexH_c l x hl
  by_cases hx : x ∈ l
  · rw [idxI, if_pos hx] at h
    repeat' (first | refine s_op rfl ?_ | (apply s_move; (iterate 4 (exact rfl))) | (apply s_ld_p tab_ok; (iterate 7 (exact rfl))) | (apply s_assign; (iterate 4 (exact rfl))) | (apply s_box; (iterate 7 (exact rfl))) | (apply s_geq_t; (iterate 5 (exact rfl)); omega) | (apply s_call; (iterate 6 (exact rfl)); first | (exact h; rintro _ rfl)) | refine al_nil ?_ | refine q_then_n ?_ | refine aw_seq ?_ | refine aw_reg ?_ | refine aw_ret ?_)
    exact q_ret rfl ⟨_, rfl, by simp [hx]⟩
  · rw [idxI, if_neg hx] at h
    repeat' (first | refine s_op rfl ?_ | (apply s_move; (iterate 4 (exact rfl))) | (apply s_ld_p tab_ok; (iterate 7 (exact rfl))) | (apply s_assign; (iterate 4 (exact rfl))) | (apply s_box; (iterate 7 (exact rfl))) | (apply s_geq_f; (iterate 5 (exact rfl)); omega) | (apply s_call; (iterate 6 (exact rfl)); first | (exact h; rintro _ rfl)) | refine al_nil ?_ | refine q_then_n ?_ | refine aw_seq ?_ | refine aw_reg ?_ | refine aw_ret ?_)
    exact q_ret rfl ⟨_, rfl, by simp [hx]⟩

end Go.Proofs.Ytjflembhgjcgkaa
