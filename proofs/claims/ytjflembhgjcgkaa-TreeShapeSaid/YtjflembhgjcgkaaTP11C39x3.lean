/- C39: the document's places, facts, trees: Same, alike, below, known, One. -/
import Derived.Test.YtjflembhgjcgkaaTP11C33
import Derived.Test.YtjflembhgjcgkaaTP11M15x3
import Derived.Test.YtjflembhgjcgkaaTP11XAhAiAj
import Derived.Test.YtjflembhgjcgkaaTP11C13x2
import Derived.Test.YtjflembhgjcgkaaTP11XC3C4
set_option linter.unusedSimpArgs false
set_option linter.unusedVariables false
namespace Go.Proofs.Ytjflembhgjcgkaa
open Go.RowKit

def factD : FactT → List DV
  | ⟨path, is, no⟩ => intsD path :: (patD is ++ [patsD no])
def factsD (L : List FactT) : DV := .lst 10 (L.map factD)
def factZ : List DV := [.nil, .v (.int .u8 0), .v (.int .i64 0), .v (.int .i64 0), .v (.string ⟨#[]⟩), .v (.int .i64 0), .v (.int .i64 0), .v (.int .i64 0), .nil, .nil]
def knownD : Option FactT → DV
  | none => .tup [.agg factZ, .v (.bool false)]
  | some f => .tup [.agg (factD f), .v (.bool true)]

theorem take_next {l m : List Int} {k : Nat} {x : Int} (h : l.take k = m.take k) (h1 : l[k]? = some x) (h2 : m[k]? = some x) : l.take (k + 1) = m.take (k + 1) := by
  rw [List.take_add_one, List.take_add_one, h, h1, h2]

set_option maxRecDepth 100000 in
theorem same20_c (a b : List Int) (hl : a.length ≤ 9223372036854775807) (hm : b.length ≤ 9223372036854775807) : RunsP Try.prog 20 [intsD a, intsD b] (fun v => v = .v (.bool (decide (a = b)))) := by
  have e1 : (a.map intRow).length = a.length := by simp
  have e2 : (b.map intRow).length = b.length := by simp
  refine enterP 26 Try.func20 rfl (by kernel_rfl) rfl rfl rfl ?_
  by_cases hlen : a.length = b.length
  · repeat' (first | refine s_op rfl ?_ | (apply s_move; (iterate 4 (exact rfl))) | (apply s_assign; (iterate 4 (exact rfl))) | (apply s_len tab_ok; (iterate 5 (exact rfl))) | (apply s_neq_f; (iterate 5 (exact rfl)); omega) | refine al_nil ?_ | refine q_then_n ?_ | refine aw_block ?_ | refine aw_seq ?_ | refine aw_reg ?_ | refine aw_false rfl ?_ | refine aw_skip ?_)
    refine w_loop [0, 1, 5] (fun n vs σ => ∃ k : Nat, vs = [.d (intsD a), .d (intsD b), .d (.v (.int .i64 (k : Int)))] ∧ σ = [] ∧ k ≤ a.length ∧ n = a.length - k ∧ a.take k = b.take k) rfl ⟨0, rfl, rfl, by omega, rfl, by simp⟩ ?_
    rintro n vs σ ⟨k, rfl, rfl, hk, rfl, ht⟩ fr hfr
    cases hfr
    by_cases hlt : k < a.length
    · obtain ⟨x, hx⟩ := getS hlt
      obtain ⟨y, hy⟩ : ∃ y, b[k]? = some y := getS (by omega)
      by_cases hxy : x = y
      · repeat' (first | refine s_op rfl ?_ | (apply s_move; (iterate 4 (exact rfl))) | (apply s_ld_f tab_ok; (iterate 6 (exact rfl))) | (apply s_assign; (iterate 4 (exact rfl))) | (apply s_len tab_ok; (iterate 5 (exact rfl))) | (apply s_idx tab_ok; (iterate 7 (exact rfl)); (first | exact patR_get (by assumption) | exact valR_get (by assumption) | exact row_map (by assumption) | assumption)) | (apply s_neq_f; (iterate 5 (exact rfl)); omega) | (apply s_lss_t; (iterate 5 (exact rfl)); omega) | (apply s_add64; (iterate 5 (exact rfl)); omega) | refine al_nil ?_ | refine q_then_n ?_ | refine q_blk_n ?_ | refine aw_block ?_ | refine aw_seq ?_ | refine aw_reg ?_ | refine aw_true rfl ?_ | refine aw_false rfl ?_ | refine aw_skip ?_ | refine aw_draws (id := 6) (trO [0, 1, 2, 3, 4, 5, 6, 7, 8] .nil) [] [] mixed_ok (by kernel_rfl) ?_)
        exact ⟨_, _, rfl, by omega, k + 1, rfl, rfl, by omega, rfl, take_next ht hx (by rw [hxy]; exact hy)⟩
      · repeat' (first | refine s_op rfl ?_ | (apply s_move; (iterate 4 (exact rfl))) | (apply s_ld_f tab_ok; (iterate 6 (exact rfl))) | (apply s_assign; (iterate 4 (exact rfl))) | (apply s_len tab_ok; (iterate 5 (exact rfl))) | (apply s_idx tab_ok; (iterate 7 (exact rfl)); (first | exact patR_get (by assumption) | exact valR_get (by assumption) | exact row_map (by assumption) | assumption)) | (apply s_neq_t; (iterate 5 (exact rfl)); omega) | (apply s_lss_t; (iterate 5 (exact rfl)); omega) | refine al_nil ?_ | refine q_then_n ?_ | refine q_blk_r ?_ | refine aw_block ?_ | refine q_then_r ?_ | refine aw_seq ?_ | refine aw_reg ?_ | refine aw_true rfl ?_ | refine aw_skip ?_ | refine aw_ret ?_ | refine aw_draws (id := 6) (trO [0, 1, 2, 3, 4, 5, 6, 7, 8] .nil) [] [] mixed_ok (by kernel_rfl) ?_)
        refine q_ret rfl ⟨_, rfl, ?_⟩
        rw [decide_eq_false]
        intro e
        rw [e, hy] at hx
        injection hx with hx
        exact hxy hx.symm
    · repeat' (first | refine s_op rfl ?_ | (apply s_move; (iterate 4 (exact rfl))) | (apply s_assign; (iterate 4 (exact rfl))) | (apply s_len tab_ok; (iterate 5 (exact rfl))) | (apply s_lss_f; (iterate 5 (exact rfl)); omega) | refine al_nil ?_ | refine q_then_n ?_ | refine q_blk_e ?_ | refine q_then_e ?_ | refine aw_exit ?_ | refine aw_seq ?_ | refine aw_reg ?_ | refine aw_false rfl ?_ | refine aw_ret ?_)
      refine q_ret rfl ⟨_, rfl, ?_⟩
      rw [List.take_of_length_le (by omega), List.take_of_length_le (by omega)] at ht
      rw [decide_eq_true ht]
  · repeat' (first | refine s_op rfl ?_ | (apply s_move; (iterate 4 (exact rfl))) | (apply s_assign; (iterate 4 (exact rfl))) | (apply s_len tab_ok; (iterate 5 (exact rfl))) | (apply s_neq_t; (iterate 5 (exact rfl)); omega) | refine al_nil ?_ | refine q_then_n ?_ | refine q_then_r ?_ | refine aw_seq ?_ | refine aw_reg ?_ | refine aw_true rfl ?_ | refine aw_ret ?_)
    refine q_ret rfl ⟨_, rfl, ?_⟩
    rw [decide_eq_false (fun e => hlen (by rw [e]))]

theorem facts_get {L : List FactT} {j : Nat} {f : FactT} (h : L[j]? = some f) : (L.map factD)[j]? = some (factD f) := by simp [h]
theorem known_here {L : List FactT} {path : List Int} {k : Nat} {f : FactT} (h1 : ∀ x ∈ L.take k, x.path ≠ path) (h : L[k]? = some f) (h2 : f.path = path) : knownF L path = some f := by
  unfold knownF
  rw [← List.take_append_drop k L, drop_get h, List.find?_append]
  have : (L.take k).find? (fun f => decide (f.path = path)) = none := List.find?_eq_none.2 fun x hx => by simpa using h1 x hx
  rw [this, List.find?_cons, decide_eq_true h2]
  rfl
theorem take_mem {α : Type} {l : List α} {k : Nat} {x : α} {P : α → Prop} (h1 : ∀ y ∈ l.take k, P y) (h : l[k]? = some x) (h2 : P x) : ∀ y ∈ l.take (k + 1), P y := fun y hy => by
  rw [List.take_add_one, h] at hy
  rcases List.mem_append.1 hy with hy | hy
  · exact h1 y hy
  · simp at hy; rw [hy]; exact h2

set_option maxRecDepth 100000 in
theorem known109_c (L : List FactT) (path : List Int) (hl : L.length ≤ 9223372036854775807) (hp : path.length ≤ 9223372036854775807) (hs : ∀ f ∈ L, f.path.length ≤ 9223372036854775807) : RunsP Try.prog 109 [factsD L, intsD path] (fun v => v = knownD (knownF L path)) := by
  have e1 : (L.map factD).length = L.length := by simp
  refine enterPB 25 tab_ok Try.func109 rfl (by kernel_rfl) rfl rfl rfl ?_
  repeat' (first | refine s_op rfl ?_ | (apply s_assign; (iterate 4 (exact rfl))) | (apply s_allocF tabZ_ok (d := 4); (iterate 6 (exact rfl)); intro locR σ hc; have hR := hc.at'; clear hc) | refine al_nil ?_ | refine q_then_n ?_ | refine aw_block ?_ | refine aw_seq ?_ | refine aw_reg ?_)
  refine w_loop [0, 1, 4, 6] (fun n vs σ => ∃ k : Nat, vs = [.d (factsD L), .d (intsD path), .ptr locR 0 0, .d (.v (.int .i64 (k : Int)))] ∧ σ[locR]? = some (.row 146 (factZ.map .d)) ∧ k ≤ L.length ∧ n = L.length - k ∧ ∀ x ∈ L.take k, x.path ≠ path) rfl ⟨0, rfl, hR, by omega, rfl, by simp⟩ ?_
  clear hR
  rintro n vs σ ⟨k, rfl, hR, hk, rfl, ht⟩ fr hfr
  cases hfr
  by_cases hlt : k < L.length
  · obtain ⟨f, hf⟩ := getS hlt
    have hs1 := same20_c f.path path (hs f (List.mem_of_getElem? hf)) hp
    have hf2 := facts_get hf
    by_cases hfp : f.path = path
    · have hkn := known_here ht hf hfp
      rw [hkn]
      rw [decide_eq_true hfp] at hs1
      obtain ⟨fp, ⟨pk, pn, pi, ps, pa, pb, pc, pl⟩, fn⟩ := f
      repeat' (first | refine s_op rfl ?_ | (apply s_move; (iterate 4 (exact rfl))) | (apply s_fa_f tab_ok; (iterate 6 (exact rfl))) | (apply s_ld_f tab_ok; (iterate 6 (exact rfl))) | (apply s_assign; (iterate 4 (exact rfl))) | (apply s_len tab_ok; (iterate 5 (exact rfl))) | (apply s_idx tab_ok; (iterate 7 (exact rfl)); (first | exact patR_get (by assumption) | exact valR_get (by assumption) | exact row_map (by assumption) | assumption)) | (apply s_lss_t; (iterate 5 (exact rfl)); omega) | (apply s_storeF tab_ok; (iterate 7 (exact rfl)); exact hR; (iterate 2 (exact rfl)); intro σ hc; replace hR := hc.at'; clear hc) | (apply s_call; (iterate 6 (exact rfl)); first | (exact hs1; rintro _ rfl)) | refine al_nil ?_ | refine q_then_n ?_ | refine q_blk_r ?_ | refine aw_block ?_ | refine q_then_r ?_ | refine aw_seq ?_ | refine aw_reg ?_ | refine aw_true rfl ?_ | refine aw_skip ?_ | refine aw_ret ?_)
      all_goals exact q_retB (resB_2 rfl (resV_c (t := 146) rfl rfl hR rfl) (resV_t rfl) rfl) ⟨_, rfl, rfl⟩
    · rw [decide_eq_false hfp] at hs1
      obtain ⟨fp, ⟨pk, pn, pi, ps, pa, pb, pc, pl⟩, fn⟩ := f
      repeat' (first | refine s_op rfl ?_ | (apply s_move; (iterate 4 (exact rfl))) | (apply s_fa_f tab_ok; (iterate 6 (exact rfl))) | (apply s_ld_f tab_ok; (iterate 6 (exact rfl))) | (apply s_assign; (iterate 4 (exact rfl))) | (apply s_len tab_ok; (iterate 5 (exact rfl))) | (apply s_idx tab_ok; (iterate 7 (exact rfl)); (first | exact patR_get (by assumption) | exact valR_get (by assumption) | exact row_map (by assumption) | assumption)) | (apply s_lss_t; (iterate 5 (exact rfl)); omega) | (apply s_add64; (iterate 5 (exact rfl)); omega) | (apply s_call; (iterate 6 (exact rfl)); first | (exact hs1; rintro _ rfl)) | refine al_nil ?_ | refine q_then_n ?_ | refine q_blk_n ?_ | refine aw_block ?_ | refine aw_seq ?_ | refine aw_reg ?_ | refine aw_true rfl ?_ | refine aw_false rfl ?_ | refine aw_skip ?_)
      all_goals exact ⟨_, _, rfl, by omega, k + 1, rfl, hR, by omega, rfl, take_mem ht hf hfp⟩
  · have hkn : knownF L path = none := List.find?_eq_none.2 fun x hx => by
      rw [List.take_of_length_le (by omega)] at ht
      simpa using ht x hx
    rw [hkn]
    repeat' (first | refine s_op rfl ?_ | (apply s_move; (iterate 4 (exact rfl))) | (apply s_assign; (iterate 4 (exact rfl))) | (apply s_len tab_ok; (iterate 5 (exact rfl))) | (apply s_build tabZ_ok; (iterate 5 (exact rfl))) | (apply s_lss_f; (iterate 5 (exact rfl)); omega) | (apply s_storeF tab_ok; (iterate 7 (exact rfl)); exact hR; (iterate 2 (exact rfl)); intro σ hc; replace hR := hc.at'; clear hc) | refine al_nil ?_ | refine q_then_n ?_ | refine q_blk_e ?_ | refine q_then_e ?_ | refine aw_exit ?_ | refine aw_seq ?_ | refine aw_reg ?_ | refine aw_false rfl ?_ | refine aw_ret ?_)
    all_goals exact q_retB (resB_2 rfl (resV_c (t := 146) rfl rfl hR rfl) (resV_t rfl) rfl) ⟨_, rfl, rfl⟩
end Go.Proofs.Ytjflembhgjcgkaa
/- XAlAl2: Al, Al2 in one. -/
set_option linter.unusedSimpArgs false
set_option linter.unusedVariables false
/- Al: a slice that is written out, owned. -/
namespace Go.Proofs.Ytjflembhgjcgkaa
open Go.RowKit

section
variable {P : Program} {T : Tab} {Z : TabZ} {nt : Nat} {Q : Exit → Fr → List AObj → Prop} {fr : Fr} {σ : List AObj} {ops : Array Oper} {dr : Bool} {dos ends : List Nat} {l : Trr} {o : Oper} {i d : Nat} {next : Fr → List AObj → Prop} {keep : Bool}
variable {ty : TypeId} {pos : String} {aft : Array Edge} {gd : Option (Nat × Bool)}

theorem do_litO (hT : okTab P T = true) {t e sz bytes len : Nat} {agg : Bool} {parts : Array (Nat × Operand)} {rows : List (List DV)} (ho : o.op = .buildSlice t len parts) (ht : dstOk o.dst nt = true) (hs : find1 T.sl t = some e) (he : find1 T.ty e = some (sz, bytes, agg)) {z : List Value} (hz : ZIs P e z)
    (hr : litRows sz (parts.toList.map fun p => (p.1, aget fr p.2)) 0 = some rows) (hl : Nat.beq parts.size len = true) (hb : Nat.ble (len * sz) 16777216 = true) (hlb : Nat.ble len 16777216 = true) (h : next (fput o.dst (.own σ.length 0 sz 0 rows.length) fr) (σ ++ [.arr e sz 0 rows])) : DoOp P nt o fr σ keep next := by
  refine do_value ht (fun v σ' => v = .own σ.length 0 sz 0 rows.length ∧ σ' = σ ++ [.arr e sz 0 rows]) (fun v σ' ⟨a, b⟩ => a ▸ b ▸ h) fun k x A w s => ?_
  obtain ⟨i, zv, e1, e2, e3⟩ := hz.ex
  have hl := Nat.eq_of_beq_eq_true hl
  have hb := Nat.le_of_ble_eq_true hb
  have hlb := Nat.le_of_ble_eq_true hlb
  have hrl : ∀ (l : List (Nat × AV)) (i : Nat) (rs : List (List DV)), litRows sz l i = some rs → rs.length = l.length := fun l => by
    induction l with
    | nil => intro i rs h; cases h; rfl
    | cons p l ih =>
      intro i rs h
      unfold litRows at h
      split at h
      · rename_i ds rs' _ hrs
        cases hc : (Nat.beq p.1 i && Nat.beq ds.length sz && oneA p.2) <;> rw [hc] at h <;> cases h
        simp [ih _ _ hrs]
      · cases h
  have hlen := hrl _ _ _ hr
  simp only [List.length_map, Array.length_toList] at hlen
  have hsz := (T.tyIs hT he).size_run w
  generalize hza : ((Array.range (len * sz)).map fun j => (if len * sz = 0 then (#[] : Array Value) else zv.cells)[j % (if len * sz = 0 then (#[] : Array Value) else zv.cells).size]!) = za
  have hzs : za.toList.length = parts.toList.length * sz := by rw [← hza]; simp [hl]
  obtain ⟨us, q1, q2, q3⟩ := fill_lit (x := x) sz (parts.toList.map fun p => (p.1, aget fr p.2)) (parts.toList.map fun p => (p.1, A.eval p.2)) 0 rows [] za.toList (by simp) (fun j p q hp hq => by
    simp only [List.getElem?_map, Option.map_eq_some_iff] at hp hq
    obtain ⟨y, hy, rfl⟩ := hp
    obtain ⟨y', hy', rfl⟩ := hq
    rw [hy] at hy'
    injection hy' with hy'
    subst hy'
    exact ⟨rfl, s.arg y.2⟩) hr (by simp) (by simpa using hzs)
  simp only [List.nil_append, Array.toArray_toList] at q1
  have hx := x.push_ext ⟨w.heap.size, rows.length, 0, true⟩
  refine ⟨.slice (some ⟨w.heap.size, 0, none⟩) rows.length rows.length, w.alloc (.cells us.toArray e), x.push ⟨w.heap.size, rows.length, 0, true⟩, _, _, ?_, hx, ?_, s.heap.new ?_, s.calm.alloc _, fun _ => agree_alloc _ _, rfl, rfl⟩
  · unfold execOp
    have hm : (parts.map fun p => (p.1, A.eval p.2)).toList = parts.toList.map fun p => (p.1, A.eval p.2) := by simp
    have hnot : ¬ (16777216 < len * sz) := by omega
    simp only [ho, Instr.buildSlice, Sem.run_bind, run_underlying (T.slIs hT hs), Result.andThen_ok, hsz]
    by_cases h0 : len * sz = 0
    · rw [if_pos h0] at hza
      simp [hnot, h0, hm] at q1 hza ⊢
      subst hza
      simp [q1, newRow, hlen, hl]
    · rw [if_neg h0] at hza
      simp [hnot, h0, hm, zeroValue, run_typeInfo w e1, e2] at q1 hza ⊢
      rw [hza]
      simp [q1, newRow, hlen, hl]
  · refine ⟨by simp [Ctx.push, s.heap.n], by simp, _, rows.length, rfl, fun _ => ⟨Nat.le_refl _, fun _ => ?_, fun q => ?_⟩⟩
    · simp [Ctx.push, s.heap.n]
    · simp [Ctx.push, s.heap.n] at q
  · refine ⟨rfl, .inr ⟨rfl, us, [], ?_, q2.mono hx.F, q3, Nat.le_refl _, by show rows.length ≤ maxLen; unfold maxLen; omega, ?_⟩⟩
    · simp [oneFrag]
    · rw [q2.len]; simp
/-- A slice that is written out is owned. -/
theorem s_litO (hT : okTab P T = true) (hZ : okTabZ P Z = true) {t e sz bytes len m : Nat} {agg : Bool} {parts : Array (Nat × Operand)} {rows : List (List DV)} {z : List Value} (hp : (dr && !dos.contains i) = false) (hg : guardB ops fr gd = some true) (hk : (dr && !ends.contains i && !true) = false) (ht : Nat.blt d nt = true) (hs : find1 T.sl t = some e) (he : find1 T.ty e = some (sz, bytes, agg)) (hz : find1 Z.zs e = some z)
    (hr : litRows sz (parts.toList.map fun p => (p.1, aget fr p.2)) 0 = some rows) (hl : Nat.beq parts.size len = true) (hb : Nat.ble (len * sz) 16777216 = true) (hlb : Nat.ble len 16777216 = true) (hm : rows.length = m)
    (h : ∀ loc σ', Fresh σ loc (.arr e sz 0 rows) σ' → AL P nt ops dr dos ends l Q ((d, .own loc 0 sz 0 m) :: fr) σ') : ALo P nt ops dr dos ends i ⟨some d, .buildSlice t len parts, ty, pos, aft, gd⟩ l Q fr σ := by
  subst hm
  refine ⟨fun ho => s_do (keep := true) ho hp hg hk ?_⟩
  exact do_litO hT rfl ht hs he (TabZ.z hZ hz) hr hl hb hlb (h _ _ (fresh_app _ _))

end
end Go.Proofs.Ytjflembhgjcgkaa

/- Al2: a field of a struct that stands in no memory. -/
namespace Go.Proofs.Ytjflembhgjcgkaa
open Go.RowKit

section
variable {P : Program} {T : Tab} {Z : TabZ} {nt : Nat} {Q : Exit → Fr → List AObj → Prop} {fr : Fr} {σ : List AObj} {ops : Array Oper} {dr : Bool} {dos ends : List Nat} {l : Trr} {o : Oper} {i d : Nat}
variable {ty : TypeId} {pos : String} {aft : Array Edge} {gd : Option (Nat × Bool)}
end
end Go.Proofs.Ytjflembhgjcgkaa
/- C27: the document's Witness. -/
set_option linter.unusedSimpArgs false
set_option linter.unusedVariables false
namespace Go.Proofs.Ytjflembhgjcgkaa
open Go.RowKit

section
variable {P : Program} {nt : Nat} {Q : Exit → Fr → List AObj → Prop} {fr : Fr} {σ : List AObj}
/-- Between two parts of a code: what is kept. -/
def midQ (M : Fr → List AObj → Prop) : Exit → Fr → List AObj → Prop := fun e fr σ => e = .normal ∧ M fr σ
theorem w_mid {c d : Code} (M : Fr → List AObj → Prop) (h1 : AWk P nt c (midQ M) fr σ) (h2 : ∀ fr σ, M fr σ → AWk P nt d Q fr σ) : AWk P nt (.seq c d) Q fr σ :=
  aw_seq (h1.mono fun e fr σ ⟨he, hm⟩ => by subst he; exact h2 fr σ hm)
theorem w_mid2 {a b c : Code} (M : Fr → List AObj → Prop) (h1 : AWk P nt a (thenQ (AWk P nt b (midQ M)) (midQ M)) fr σ) (h2 : ∀ fr σ, M fr σ → AWk P nt c Q fr σ) : AWk P nt (.seq a (.seq b c)) Q fr σ :=
  aw_seq (h1.mono fun e fr σ h => by
    cases e <;> first | exact w_mid M h h2 | (have h' : _ ∧ _ := h; cases h'.1))
end

end Go.Proofs.Ytjflembhgjcgkaa
