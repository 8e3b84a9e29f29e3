/- C36: cases, of the tree: what is told apart at a place. -/
import Derived.Test.YtjflembhgjcgkaaTP11XC34C35
import Derived.Test.YtjflembhgjcgkaaTP11C10
import Derived.Test.YtjflembhgjcgkaaTP11XAhAiAj
set_option linter.unusedSimpArgs false
set_option linter.unusedVariables false
namespace Go.Proofs.Ytjflembhgjcgkaa
open Go.RowKit

def nilD : Pat → List DV
  | .mk k n i s a b c _ => [.v (.int .u8 k), .v (.int .i64 n), .v (.int .i64 i), .v (.string s), .v (.int .i64 a), .v (.int .i64 b), .v (.int .i64 c), .nil]
def plainP (p : Pat) : Prop := p.l = []
theorem wkR_plain : ∀ {l : List Pat}, (∀ p ∈ l, plainP p) → WkR (l.map nilD) (patR l)
  | [], _ => trivial
  | .mk k n i s a b c m :: l, h => by
    have : m = [] := h (.mk k n i s a b c m) (by simp)
    subst this
    exact ⟨⟨Wk.refl _, Wk.refl _, Wk.refl _, Wk.refl _, Wk.refl _, Wk.refl _, Wk.refl _, Wk.nil 8, trivial⟩, wkR_plain fun p hp => h p (by simp [hp])⟩
theorem wk_plain {l : List Pat} (h : ∀ p ∈ l, plainP p) : Wk (.lst 8 (l.map nilD)) (patsD l) := Wk.lst (wkR_plain h)

/-- What was told apart at so many rows. -/
def outC (rows : List RowT) (path : List Int) (k : Nat) : List Pat := (rows.take k).foldl (fun out r => r.asks.foldl (casesA path) out) []
theorem outC_next {rows : List RowT} {k : Nat} {r : RowT} (path : List Int) (h : rows[k]? = some r) : outC rows path (k + 1) = r.asks.foldl (casesA path) (outC rows path k) := by
  unfold outC
  rw [List.take_add_one, h, List.foldl_append]
  rfl
theorem fold_next {asks : List AskT} {j : Nat} {a : AskT} (path : List Int) (out : List Pat) (h : asks[j]? = some a) : (asks.take (j + 1)).foldl (casesA path) out = casesA path ((asks.take j).foldl (casesA path) out) a := by
  rw [List.take_add_one, h, List.foldl_append]
  rfl
theorem casesA_len (path : List Int) (out : List Pat) (a : AskT) : (casesA path out a).length ≤ out.length + 1 := by
  unfold casesA
  split <;> simp
theorem casesA_plain {path : List Int} {out : List Pat} (a : AskT) (h : ∀ p ∈ out, plainP p) : ∀ p ∈ casesA path out a, plainP p := by
  unfold casesA
  split
  · intro p hp
    rcases List.mem_append.1 hp with hp | hp
    · exact h p hp
    · simp at hp; subst hp; rfl
  · exact h
theorem fold_len (path : List Int) : ∀ (asks : List AskT) (out : List Pat), (asks.foldl (casesA path) out).length ≤ out.length + asks.length
  | [], out => by simp
  | a :: asks, out => by
    have h1 := fold_len path asks (casesA path out a)
    have h2 := casesA_len path out a
    simp only [List.foldl_cons, List.length_cons]; omega
theorem fold_plain {path : List Int} : ∀ (asks : List AskT) {out : List Pat}, (∀ p ∈ out, plainP p) → ∀ p ∈ asks.foldl (casesA path) out, plainP p
  | [], out, h => h
  | a :: asks, out, h => fold_plain asks (casesA_plain a h)
theorem outC_plain (rows : List RowT) (path : List Int) : ∀ k, ∀ p ∈ outC rows path k, plainP p := by
  intro k
  unfold outC
  generalize rows.take k = l
  have : ∀ (l : List RowT) (out : List Pat), (∀ p ∈ out, plainP p) → ∀ p ∈ l.foldl (fun out r => r.asks.foldl (casesA path) out) out, plainP p := by
    intro l
    induction l with
    | nil => exact fun _ h => h
    | cons r l ih => exact fun out h => ih _ (fold_plain r.asks h)
  exact this l [] (by simp)
theorem outC_len {rows : List RowT} (path : List Int) (hM : ∀ r ∈ rows, r.asks.length ≤ 100000) : ∀ k, k ≤ rows.length → (outC rows path k).length ≤ k * 100000
  | 0, _ => by simp [outC]
  | k + 1, hk => by
    obtain ⟨r, hr⟩ : ∃ r, rows[k]? = some r := getS (by omega)
    have h1 := outC_len path hM k (by omega)
    have h2 := fold_len path r.asks (outC rows path k)
    have h3 := hM r (List.mem_of_getElem? hr)
    rw [outC_next path hr]; omega

def conP (x : Int) : Pat := .mk 5 x 0 ⟨#[]⟩ 0 0 0 []
theorem dataOf_at' {g : Sg} {m : Nat} {c : ConT} (h : g.cons[m]? = some c) : g.dataOf (m : Int) = c.data := by
  unfold Sg.dataOf Sg.con
  simp [h]
/-- A constructor stands in its signature. -/
def CaseOk (g : Sg) (first : Pat) : Prop := first.kind = 5 → ∃ (m m' : Nat) (c : ConT) (d : DataT), first.n = m ∧ g.cons[m]? = some c ∧ c.data = m' ∧ g.datas[m']? = some d ∧ d.cons.length ≤ 1000000000

set_option maxRecDepth 100000 in
theorem at103_c (q : Pat) (a : AskT) : RunsP Try.prog 103 [.agg (patD q), .fptr (askD a)] (fun v => v = .v (.bool (isB q a.p))) := by
  obtain ⟨ap, k, n, i, s, a0, b0, c0, l⟩ := a
  obtain ⟨k', n', i', s', a', b', c', l'⟩ := q
  have h := is_c (.mk k' n' i' s' a' b' c' l') (.mk k n i s a0 b0 c0 l)
  refine enterP 8 Try.func103 rfl (by kernel_rfl) rfl rfl rfl ?_
  cases hb : isB (.mk k' n' i' s' a' b' c' l') (.mk k n i s a0 b0 c0 l) <;> rw [hb] at h
  · repeat' (first | refine s_op rfl ?_ | (apply s_fa_f tab_ok; (iterate 6 (exact rfl))) | (apply s_ld_f tab_ok; (iterate 6 (exact rfl))) | (apply s_assign; (iterate 4 (exact rfl))) | (apply s_boxZ; (iterate 5 (exact rfl)); first | exact rfl | exact allD_mapd _) | (apply s_call; (iterate 6 (exact rfl)); first | (exact h; rintro _ rfl)) | refine al_nil ?_ | refine q_then_n ?_ | refine aw_seq ?_ | refine aw_reg ?_ | refine aw_ret ?_)
    all_goals exact q_ret rfl ⟨_, rfl, by simp [hb]⟩
  · repeat' (first | refine s_op rfl ?_ | (apply s_fa_f tab_ok; (iterate 6 (exact rfl))) | (apply s_ld_f tab_ok; (iterate 6 (exact rfl))) | (apply s_assign; (iterate 4 (exact rfl))) | (apply s_boxZ; (iterate 5 (exact rfl)); first | exact rfl | exact allD_mapd _) | (apply s_call; (iterate 6 (exact rfl)); first | (exact h; rintro _ rfl)) | refine al_nil ?_ | refine q_then_n ?_ | refine aw_seq ?_ | refine aw_reg ?_ | refine aw_ret ?_)
    all_goals exact q_ret rfl ⟨_, rfl, by simp [hb]⟩

def bldV (g : Sg) (left : Int) : List AV := [.d (.lst 3 (g.datas.map dataD)), .d (.lst 4 (g.cons.map conD)), .d (.v (.int .i64 left))]

set_option maxRecDepth 100000 in
set_option maxHeartbeats 8000000 in
theorem cases_con (g : Sg) (rows : List RowT) (path : List Int) (m m' : Nat) (nm : ByteArray) (fs ms : List (List DV)) (dn : ByteArray) (dp : Int) (dc : List Int) (i : Int) (s : ByteArray) (a b c : Int) (l : List Pat) (hq : g.cons[m]? = some ⟨nm, m', fs, ms⟩) (hd : g.datas[m']? = some ⟨dn, dp, dc⟩) (hl : dc.length ≤ 1000000000) {σ0 : List AObj} {locB : Nat} {left : Int}
    (hB0 : σ0[locB]? = some (.row 101 (bldV g left))) :
    Runs Try.prog 85 [.ptr locB 0 0, .d (rowsTD rows), .d (intsD path), .d (.agg (patD (.mk 5 m i s a b c l)))] σ0 (fun v σ' => v = .d (patsD (dc.map conP)) ∧ KeptP (fun _ => True) σ0 σ') := by
  have hB := hB0
  have e1 : (dc.map intRow).length = dc.length := by simp
  have hml := (List.getElem?_eq_some_iff.1 hq).1
  have hml' := (List.getElem?_eq_some_iff.1 hd).1
  have hqr := row_map (f := conD) hq
  have hdr := row_map (f := dataD) hd
  have e2 : (g.cons.map conD).length = g.cons.length := by simp
  have e3 : (g.datas.map dataD).length = g.datas.length := by simp
  refine enter 88 Try.func85 rfl (by kernel_rfl) rfl rfl rfl ?_
  repeat' (first | refine s_op rfl ?_ | (apply s_move; (iterate 4 (exact rfl))) | (apply s_fa_p tab_ok; (iterate 5 (exact rfl))) | (apply s_fa_f tab_ok; (iterate 6 (exact rfl))) | (apply s_ld_f tab_ok; (iterate 6 (exact rfl))) | (apply s_assign; (iterate 4 (exact rfl))) | (apply s_len tab_ok; (iterate 5 (exact rfl))) | (apply s_idx tab_ok; (iterate 7 (exact rfl)); (first | exact patR_get (by assumption) | exact valR_get (by assumption) | exact row_map (by assumption) | assumption)) | (apply s_nilc; (iterate 5 (exact rfl))) | (apply s_boxZ; (iterate 5 (exact rfl)); first | exact rfl | exact allD_mapd _) | (apply s_eql_t; (iterate 5 (exact rfl)); omega) | (apply s_ldF tab_ok; (iterate 5 (exact rfl)); exact hB; exact rfl) | refine al_nil ?_ | refine q_then_n ?_ | refine aw_block ?_ | refine aw_seq ?_ | refine aw_reg ?_ | refine aw_true rfl ?_ | refine aw_draws (id := 3) (trO [0, 1, 2, 3, 4, 5, 6, 7, 8, 9, 10, 11, 12, 13, 14, 15, 16, 17, 18, 19] .nil) [] [] mixed_ok (by kernel_rfl) ?_)
  refine w_adoptF 9 41 8 rfl ?_
  intro loc σ hc
  have hA := hc.at'
  have hK := hc.keptP fun _ => True
  have oA := (KeptP.refl (fun _ => True) _).out hc
  clear hc hB hB0
  refine w_loop [9, 36, 37, 38] (fun n vs σ => ∃ k ver : Nat, vs = [.own loc ver 8 0 (((dc.take k).map conP).map nilD).length, .d (intsD dc), .d (.v (.int .i64 ((dc.map intRow).length : Int))), .d (.v (.int .i64 (k : Int)))] ∧ σ[loc]? = some (.arr 41 8 ver (((dc.take k).map conP).map nilD)) ∧ KeptP (fun _ => True) σ0 σ ∧ k ≤ dc.length ∧ n = dc.length - k) rfl ⟨0, 0, rfl, hA, hK, by omega, rfl⟩ ?_
  clear hA hK
  rintro n vs σ ⟨k, ver, rfl, hA, hK, hk, rfl⟩ fr hfr
  cases hfr
  by_cases hlt : k < dc.length
  · obtain ⟨x, hx⟩ := getS hlt
    have ht : dc.take (k + 1) = dc.take k ++ [x] := by rw [List.take_add_one, hx]; rfl
    have htl : (dc.take k).length = k := by rw [List.length_take]; omega
    repeat' (first | refine s_op rfl ?_ | (apply s_move; (iterate 4 (exact rfl))) | (apply s_ld_f tab_ok; (iterate 6 (exact rfl))) | (apply s_assign; (iterate 4 (exact rfl))) | (apply s_idx tab_ok; (iterate 7 (exact rfl)); (first | exact patR_get (by assumption) | exact valR_get (by assumption) | exact row_map (by assumption) | assumption)) | (apply s_build tabZ_ok; (iterate 5 (exact rfl))) | (apply s_lit tab_ok tabZ_ok; (iterate 10 (exact rfl))) | (apply s_lss_t; (iterate 5 (exact rfl)); omega) | (apply s_add64; (iterate 5 (exact rfl)); omega) | (apply s_appF tab_ok tabZ_ok (rows2 := [nilD (conP x)]) (rows3 := ((dc.take (k + 1)).map conP).map nilD) (m := (((dc.take (k + 1)).map conP).map nilD).length); (iterate 10 (exact rfl)); exact hA; exact src_of (Tab.slIs tab_ok (t := 26) rfl) (rows_d rfl); (simp only [ht, List.map_append, List.map_cons, List.map_nil]); (simp only [ht, List.length_map, List.length_append, List.length_cons, List.length_nil, and_true, true_and]; omega); intro σ hc; replace hA := hc.at'; replace hK := hK.chg oA hc; clear hc) | refine al_nil ?_ | refine q_then_n ?_ | refine q_blk_n ?_ | refine aw_block ?_ | refine aw_seq ?_ | refine aw_reg ?_ | refine aw_true rfl ?_ | refine aw_skip ?_)
    exact ⟨_, _, rfl, by omega, k + 1, _, rfl, hA, hK, by omega, rfl⟩
  · rw [List.take_of_length_le (by omega)] at hA
    rw [List.take_of_length_le (by omega)]
    refine w_freezeF 9 rfl hA rfl ?_
    intro σ hc
    replace hK := hK.chg oA hc
    clear hA hc
    refine w_wk 9 (patsD (dc.map conP)) rfl (wk_plain fun p hp => by obtain ⟨x, _, rfl⟩ := List.mem_map.1 hp; rfl) ?_
    repeat' (first | refine s_op rfl ?_ | (apply s_move; (iterate 4 (exact rfl))) | (apply s_assign; (iterate 4 (exact rfl))) | (apply s_lss_f; (iterate 5 (exact rfl)); omega) | refine al_nil ?_ | refine q_then_n ?_ | refine q_blk_e ?_ | refine q_then_e ?_ | refine aw_exit ?_ | refine q_then_r ?_ | refine aw_seq ?_ | refine aw_reg ?_ | refine aw_false rfl ?_ | refine aw_ret ?_)
    exact q_ret rfl ⟨rfl, hK⟩

set_option maxRecDepth 100000 in
set_option maxHeartbeats 8000000 in
theorem cases_lit (rows : List RowT) (path : List Int) (hp : path.length ≤ 1000000000) (hM : ∀ r ∈ rows, r.asks.length ≤ 100000 ∧ ∀ a ∈ r.asks, a.path.length ≤ 1000000000) (hl : rows.length ≤ 100000) (kk nn i : Int) (s : ByteArray) (a b c : Int) (l : List Pat) (h5 : kk ≠ 5) {σ0 : List AObj} {locB : Nat} :
    Runs Try.prog 85 [.ptr locB 0 0, .d (rowsTD rows), .d (intsD path), .d (.agg (patD (.mk kk nn i s a b c l)))] σ0 (fun v σ' => v = .d (patsD (outC rows path rows.length)) ∧ KeptP (fun _ => True) σ0 σ') := by
  have e1 : (rows.map rowTD).length = rows.length := by simp
  have hM1 : ∀ r ∈ rows, r.asks.length ≤ 100000 := fun r hr => (hM r hr).1
  refine enter 88 Try.func85 rfl (by kernel_rfl) rfl rfl rfl ?_
  repeat' (first | refine s_op rfl ?_ | (apply s_move; (iterate 4 (exact rfl))) | (apply s_fa_f tab_ok; (iterate 6 (exact rfl))) | (apply s_ld_f tab_ok; (iterate 6 (exact rfl))) | (apply s_assign; (iterate 4 (exact rfl))) | (apply s_len tab_ok; (iterate 5 (exact rfl))) | (apply s_boxZ; (iterate 5 (exact rfl)); first | exact rfl | exact allD_mapd _) | (apply s_eql_f; (iterate 5 (exact rfl)); omega) | refine al_nil ?_ | refine q_then_n ?_ | refine aw_block ?_ | refine aw_seq ?_ | refine aw_reg ?_ | refine aw_false rfl ?_ | refine aw_skip ?_)
  refine w_adoptF 9 41 8 rfl ?_
  intro loc σ hc
  have hA := hc.at'
  have hK := hc.keptP fun _ => True
  have oA := (KeptP.refl (fun _ => True) _).out hc
  clear hc
  refine w_loop [2, 9, 49, 50, 51] (fun n vs σ => ∃ k ver : Nat, vs = [.d (intsD path), .own loc ver 8 0 ((outC rows path k).map nilD).length, .d (rowsTD rows), .d (.v (.int .i64 ((rows.map rowTD).length : Int))), .d (.v (.int .i64 (k : Int)))] ∧ σ[loc]? = some (.arr 41 8 ver ((outC rows path k).map nilD)) ∧ KeptP (fun _ => True) σ0 σ ∧ k ≤ rows.length ∧ n = rows.length - k) rfl ⟨0, 0, rfl, hA, hK, by omega, rfl⟩ ?_
  clear hA hK
  rintro n vs σ ⟨k, ver, rfl, hA, hK, hk, rfl⟩ fr hfr
  cases hfr
  by_cases hlt : k < rows.length
  · obtain ⟨⟨asks, rn⟩, hq⟩ := getS hlt
    obtain ⟨m1, m2⟩ := hM _ (List.mem_of_getElem? hq)
    have m1 : asks.length ≤ 100000 := m1
    have e2 : (asks.map askD).length = asks.length := by simp
    have hn := outC_next path hq
    have hol := outC_len path hM1 k (by omega)
    have hk2 : k * 100000 ≤ 10000000000 := by omega
    have hpl := outC_plain rows path k
    generalize hout : outC rows path k = out at *
    clear hout
    repeat' (first | refine s_op rfl ?_ | (apply s_move; (iterate 4 (exact rfl))) | (apply s_fa_f tab_ok; (iterate 6 (exact rfl))) | (apply s_ld_f tab_ok; (iterate 6 (exact rfl))) | (apply s_len tab_ok; (iterate 5 (exact rfl))) | (apply s_idx tab_ok; (iterate 7 (exact rfl)); (first | exact patR_get (by assumption) | exact valR_get (by assumption) | exact row_map (by assumption) | assumption)) | (apply s_lss_t; (iterate 5 (exact rfl)); omega) | (apply s_allocF tabZ_ok; (iterate 6 (exact rfl)); intro locX σ hc; have hX := hc.at'; have nAX := hc.ne hA; replace hA := hc.keep hA; have oX := hK.out hc; replace hK := hK.fresh hc; clear hc) | (apply s_storeF tab_ok; (iterate 7 (exact rfl)); exact hX; (iterate 2 (exact rfl)); intro σ hc; replace hX := hc.at'; replace hA := hc.keep nAX hA; replace hK := hK.chg oX hc; clear hc; (first | (refine s_freezeP 13 rfl hX rfl ?_) | (refine s_freezeP 15 rfl hX rfl ?_)); intro σ hc; replace hA := hc.keep nAX hA; replace hK := hK.chg oX hc; clear hX nAX oX hc) | refine al_nil ?_ | refine q_then_n ?_ | refine aw_block ?_ | refine aw_seq ?_ | refine aw_reg ?_ | refine aw_true rfl ?_ | refine aw_skip ?_)
    refine w_loop [2, 9, 49, 50, 51, 56, 57, 58] (fun n vs σ => ∃ j ver : Nat, vs = [.d (intsD path), .own loc ver 8 0 (((asks.take j).foldl (casesA path) out).map nilD).length, .d (rowsTD rows), .d (.v (.int .i64 ((rows.map rowTD).length : Int))), .d (.v (.int .i64 (k : Int))), .d (asksD asks), .d (.v (.int .i64 ((asks.map askD).length : Int))), .d (.v (.int .i64 (j : Int)))] ∧ σ[loc]? = some (.arr 41 8 ver (((asks.take j).foldl (casesA path) out).map nilD)) ∧ KeptP (fun _ => True) σ0 σ ∧ j ≤ asks.length ∧ n = asks.length - j) rfl ⟨0, ver, rfl, hA, hK, by omega, rfl⟩ ?_
    clear hA hK
    rintro n vs σ ⟨j, ver, rfl, hA, hK, hj, rfl⟩ fr hfr
    cases hfr
    by_cases hjl : j < asks.length
    · obtain ⟨⟨ap, ak, an, ai, as', aa, ab, ac, al⟩, ha⟩ := getS hjl
      have hf := fold_next path out ha
      have hll := fold_len path (asks.take j) out
      have htl : (asks.take j).length = j := by rw [List.length_take]; omega
      have hpl2 := fold_plain (path := path) (asks.take j) hpl
      have heq := equal_c ap path (m2 _ (List.mem_of_getElem? ha))
      generalize hout2 : (asks.take j).foldl (casesA path) out = out2 at *
      clear hout2
      have hany := containsF1_c out2 103 (.fptr (askD ⟨ap, .mk ak an ai as' aa ab ac al⟩)) (fun p => isB p (.mk ak an ai as' aa ab ac al)) (fun p _ => at103_c p ⟨ap, .mk ak an ai as' aa ab ac al⟩) (by omega)
      have hany := hany.wkA (.cons (wk_plain hpl2) (.cons (Wk.refl _) .nil))
      by_cases hpe : ap = path
      · rw [decide_eq_true hpe] at heq
        cases hb : (out2.any fun p => isB p (.mk ak an ai as' aa ab ac al)) <;> rw [hb] at hany
        · have hf2 : casesA path out2 ⟨ap, .mk ak an ai as' aa ab ac al⟩ = out2 ++ [.mk ak 0 ai as' 0 0 0 []] := by
            unfold casesA; rw [if_pos ⟨hpe, hb⟩]; rfl
          rw [hf2] at hf
          repeat' (first | refine s_op rfl ?_ | (apply s_move; (iterate 4 (exact rfl))) | (apply s_fa_f tab_ok; (iterate 6 (exact rfl))) | (apply s_ld_f tab_ok; (iterate 6 (exact rfl))) | (apply s_assign; (iterate 4 (exact rfl))) | (apply s_pick_t; (iterate 5 (exact rfl))) | (apply s_idx tab_ok; (iterate 7 (exact rfl)); (first | exact patR_get (by assumption) | exact valR_get (by assumption) | exact row_map (by assumption) | assumption)) | (apply s_mkf; (iterate 4 (exact rfl))) | (apply s_build tabZ_ok; (iterate 5 (exact rfl))) | (apply s_lit tab_ok tabZ_ok; (iterate 10 (exact rfl))) | (apply s_not_f; (iterate 4 (exact rfl))) | (apply s_lss_t; (iterate 5 (exact rfl)); omega) | (apply s_add64; (iterate 5 (exact rfl)); omega) | (apply s_allocF tabZ_ok; (iterate 6 (exact rfl)); intro locX σ hc; have hX := hc.at'; have nAX := hc.ne hA; replace hA := hc.keep hA; have oX := hK.out hc; replace hK := hK.fresh hc; clear hc) | (apply s_storeF tab_ok; (iterate 7 (exact rfl)); exact hX; (iterate 2 (exact rfl)); intro σ hc; replace hX := hc.at'; replace hA := hc.keep nAX hA; replace hK := hK.chg oX hc; clear hc; (first | (refine s_freezeP 13 rfl hX rfl ?_) | (refine s_freezeP 15 rfl hX rfl ?_)); intro σ hc; replace hA := hc.keep nAX hA; replace hK := hK.chg oX hc; clear hX nAX oX hc) | (apply s_callB; (iterate 6 (exact rfl)); exact viewL_own hA rfl (viewL_d viewL_nil); exact hany; exact (fun v h => ⟨_, h⟩); rintro _ rfl) | (apply s_appF tab_ok tabZ_ok (rows2 := [nilD (.mk ak 0 ai as' 0 0 0 [])]) (rows3 := ((asks.take (j + 1)).foldl (casesA path) out).map nilD) (m := (((asks.take (j + 1)).foldl (casesA path) out).map nilD).length); (iterate 10 (exact rfl)); exact hA; exact src_of (Tab.slIs tab_ok (t := 26) rfl) (rows_d rfl); (simp only [hf, List.map_append, List.map_cons, List.map_nil]); (simp only [hf, List.length_map, List.length_append, List.length_cons, List.length_nil, and_true, true_and]; omega); intro σ hc; replace hA := hc.at'; replace hK := hK.chg oA hc; clear hc) | (apply s_call; (iterate 6 (exact rfl)); first | (exact heq; rintro _ rfl)) | refine al_nil ?_ | refine q_then_n ?_ | refine q_blk_n ?_ | refine aw_block ?_ | refine aw_seq ?_ | refine aw_reg ?_ | refine aw_true rfl ?_ | refine aw_skip ?_)
          all_goals exact ⟨_, _, rfl, by omega, j + 1, _, rfl, hA, hK, by omega, rfl⟩
        · have hf2 : casesA path out2 ⟨ap, .mk ak an ai as' aa ab ac al⟩ = out2 := by
            unfold casesA; rw [if_neg (fun q => by have := q.2; rw [hb] at this; cases this)]
          rw [hf2] at hf
          repeat' (first | refine s_op rfl ?_ | (apply s_move; (iterate 4 (exact rfl))) | (apply s_fa_f tab_ok; (iterate 6 (exact rfl))) | (apply s_ld_f tab_ok; (iterate 6 (exact rfl))) | (apply s_pick_t; (iterate 5 (exact rfl))) | (apply s_idx tab_ok; (iterate 7 (exact rfl)); (first | exact patR_get (by assumption) | exact valR_get (by assumption) | exact row_map (by assumption) | assumption)) | (apply s_mkf; (iterate 4 (exact rfl))) | (apply s_not_t; (iterate 4 (exact rfl))) | (apply s_lss_t; (iterate 5 (exact rfl)); omega) | (apply s_add64; (iterate 5 (exact rfl)); omega) | (apply s_allocF tabZ_ok; (iterate 6 (exact rfl)); intro locX σ hc; have hX := hc.at'; have nAX := hc.ne hA; replace hA := hc.keep hA; have oX := hK.out hc; replace hK := hK.fresh hc; clear hc) | (apply s_storeF tab_ok; (iterate 7 (exact rfl)); exact hX; (iterate 2 (exact rfl)); intro σ hc; replace hX := hc.at'; replace hA := hc.keep nAX hA; replace hK := hK.chg oX hc; clear hc; (first | (refine s_freezeP 13 rfl hX rfl ?_) | (refine s_freezeP 15 rfl hX rfl ?_)); intro σ hc; replace hA := hc.keep nAX hA; replace hK := hK.chg oX hc; clear hX nAX oX hc) | (apply s_callB; (iterate 6 (exact rfl)); exact viewL_own hA rfl (viewL_d viewL_nil); exact hany; exact (fun v h => ⟨_, h⟩); rintro _ rfl) | (apply s_call; (iterate 6 (exact rfl)); first | (exact heq; rintro _ rfl)) | refine al_nil ?_ | refine q_then_n ?_ | refine q_blk_n ?_ | refine aw_block ?_ | refine aw_seq ?_ | refine aw_reg ?_ | refine aw_true rfl ?_ | refine aw_false rfl ?_ | refine aw_skip ?_)
          all_goals exact ⟨_, _, rfl, by omega, j + 1, ver, by rw [hf]; rfl, by rw [hf]; exact hA, hK, by omega, rfl⟩
      · rw [decide_eq_false hpe] at heq
        have hf2 : casesA path out2 ⟨ap, .mk ak an ai as' aa ab ac al⟩ = out2 := by
          unfold casesA; rw [if_neg (fun q => hpe q.1)]
        rw [hf2] at hf
        repeat' (first | refine s_op rfl ?_ | (apply s_skipV; (iterate 2 (exact rfl))) | (apply s_move; (iterate 4 (exact rfl))) | (apply s_fa_f tab_ok; (iterate 6 (exact rfl))) | (apply s_ld_f tab_ok; (iterate 6 (exact rfl))) | (apply s_pick_f; (iterate 5 (exact rfl))) | (apply s_idx tab_ok; (iterate 7 (exact rfl)); (first | exact patR_get (by assumption) | exact valR_get (by assumption) | exact row_map (by assumption) | assumption)) | (apply s_lss_t; (iterate 5 (exact rfl)); omega) | (apply s_add64; (iterate 5 (exact rfl)); omega) | (apply s_allocF tabZ_ok; (iterate 6 (exact rfl)); intro locX σ hc; have hX := hc.at'; have nAX := hc.ne hA; replace hA := hc.keep hA; have oX := hK.out hc; replace hK := hK.fresh hc; clear hc) | (apply s_storeF tab_ok; (iterate 7 (exact rfl)); exact hX; (iterate 2 (exact rfl)); intro σ hc; replace hX := hc.at'; replace hA := hc.keep nAX hA; replace hK := hK.chg oX hc; clear hc; (first | (refine s_freezeP 13 rfl hX rfl ?_) | (refine s_freezeP 15 rfl hX rfl ?_)); intro σ hc; replace hA := hc.keep nAX hA; replace hK := hK.chg oX hc; clear hX nAX oX hc) | (apply s_call; (iterate 6 (exact rfl)); first | (exact heq; rintro _ rfl)) | refine al_nil ?_ | refine q_then_n ?_ | refine q_blk_n ?_ | refine aw_block ?_ | refine aw_seq ?_ | refine aw_reg ?_ | refine aw_true rfl ?_ | refine aw_false rfl ?_ | refine aw_skip ?_)
        all_goals exact ⟨_, _, rfl, by omega, j + 1, ver, by rw [hf]; rfl, by rw [hf]; exact hA, hK, by omega, rfl⟩
    · rw [List.take_of_length_le (by omega)] at hA
      rw [List.take_of_length_le (by omega)]
      repeat' (first | refine s_op rfl ?_ | (apply s_move; (iterate 4 (exact rfl))) | (apply s_lss_f; (iterate 5 (exact rfl)); omega) | (apply s_add64; (iterate 5 (exact rfl)); omega) | refine al_nil ?_ | refine q_then_n ?_ | refine q_blk_n ?_ | refine q_blk_e ?_ | refine q_then_e ?_ | refine aw_exit ?_ | refine aw_seq ?_ | refine aw_reg ?_ | refine aw_false rfl ?_)
      exact ⟨_, _, rfl, by omega, k + 1, ver, by rw [hn]; rfl, by rw [hn]; exact hA, hK, by omega, rfl⟩
  · have hkk : k = rows.length := by omega
    subst hkk
    have hpl := outC_plain rows path rows.length
    refine w_freezeF 9 rfl hA rfl ?_
    intro σ hc
    replace hK := hK.chg oA hc
    clear hA hc
    refine w_wk 9 (patsD (outC rows path rows.length)) rfl (wk_plain hpl) ?_
    repeat' (first | refine s_op rfl ?_ | (apply s_move; (iterate 4 (exact rfl))) | (apply s_assign; (iterate 4 (exact rfl))) | (apply s_lss_f; (iterate 5 (exact rfl)); omega) | refine al_nil ?_ | refine q_then_n ?_ | refine q_blk_e ?_ | refine q_then_e ?_ | refine aw_exit ?_ | refine aw_seq ?_ | refine aw_reg ?_ | refine aw_false rfl ?_ | refine aw_ret ?_)
    exact q_ret rfl ⟨rfl, hK⟩

theorem cases_o (g : Sg) (rows : List RowT) (path : List Int) (first : Pat) (hp : path.length ≤ 1000000000) (hM : ∀ r ∈ rows, r.asks.length ≤ 100000 ∧ ∀ a ∈ r.asks, a.path.length ≤ 1000000000) (hl : rows.length ≤ 100000) (hok : CaseOk g first) {σ0 : List AObj} {locB : Nat} {left : Int} (hB0 : σ0[locB]? = some (.row 101 (bldV g left))) :
    Runs Try.prog 85 [.ptr locB 0 0, .d (rowsTD rows), .d (intsD path), .d (.agg (patD first))] σ0 (fun v σ' => v = .d (patsD (casesF g rows path first)) ∧ KeptP (fun _ => True) σ0 σ') := by
  obtain ⟨k, n, i, s, a, b, c, l⟩ := first
  by_cases h5 : k = 5
  · subst h5
    obtain ⟨m, m', ⟨nm, dt, fs, ms⟩, ⟨dn, dp, dc⟩, h1, h2, h3, h4, h6⟩ := hok rfl
    simp only [Pat.n] at h1
    subst h1
    simp only at h3 h6
    subst h3
    have := cases_con g rows path m m' nm fs ms dn dp dc i s a b c l h2 h4 h6 hB0
    unfold casesF
    simp only [Pat.kind, Pat.n, if_true]
    rw [dataOf_at' h2]
    unfold Sg.consOf Sg.dat
    simp only [Int.natCast_nonneg, if_true, Int.toNat_natCast, h4]
    exact this
  · have := cases_lit rows path hp hM hl k n i s a b c l h5 (σ0 := σ0) (locB := locB)
    unfold casesF
    simp only [Pat.kind, h5, if_false]
    unfold outC at this
    rw [List.take_length] at this
    exact this
end Go.Proofs.Ytjflembhgjcgkaa
