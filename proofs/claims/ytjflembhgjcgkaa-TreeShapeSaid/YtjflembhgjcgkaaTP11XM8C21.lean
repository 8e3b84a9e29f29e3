/- M8, C21: in one. -/
import Derived.Test.YtjflembhgjcgkaaTP11XM4M7M5
import Derived.Test.YtjflembhgjcgkaaTP11C19
import Derived.Test.YtjflembhgjcgkaaTP11C20
set_option linter.unusedSimpArgs false
set_option linter.unusedVariables false
/- M8: useful, as a function; how far it goes. No program in sight. -/
namespace Go.Proofs.Ytjflembhgjcgkaa
open Go.RowKit

def setL : Pat → List Pat → Pat
  | .mk k n i s _ _ _ _, l => .mk k n i s 0 0 0 l
def patH (h : Head) : Pat := .mk h.kind h.n h.i h.s 0 0 0 []
def arityH (g : Sg) (h : Head) : Nat := if h.kind = 5 then g.arity h.n else 0
def withF (r : List (List Pat) → List Pat → Option (List Pat)) (rows : List (List Pat)) (vs : List Pat) (h : Head) (p : Pat) (kids : List Pat) : Option (List Pat) :=
  (r (belowL rows h kids.length) (kids ++ vs)).map fun w => setL p (w.take kids.length) :: w.drop kids.length
def usefulF (g : Sg) : Nat → List (List Pat) → List Pat → Option (List Pat)
  | 0, _, _ => none
  | _ + 1, rows, [] => if rows.isEmpty then some [] else none
  | f + 1, rows, v0 :: vs => match asksH v0 with
    | some h => withF (usefulF g f) rows vs h v0 v0.l
    | none => match freshP g (headsL rows), usefulF g f (othersL rows) vs with
      | some p, some w => some (p :: w)
      | _, _ => (headsL rows).findSome? fun h => withF (usefulF g f) rows vs h (patH h) (anysL (arityH g h))

theorem usefulF_len (g : Sg) : ∀ (f : Nat) (rows : List (List Pat)) (v w : List Pat), usefulF g f rows v = some w → w.length = v.length
  | 0, _, _, _, h => by simp [usefulF] at h
  | f + 1, rows, [], w, h => by
    simp only [usefulF] at h
    split at h
    · injection h with h; subst h; rfl
    · cases h
  | f + 1, rows, v0 :: vs, w, h => by
    have hw : ∀ h' p kids, withF (usefulF g f) rows vs h' p kids = some w → w.length = vs.length + 1 := fun h' p kids e => by
      unfold withF at e
      obtain ⟨w', e1, e2⟩ := Option.map_eq_some_iff.1 e
      have := usefulF_len g f _ _ _ e1
      rw [List.length_append] at this
      subst e2
      simp [List.length_drop]; omega
    simp only [usefulF] at h
    rw [List.length_cons]
    split at h
    · exact hw _ _ _ h
    · split at h
      · rename_i p w' hp hw'
        injection h with h
        subst h
        rw [List.length_cons, usefulF_len g f _ _ _ hw']
      · obtain ⟨h', _, e⟩ := List.exists_of_findSome?_eq_some h
        exact hw _ _ _ e

mutual
def acP : Pat → Nat
  | .mk k _ _ _ _ _ _ l => if k = 3 ∨ k = 4 ∨ k = 5 then 1 + acL l else 0
def acL : List Pat → Nat
  | [] => 0
  | p :: l => acP p + acL l
end
theorem acL_append : ∀ (l m : List Pat), acL (l ++ m) = acL l + acL m
  | [], m => by simp [acL]
  | a :: l, m => by simp [acL, acL_append l m]; omega
theorem acL_anys : ∀ n : Nat, acL (anysL n) = 0
  | 0 => rfl
  | n + 1 => by
    show acL (anyP :: anysL n) = 0
    rw [acL, acL_anys n]; simp [acP, anyP]
theorem acP_some : ∀ {p : Pat} {h : Head}, asksH p = some h → acP p = 1 + acL p.l
  | .mk k n i s a b c l, h, e => by
    simp only [asksH] at e
    have : k = 3 ∨ k = 4 ∨ k = 5 := by
      by_cases h3 : k = 3
      · exact .inl h3
      by_cases h4 : k = 4
      · exact .inr (.inl h4)
      by_cases h5 : k = 5
      · exact .inr (.inr h5)
      rw [if_neg h3, if_neg h4, if_neg h5] at e; cases e
    simp only [acP, Pat.l]
    rw [if_pos this]
def sumAc (rows : List (List Pat)) : Nat := (rows.map acL).sum
theorem sumAc_cons (r : List Pat) (rows : List (List Pat)) : sumAc (r :: rows) = acL r + sumAc rows := by simp [sumAc]
theorem below_row {h : Head} {kids : Nat} {r q : List Pat} (e : belowR h kids r = some q) : acL q ≤ acL r := by
  cases r with
  | nil => cases e
  | cons p rest =>
    simp only [belowR] at e
    cases ha : asksH p with
    | none => rw [ha] at e; injection e with e; subst e; rw [acL_append, acL_anys, acL]; omega
    | some k =>
      rw [ha] at e
      simp only at e
      split at e
      · injection e with e; subst e; rw [acL_append, acL, acP_some ha]; omega
      · cases e
theorem belowL_cons (r : List Pat) (rows : List (List Pat)) (h : Head) (kids : Nat) : belowL (r :: rows) h kids = (belowR h kids r).toList ++ belowL rows h kids := by
  unfold belowL
  rw [List.filterMap_cons]
  cases belowR h kids r <;> rfl
theorem below_le (h : Head) (kids : Nat) : ∀ rows : List (List Pat), sumAc (belowL rows h kids) ≤ sumAc rows
  | [] => by simp [belowL, sumAc]
  | r :: rows => by
    have ih := below_le h kids rows
    rw [belowL_cons, sumAc_cons]
    cases e : belowR h kids r with
    | none => simp; omega
    | some q =>
      have := below_row e
      simp only [Option.toList_some, List.singleton_append]
      rw [sumAc_cons]; omega
theorem below_lt {h : Head} (kids : Nat) : ∀ {rows : List (List Pat)} {p : Pat} {rest : List Pat}, p :: rest ∈ rows → asksH p = some h → sumAc (belowL rows h kids) + 1 ≤ sumAc rows
  | r :: rows, p, rest, hm, ha => by
    rw [belowL_cons, sumAc_cons]
    rcases List.mem_cons.1 hm with rfl | hm
    · have ih := below_le h kids rows
      have e : belowR h kids (p :: rest) = some (p.l ++ rest) := by simp only [belowR]; rw [ha]; simp
      rw [e]
      simp only [Option.toList_some, List.singleton_append]
      rw [sumAc_cons, acL_append, acL, acP_some ha]; omega
    · have ih := below_lt kids hm ha
      cases e : belowR h kids r with
      | none => simp; omega
      | some q =>
        have := below_row e
        simp only [Option.toList_some, List.singleton_append]
        rw [sumAc_cons]; omega
theorem others_le : ∀ rows : List (List Pat), sumAc (othersL rows) ≤ sumAc rows
  | [] => by simp [othersL, sumAc]
  | r :: rows => by
    have ih := others_le rows
    unfold othersL at ih ⊢
    rw [List.filterMap_cons, sumAc_cons]
    cases r with
    | nil => simp only [othersR]; omega
    | cons p rest =>
      simp only [othersR]
      split
      · omega
      · rename_i q e
        split at e
        · injection e with e; subst e; rw [sumAc_cons, acL]; omega
        · cases e
theorem heads_mem : ∀ (rows : List (List Pat)) (acc : List Head) (h : Head), h ∈ rows.foldl headsR acc → h ∈ acc ∨ ∃ p rest, p :: rest ∈ rows ∧ asksH p = some h
  | [], acc, h, hm => .inl hm
  | r :: rows, acc, h, hm => by
    rcases heads_mem rows _ h hm with h1 | ⟨p, rest, h1, h2⟩
    · cases r with
      | nil => exact .inl h1
      | cons p rest =>
        simp only [headsR] at h1
        cases ha : asksH p with
        | none => rw [ha] at h1; exact .inl h1
        | some k =>
          rw [ha] at h1
          simp only [addH] at h1
          split at h1
          · exact .inl h1
          · rcases List.mem_append.1 h1 with h1 | h1
            · exact .inl h1
            · simp at h1; subst h1; exact .inr ⟨p, rest, List.mem_cons_self .., ha⟩
    · exact .inr ⟨p, rest, List.mem_cons_of_mem _ h1, h2⟩
theorem headsL_mem {rows : List (List Pat)} {h : Head} (hm : h ∈ headsL rows) : ∃ p rest, p :: rest ∈ rows ∧ asksH p = some h := by
  rcases heads_mem rows [] h hm with h | h
  · cases h
  · exact h

/-- How much is left. -/
def mu (A : Nat) (rows : List (List Pat)) (v : List Pat) : Nat := (sumAc rows + acL v) * (A + 1) + v.length
theorem mu_con {A kids : Nat} {rows : List (List Pat)} {v0 : Pat} {vs : List Pat} {h : Head} (ha : asksH v0 = some h) (hk : v0.l.length ≤ A) : mu A (belowL rows h kids) (v0.l ++ vs) < mu A rows (v0 :: vs) := by
  unfold mu
  have h1 := below_le h kids rows
  have h2 := acP_some ha
  rw [acL_append, List.length_append, List.length_cons]
  simp only [acL]
  have h3 : (sumAc (belowL rows h kids) + (acL v0.l + acL vs) + 1) * (A + 1) ≤ (sumAc rows + (acP v0 + acL vs)) * (A + 1) := Nat.mul_le_mul_right _ (by omega)
  rw [Nat.add_mul _ 1, Nat.one_mul] at h3
  omega
theorem mu_others {A : Nat} {rows : List (List Pat)} {v0 : Pat} {vs : List Pat} : mu A (othersL rows) vs < mu A rows (v0 :: vs) := by
  unfold mu
  have h1 := others_le rows
  rw [List.length_cons]
  simp only [acL]
  have h3 : (sumAc (othersL rows) + acL vs) * (A + 1) ≤ (sumAc rows + (acP v0 + acL vs)) * (A + 1) := Nat.mul_le_mul_right _ (by omega)
  omega
theorem mu_head {A n kids : Nat} {rows : List (List Pat)} {v0 : Pat} {vs : List Pat} {h : Head} (hm : h ∈ headsL rows) (hn : n ≤ A) : mu A (belowL rows h kids) (anysL n ++ vs) < mu A rows (v0 :: vs) := by
  unfold mu
  obtain ⟨p, rest, h1, h2⟩ := headsL_mem hm
  have h1 := below_lt kids h1 h2
  rw [acL_append, acL_anys, List.length_append, List.length_cons]
  simp only [acL]
  have hl : (anysL n).length = n := by simp [anysL]
  have h3 : (sumAc (belowL rows h kids) + (0 + acL vs) + 1) * (A + 1) ≤ (sumAc rows + (acP v0 + acL vs)) * (A + 1) := Nat.mul_le_mul_right _ (by omega)
  rw [Nat.add_mul _ 1, Nat.one_mul] at h3
  omega

/-- Patterns that may be, through and through. -/
inductive Wf (g : Sg) : Pat → Prop
  | mk {p : Pat} (alone : aloneB g p = true) (kids : ∀ q ∈ p.l, Wf g q) : Wf g p
theorem Wf.alone {g : Sg} {p : Pat} : Wf g p → aloneB g p = true
  | .mk h _ => h
theorem Wf.kids {g : Sg} {p : Pat} : Wf g p → ∀ q ∈ p.l, Wf g q
  | .mk _ h => h
theorem wf_any (g : Sg) : Wf g anyP := .mk (by simp [aloneB, anyP]) fun q hq => by cases hq
theorem wf_anys (g : Sg) (n : Nat) : ∀ p ∈ anysL n, Wf g p := fun p hp => by rw [List.eq_of_mem_replicate hp]; exact wf_any g
theorem tog_wf {g : Sg} {l : List Pat} (h : Tog g l) : ∀ p ∈ l, Wf g p := by
  induction h with
  | mk h1 h2 h3 ih =>
    intro p hp
    refine .mk (h1 p hp) fun q hq => ?_
    obtain ⟨k, hk⟩ := List.getElem?_of_mem hq
    have hkl := (List.getElem?_eq_some_iff.1 hk).1
    have h5 : p.kind = 5 := by
      by_cases e : p.kind = 5
      · exact e
      · rw [alone_leaf (h1 p hp) e] at hkl; cases hkl
    refine ih p hp k hkl q ?_
    exact List.mem_filterMap.2 ⟨p, hp, by rw [if_pos ⟨h5, rfl⟩]; exact hk⟩

/-- A matrix and a vector that may be handed on. -/
structure UOk (g : Sg) (m A B : Nat) (rows : List (List Pat)) (v : List Pat) : Prop where
  len : rows.length ≤ m
  wid : ∀ r ∈ rows, r.length = v.length
  vlen : v.length ≤ B
  small : ∀ r ∈ rows, ∀ p ∈ r, p.small m
  vsmall : ∀ p ∈ v, p.small m
  wf : ∀ r ∈ rows, ∀ p ∈ r, Wf g p
  vwf : ∀ p ∈ v, Wf g p
theorem small_any (m : Nat) : anyP.small m := by simp [anyP, Pat.small, Pat.smallL, maxLen, ByteArray.size]
theorem small_anys (m n : Nat) : ∀ p ∈ anysL n, p.small m := fun p hp => by rw [List.eq_of_mem_replicate hp]; exact small_any m
theorem below_shape {h : Head} {kids : Nat} {r q : List Pat} (e : belowR h kids r = some q) : ∃ p rest, r = p :: rest ∧ ((asksH p = none ∧ q = anysL kids ++ rest) ∨ (asksH p = some h ∧ q = p.l ++ rest)) := by
  cases r with
  | nil => cases e
  | cons p rest =>
    refine ⟨p, rest, rfl, ?_⟩
    simp only [belowR] at e
    cases ha : asksH p with
    | none => rw [ha] at e; injection e with e; exact .inl ⟨rfl, e.symm⟩
    | some k =>
      rw [ha] at e
      simp only at e
      split at e
      · rename_i hk; injection e with e; subst hk; exact .inr ⟨rfl, e.symm⟩
      · cases e
theorem UOk.below {g : Sg} {m A B : Nat} {rows : List (List Pat)} {v0 : Pat} {vs kids : List Pat} {h : Head} (u : UOk g m A B rows (v0 :: vs)) (hk : kids.length ≤ A) (har : ∀ p, asksH p = some h → Wf g p → p.l.length = kids.length) (hks : ∀ p ∈ kids, p.small m) (hkw : ∀ p ∈ kids, Wf g p) : UOk g m A (B + A) (belowL rows h kids.length) (kids ++ vs) := by
  refine ⟨Nat.le_trans (List.length_filterMap_le _ _) u.len, fun q hq => ?_, ?_, fun q hq p hp => ?_, fun p hp => ?_, fun q hq p hp => ?_, fun p hp => ?_⟩
  · obtain ⟨r, hr, e⟩ := List.mem_filterMap.1 hq
    obtain ⟨p, rest, rfl, ⟨_, rfl⟩ | ⟨ha, rfl⟩⟩ := below_shape e
    · have := u.wid _ hr; simp [anysL] at this ⊢; omega
    · have := u.wid _ hr
      have h2 := har p ha (u.wf _ hr p (List.mem_cons_self ..))
      simp at this ⊢; omega
  · have := u.vlen; simp at this ⊢; omega
  · obtain ⟨r, hr, e⟩ := List.mem_filterMap.1 hq
    obtain ⟨p', rest, rfl, ⟨_, rfl⟩ | ⟨ha, rfl⟩⟩ := below_shape e <;> rcases List.mem_append.1 hp with hp | hp
    · exact small_anys m _ p hp
    · exact u.small _ hr p (List.mem_cons_of_mem _ hp)
    · exact (small_kids (u.small _ hr p' (List.mem_cons_self ..))).each p hp
    · exact u.small _ hr p (List.mem_cons_of_mem _ hp)
  · exact (List.mem_append.1 hp).elim (hks p) fun hp => u.vsmall p (List.mem_cons_of_mem _ hp)
  · obtain ⟨r, hr, e⟩ := List.mem_filterMap.1 hq
    obtain ⟨p', rest, rfl, ⟨_, rfl⟩ | ⟨ha, rfl⟩⟩ := below_shape e <;> rcases List.mem_append.1 hp with hp | hp
    · exact wf_anys g _ p hp
    · exact u.wf _ hr p (List.mem_cons_of_mem _ hp)
    · exact (u.wf _ hr p' (List.mem_cons_self ..)).kids p hp
    · exact u.wf _ hr p (List.mem_cons_of_mem _ hp)
  · exact (List.mem_append.1 hp).elim (hkw p) fun hp => u.vwf p (List.mem_cons_of_mem _ hp)
theorem UOk.others {g : Sg} {m A B : Nat} {rows : List (List Pat)} {v0 : Pat} {vs : List Pat} (u : UOk g m A B rows (v0 :: vs)) : UOk g m A B (othersL rows) vs := by
  have sh : ∀ q ∈ othersL rows, ∃ p, p :: q ∈ rows := fun q hq => by
    obtain ⟨r, hr, e⟩ := List.mem_filterMap.1 hq
    cases r with
    | nil => cases e
    | cons p rest =>
      simp only [othersR] at e
      split at e
      · injection e with e; subst e; exact ⟨p, hr⟩
      · cases e
  refine ⟨Nat.le_trans (List.length_filterMap_le _ _) u.len, fun q hq => ?_, ?_, fun q hq p hp => ?_, fun p hp => u.vsmall p (List.mem_cons_of_mem _ hp), fun q hq p hp => ?_, fun p hp => u.vwf p (List.mem_cons_of_mem _ hp)⟩
  · obtain ⟨p, h⟩ := sh q hq
    have := u.wid _ h; simp at this; omega
  · have := u.vlen; simp at this; omega
  · obtain ⟨p', h⟩ := sh q hq; exact u.small _ h p (List.mem_cons_of_mem _ hp)
  · obtain ⟨p', h⟩ := sh q hq; exact u.wf _ h p (List.mem_cons_of_mem _ hp)
end Go.Proofs.Ytjflembhgjcgkaa

/- C21: useful's own function, of the program. -/
namespace Go.Proofs.Ytjflembhgjcgkaa
open Go.RowKit

def resW : Option (List Pat) → DV
  | some w => .tup [patsD w, .v (.bool true)]
  | none => .tup [.nil, .v (.bool false)]

section
variable {g : Sg} {m A B : Nat} {rows : List (List Pat)} {v : List Pat}
theorem UOk.rowsB (u : UOk g m A B rows v) (hB : B ≤ m) : RowsB m rows :=
  ⟨u.len, fun r hr => ⟨u.small r hr, by rw [u.wid r hr]; exact Nat.le_trans u.vlen hB⟩⟩
end

set_option maxRecDepth 100000 in
set_option maxHeartbeats 4000000 in
theorem with_c (g : Sg) (m : Nat) (hm : m ≤ 10000000) (rows : List (List Pat)) (v0 : Pat) (vs kids : List Pat) (k n i : Int) (s : ByteArray) (a b c : Int) (l : List Pat) (h : Head) (ha : asksH (.mk k n i s a b c l) = some h) (hr : RowsB m rows) (hne : ∀ r ∈ rows, r ≠ []) (hk : kids.length ≤ 10000000) (hv : vs.length ≤ 10000000)
    (o : Option (List Pat)) (ho : ∀ w, o = some w → w.length = kids.length + vs.length)
    (hrec : RunsP Try.prog 63 [.agg (sigD g), rowsD (belowL rows h kids.length), patsD (kids ++ vs)] (fun x => x = resW o)) :
    RunsP Try.prog 90 [.agg (patD (.mk k n i s a b c l)), patsD kids, .fptr (sigD g), .fptr [rowsD rows], .fptr [patsD (v0 :: vs)]] (fun x => x = resW (o.map fun w => setL (.mk k n i s a b c l) (w.take kids.length) :: w.drop kids.length)) := by
  have hask := asks_c (.mk k n i s a b c l)
  rw [ha] at hask
  have e1 := patR_len kids
  have e2 := patR_len vs
  have e3 : (patR (v0 :: vs)).length = vs.length + 1 := by simp [patR_len]
  have hbl : RunsP Try.prog 91 [rowsD rows, .agg (headD h), .v (.int .i64 ((patR kids).length : Int))] (fun x => x = rowsD (belowL rows h kids.length)) := by rw [e1]; exact below_c h kids.length hk hm hr hne
  have hcc := concatP_c (patR kids) (patR vs) (by omega) (by omega)
  have hrec' : RunsP Try.prog 63 [.agg (sigD g), rowsD (belowL rows h kids.length), .lst 8 (patR kids ++ patR vs)] (fun x => x = resW o) := by rw [← patR_append]; exact hrec
  cases o with
  | none =>
    refine enterPB 51 tab_ok Try.func90 rfl (by kernel_rfl) rfl rfl rfl ?_
    repeat' (first | refine s_op rfl ?_ | (apply s_move; (iterate 4 (exact rfl))) | (apply s_ld_p tab_ok; (iterate 7 (exact rfl))) | (apply s_ld_f tab_ok; (iterate 6 (exact rfl))) | (apply s_assign; (iterate 4 (exact rfl))) | (apply s_len tab_ok; (iterate 5 (exact rfl))) | (apply s_ext; (iterate 5 (exact rfl))) | (apply s_alloc tabZ_ok; (iterate 7 (exact rfl))) | (apply s_box; (iterate 7 (exact rfl))) | (apply s_store tab_ok; (iterate 10 (exact rfl))) | (apply s_lit tab_ok tabZ_ok; (iterate 10 (exact rfl))) | (apply s_not_f; (iterate 4 (exact rfl))) | (apply s_sliceE tab_ok (rows := patR (v0 :: vs)) (rows' := patR vs); (iterate 8 (exact rfl)); (simp; omega); exact (by simp [patR])) | (apply s_call; (iterate 6 (exact rfl)); first | (exact hask; rintro _ rfl) | (exact hbl; rintro _ rfl) | (exact hcc; rintro _ rfl) | (exact hrec'; rintro _ rfl)) | refine al_nil ?_ | refine q_then_n ?_ | refine q_then_r ?_ | refine aw_seq ?_ | refine aw_reg ?_ | refine aw_true rfl ?_ | refine aw_ret ?_ | refine al_fork ?_ ?_ | refine aw_draws (id := 2) (trO [0, 1, 2, 3, 4, 6, 7, 8] (.fork 5 (trO [9, 10, 11, 12, 13, 14, 15, 16] .nil) 9 (trO [5, 10, 11, 12, 13, 14, 15, 16] .nil))) [5, 9, 10, 11] [] mixed_ok (by kernel_rfl) ?_)
    all_goals exact q_retB (resB_2 rfl (resV_t rfl) (resV_t rfl) rfl) ⟨_, rfl, rfl⟩
  | some w =>
    have hwl := ho w rfl
    have e4 := patR_len w
    have hcl := cloneP_c (patR (w.take kids.length)) (by rw [patR_len, List.length_take]; omega)
    have hc2 := concatP_c [patD (setL (.mk k n i s a b c l) (w.take kids.length))] (patR (w.drop kids.length)) (by simp) (by rw [patR_len, List.length_drop]; omega)
    refine enterPB 51 tab_ok Try.func90 rfl (by kernel_rfl) rfl rfl rfl ?_
    repeat' (first | refine s_op rfl ?_ | (apply s_move; (iterate 4 (exact rfl))) | (apply s_fa_p tab_ok; (iterate 5 (exact rfl))) | (apply s_ld_p tab_ok; (iterate 7 (exact rfl))) | (apply s_ld_f tab_ok; (iterate 6 (exact rfl))) | (apply s_assign; (iterate 4 (exact rfl))) | (apply s_len tab_ok; (iterate 5 (exact rfl))) | (apply s_ext; (iterate 5 (exact rfl))) | (apply s_build tabZ_ok; (iterate 5 (exact rfl))) | (apply s_alloc tabZ_ok; (iterate 7 (exact rfl))) | (apply s_box; (iterate 7 (exact rfl))) | (apply s_store tab_ok; (iterate 10 (exact rfl))) | (apply s_lit tab_ok tabZ_ok; (iterate 10 (exact rfl))) | (apply s_not_t; (iterate 4 (exact rfl))) | (apply s_sliceE tab_ok (rows := patR (v0 :: vs)) (rows' := patR vs); (iterate 8 (exact rfl)); (simp; omega); exact (by simp [patR])) | (apply s_sliceE tab_ok (rows := patR w) (lw := none) (rows' := patR (w.take kids.length)); (iterate 8 (exact rfl)); (simp; omega); exact (by rw [patR_take]; simp [e1])) | (apply s_sliceE tab_ok (rows := patR w) (hg2 := none) (rows' := patR (w.drop kids.length)); (iterate 8 (exact rfl)); (simp; omega); exact (by rw [patR_drop]; simp [e1, List.take_of_length_le])) | (apply s_call; (iterate 6 (exact rfl)); first | (exact hask; rintro _ rfl) | (exact hbl; rintro _ rfl) | (exact hcc; rintro _ rfl) | (exact hrec'; rintro _ rfl) | (exact hcl; rintro _ rfl) | (exact hc2; rintro _ rfl)) | refine al_nil ?_ | refine q_then_n ?_ | refine aw_seq ?_ | refine aw_reg ?_ | refine aw_false rfl ?_ | refine aw_skip ?_ | refine aw_ret ?_ | refine al_fork ?_ ?_ | refine aw_draws (id := 2) (trO [0, 1, 2, 3, 4, 6, 7, 8] (.fork 5 (trO [9, 10, 11, 12, 13, 14, 15, 16] .nil) 9 (trO [5, 10, 11, 12, 13, 14, 15, 16] .nil))) [5, 9, 10, 11] [] mixed_ok (by kernel_rfl) ?_ | refine aw_draws (id := 6) (trO [0, 2, 3, 4, 5, 1, 6, 7, 8, 9] .nil) [1, 6, 7] [] mixed_ok (by kernel_rfl) ?_)
    all_goals exact q_retB (resB_2 rfl (resV_t rfl) (resV_t rfl) rfl) ⟨_, rfl, rfl⟩
end Go.Proofs.Ytjflembhgjcgkaa
