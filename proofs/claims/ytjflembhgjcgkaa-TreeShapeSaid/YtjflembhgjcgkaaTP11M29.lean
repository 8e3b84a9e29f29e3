/- M29: TrNone stands in a tree just if one is missing, an arm just if it is come to. No program in sight. -/
import Derived.Test.YtjflembhgjcgkaaTP11M28
set_option linter.unusedSimpArgs false
set_option linter.unusedVariables false
namespace Go.Proofs.Ytjflembhgjcgkaa
open Go.RowKit

/-- A leaf that stands in a tree. -/
def Comes (t : TreeT) : Option Int → Prop
  | some n => n ∈ armsT t
  | none => noneT t = true
theorem comes_at (t : TreeT) (k n i : Int) (s : ByteArray) (x : Option Int) : Comes (t.at k n i s) x = Comes t x := by
  cases x
  · show (noneT _ = true) = (noneT _ = true); rw [none_at]
  · show (_ ∈ armsT _) = (_ ∈ armsT _); rw [arms_at]
theorem Comes.case {p : List Int} {c e : List TreeT} {t : TreeT} {x : Option Int} (ht : t ∈ c) (h : Comes t x) : Comes (bare 3 0 p c e) x := by
  cases x with
  | some n => exact (by simp [bare, armsT]; exact .inr (armsL_mem.2 ⟨t, ht, h⟩) : n ∈ armsT (bare 3 0 p c e))
  | none => exact (by simp [bare, noneT]; exact .inr (noneL_iff.2 ⟨t, ht, h⟩) : noneT (bare 3 0 p c e) = true)
theorem Comes.els {p : List Int} {c : List TreeT} {t : TreeT} {x : Option Int} (h : Comes t x) : Comes (bare 3 0 p c [t]) x := by
  cases x with
  | some n => exact (by simp [bare, armsT, armsL]; exact .inl h : n ∈ armsT (bare 3 0 p c [t]))
  | none => exact (by simp [bare, noneT, noneL]; exact .inl h : noneT (bare 3 0 p c [t]) = true)
section
variable {g : Sg} {v w : Val} {path : List Int}
theorem build_comes (hsv : Serves g) : ∀ (f : Nat) (left : Int) (rows : List RowT), left < f → (∀ r ∈ rows, ∀ a ∈ r.asks, AskV g v a) → 0 ≤ (buildF g f left rows).2 →
    Comes (buildF g f left rows).1 ((rows.find? (fitsR v)).map (·.n))
  | 0, left, rows, h, _, h0 => by simp only [buildF] at h0; omega
  | f + 1, left, rows, hlf, hr, h0 => by
    unfold buildF at h0 ⊢
    split
    · rename_i hl
      rw [if_pos hl] at h0
      simp only at h0
      omega
    · rename_i hl
      rw [if_neg hl] at h0
      match rows, hr, h0 with
      | [], _, _ => show noneT (bare 1 0 [] [] []) = true; rfl
      | r :: rows, hr, h0 =>
        simp only at h0 ⊢
        match hra : r.asks, h0 with
        | [], _ =>
          rw [List.find?_cons]
          have : fitsR v r = true := by unfold fitsR; rw [hra]; rfl
          rw [this]
          show r.n ∈ armsT (bare 2 r.n [] [] [])
          simp [bare, armsT]
        | a :: asks, h0 =>
          simp only at h0 ⊢
          have hav := hr r (by simp) a (by rw [hra]; simp)
          obtain ⟨w, hw, hg⟩ := hav.at'
          have hF : ∀ l s, (buildF g f l (narrowF (r :: rows) a.path s)).2 ≤ l - 1 := fun l s => buildF_le f l _
          have hcan := cases_can (path := a.path) (first := a.p) hr
          have hsome : ∀ q, CanQ q → hasQ q w = true → ∀ lf : Int, lf < (f : Int) → 0 ≤ (buildF g f lf (narrowF (r :: rows) a.path (some q))).2 → Comes (buildF g f lf (narrowF (r :: rows) a.path (some q))).1 (((r :: rows).find? (fitsR v)).map (·.n)) := by
            intro q hq hh lf h1 h2
            have hL : ∀ x ∈ r :: rows, Left g v x (narrowR a.path (some q) x) := fun x hx => narrow_some hw hq hh (hr x hx)
            have := build_comes hsv f lf _ h1 (rows_narrow hL) h2
            unfold narrowF at this
            rw [find_narrow _ hL] at this
            exact this
          have hlow : ∀ lf : Int, lf ≤ left - 1 → lf < (f : Int) := fun lf h => by omega
          by_cases h5 : a.p.kind = 5
          · rw [if_pos h5] at h0 ⊢
            have hb := branches_find (w := w) hF (casesF g (r :: rows) a.path a.p) (left - 1) h0
            have hsm : ((casesF g (r :: rows) a.path a.p).find? (fun q => hasQ q w)).isSome = true := by
              rw [List.find?_isSome]
              obtain ⟨hc, hd, _⟩ := (goesP_def.1 hg).2.2 h5
              have hal := alone_con hav.wf.alone h5
              refine ⟨.mk 5 w.n 0 ⟨#[]⟩ 0 0 0 [], ?_, ?_⟩
              · unfold casesF
                rw [if_pos h5]
                exact List.mem_map.2 ⟨w.n, (consOf_mem hsv hal.1 hal.2.1).2 ⟨hc.lo, hc.hi, hd⟩, rfl⟩
              · refine decide_eq_true ⟨?_, rfl⟩
                rcases hc.kind with h3 | h3
                · right
                  refine ⟨h3, ?_⟩
                  have := hc.len
                  rw [hc.word.1 h3] at this
                  exact List.length_eq_zero_iff.1 this
                · exact .inl h3
            cases hq : (casesF g (r :: rows) a.path a.p).find? (fun q => hasQ q w) with
            | none => rw [hq] at hsm; cases hsm
            | some q =>
              rw [hq] at hb
              obtain ⟨lf, i1, i2, i3⟩ := hb
              have hm := List.mem_of_find?_eq_some i3
              refine Comes.case hm ?_
              rw [comes_at]
              exact hsome q (hcan q (List.mem_of_find?_eq_some hq)) (by simpa using List.find?_some hq) lf (hlow lf i1) i2
          · rw [if_neg h5] at h0 ⊢
            simp only at h0 ⊢
            have hle := buildF_le (g := g) f (branchesF (fun left p => buildF g f left (narrowF (r :: rows) a.path p)) (casesF g (r :: rows) a.path a.p) (left - 1)).2 (narrowF (r :: rows) a.path none)
            have hb := branches_find (w := w) hF (casesF g (r :: rows) a.path a.p) (left - 1) (by omega)
            have hb2 := branches_le hF (casesF g (r :: rows) a.path a.p) (left - 1)
            cases hq : (casesF g (r :: rows) a.path a.p).find? (fun q => hasQ q w) with
            | some q =>
              rw [hq] at hb
              obtain ⟨lf, i1, i2, i3⟩ := hb
              have hm := List.mem_of_find?_eq_some i3
              refine Comes.case hm ?_
              rw [comes_at]
              exact hsome q (hcan q (List.mem_of_find?_eq_some hq)) (by simpa using List.find?_some hq) lf (hlow lf i1) i2
            | none =>
              rw [hq] at hb
              simp only at hb
              refine Comes.els ?_
              have hnone := List.find?_eq_none.1 hq
              have hL : ∀ x ∈ r :: rows, Left g v x (narrowR a.path none x) := fun x hx => narrow_else hw (cs := casesF g (r :: rows) a.path a.p) (fun q hq => ⟨hcan q hq, by simpa using hnone q hq⟩) (hr x hx) fun b hb he => by
                unfold casesF
                rw [if_neg h5]
                have hbv := hr x hx b hb
                obtain ⟨w', hw', hg'⟩ := hbv.at'
                rw [he, hw] at hw'
                injection hw' with hw'
                subst hw'
                refine cases_has he (fun h5' => ?_) _ _ x hx hb
                have hcv := ((goesP_def.1 hg').2.2 h5').1.kind
                rcases alone_kind hav.wf.alone with h | h | h | h
                · rw [hav.tests] at h; cases h
                · have := (goesP_def.1 hg).1 h; omega
                · have := (goesP_def.1 hg).2.1 h; omega
                · exact h5 h
              have := build_comes hsv f _ _ (hlow _ hb2) (rows_narrow hL) h0
              unfold narrowF at this
              rw [find_narrow _ hL] at this
              exact this
end
section
variable {g : Sg} {l : List Pat}
theorem rowsOf_askV {v : Val} (hw : ∀ p ∈ l, Wf g p) (hg : ∀ p ∈ l, goesP g p v) : ∀ r ∈ rowsOf 0 l, ∀ a ∈ r.asks, AskV g v a := fun r hr a ha => by
  obtain ⟨p, hp, e⟩ := rowsOf_get hr
  rw [e] at ha
  split at ha
  · rename_i ht
    rw [List.mem_singleton.1 ha]
    refine ⟨?_, hw p hp, v, rfl, hg p hp⟩
    have := of_decide_eq_true ht
    cases ho : openB p with
    | false => rfl
    | true => rcases open_kind ho with h | h <;> omega
  · cases ha
theorem first_iff {v : Val} : (∀ k, firstF l v = some k ↔ FirstFit l v k) ∧ (firstF l v = none ↔ NoFit l v) := by
  unfold firstF
  refine ⟨fun k => ?_, ?_⟩
  · rw [List.findIdx?_eq_some_iff_getElem]
    constructor
    · rintro ⟨h, h1, h2⟩
      refine ⟨l[k], List.getElem?_eq_getElem h, by simpa using h1, fun j q hj hq => ?_⟩
      have := h2 j hj
      rw [(List.getElem?_eq_some_iff.1 hq).2] at this
      simpa using this
    · rintro ⟨p, hp, h1, h2⟩
      obtain ⟨h, e⟩ := List.getElem?_eq_some_iff.1 hp
      refine ⟨h, by rw [e]; exact h1, fun j hj => ?_⟩
      have := h2 j _ hj (List.getElem?_eq_getElem (by omega))
      simp [this]
  · rw [List.findIdx?_eq_none_iff]
    exact ⟨fun h q hq => by simpa using h q hq, fun h q hq => by simp [h q hq]⟩
theorem node_root (ha : All2 g l) : ∃ v0, Node g l [] v0 (rowsOf 0 l) := by
  obtain ⟨v0, _, h⟩ := canonB (all2_cons ha (wf_any g) fun q _ => twoP_any q) (List.mem_cons_self (a := anyP) (l := l))
  have hone : ∀ r ∈ rowsOf 0 l, ∀ a ∈ r.asks, a.path = [] ∧ a.p ∈ l ∧ openB a.p = false := fun r hr a hra => by
    obtain ⟨p, hp, e⟩ := rowsOf_get hr
    rw [e] at hra
    split at hra
    · rename_i ht
      rw [List.mem_singleton.1 hra]
      refine ⟨rfl, hp, ?_⟩
      have := of_decide_eq_true ht
      cases ho : openB p with
      | false => rfl
      | true => rcases open_kind ho with h | h <;> omega
    · cases hra
  refine ⟨v0, fun q hq => h q (List.mem_cons_of_mem _ hq), fun k hk => (by cases hk), fun v hv _ => ⟨fun r hr a hra => ?_, ?_⟩, fun r hr => ?_, fun r hr a hra k hk => (by cases hk), fun r hr a hra x y e hy => ?_⟩
  · obtain ⟨h1, h2, h3⟩ := hone r hr a hra
    rw [h1]
    exact ⟨h3, h2, v, rfl⟩
  · rw [rowsOf_find l 0 ha.wf]
    unfold firstF
    cases l.findIdx? fun p => fitsB p v with
    | none => rfl
    | some k => simp
  · obtain ⟨p, hp, e⟩ := rowsOf_get hr
    rw [e]
    split
    · exact List.pairwise_singleton ..
    · exact List.Pairwise.nil
  · have := (hone r hr a hra).1
    rw [this] at e
    exact absurd (List.append_eq_nil_iff.1 e.symm).2 hy
/-- THE LAW of the tree's shape. -/
theorem tree_shape (hsv : Serves g) (ha : All2 g l) (hb : 0 ≤ (buildF g 2002 2000 (rowsOf 0 l)).2) :
    (noneT (buildF g 2002 2000 (rowsOf 0 l)).1 = true ↔ Miss g l) ∧ (∀ k : Nat, (k : Int) ∈ armsT (buildF g 2002 2000 (rowsOf 0 l)).1 ↔ Come g l k) ∧ (∀ n ∈ armsT (buildF g 2002 2000 (rowsOf 0 l)).1, ∃ k : Nat, n = k ∧ k < l.length) ∧ downT (buildF g 2002 2000 (rowsOf 0 l)).1 [] = true := by
  obtain ⟨v0, hN⟩ := node_root ha
  obtain ⟨h1, h2, h3⟩ := node_tree hsv ha 2002 2000 (rowsOf 0 l) [] v0 (by omega) hN
  have hcome : ∀ v, (∀ q ∈ l, goesP g q v) → Comes (buildF g 2002 2000 (rowsOf 0 l)).1 ((firstF l v).map fun k => (k : Int)) := fun v hv => by
    have := build_comes (v := v) hsv 2002 2000 (rowsOf 0 l) (by omega) (rowsOf_askV ha.wf hv) hb
    rw [rowsOf_find l 0 ha.wf] at this
    unfold firstF
    cases e : l.findIdx? fun p => fitsB p v with
    | none => rw [e] at this; exact this
    | some k => rw [e] at this; simpa using this
  refine ⟨⟨fun h => ?_, fun ⟨v, hv, hn⟩ => ?_⟩, fun k => ⟨fun h => ?_, fun ⟨v, hv, hn⟩ => ?_⟩, fun n hn => ?_, h3 hb⟩
  · obtain ⟨v, hv, hn⟩ := h2 h
    exact ⟨v, hv, first_iff.2.1 hn⟩
  · have := hcome v hv
    rw [first_iff.2.2 hn] at this
    exact this
  · obtain ⟨v, k', hv, hn, e⟩ := h1 k h
    have : k = k' := by omega
    subst this
    exact ⟨v, hv, (first_iff.1 k).1 hn⟩
  · have := hcome v hv
    rw [(first_iff.1 k).2 hn] at this
    exact this
  · obtain ⟨v, k, _, hf, e⟩ := h1 n hn
    obtain ⟨p, hp, _⟩ := (first_iff.1 k).1 hf
    exact ⟨k, e, (List.getElem?_eq_some_iff.1 hp).1⟩
end
end Go.Proofs.Ytjflembhgjcgkaa
