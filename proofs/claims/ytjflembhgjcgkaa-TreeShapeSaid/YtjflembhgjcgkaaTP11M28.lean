/- M28: what stands in a tree: arms, TrNone, the places on the way down; by values. No program in sight. -/
import Derived.Test.YtjflembhgjcgkaaTP11M26x2
set_option linter.unusedSimpArgs false
set_option linter.unusedVariables false
namespace Go.Proofs.Ytjflembhgjcgkaa
open Go.RowKit

mutual
def armsT : TreeT → List Int
  | .mk _ _ _ _ k n _ c e => if k = 2 then [n] else if k = 1 then [] else armsL e ++ armsL c
def armsL : List TreeT → List Int
  | [] => []
  | t :: l => armsT t ++ armsL l
end
mutual
def noneT : TreeT → Bool
  | .mk _ _ _ _ k _ _ c e => if k = 2 then false else if k = 1 then true else noneL e || noneL c
def noneL : List TreeT → Bool
  | [] => false
  | t :: l => noneT t || noneL l
end
def stepDn (k : Int) (p : List Int) (seen : List (List Int)) : Bool := (decide (k = 3) && ((decide (p.length = 0) && decide (seen.length = 0)) || decide (p.dropLast ∈ seen))) && !decide (p ∈ seen)
mutual
def downT : TreeT → List (List Int) → Bool
  | .mk _ _ _ _ k _ p c e, seen => if k = 2 then true else if k = 1 then true else (stepDn k p seen && downL e (seen ++ [p])) && downL c (seen ++ [p])
def downL : List TreeT → List (List Int) → Bool
  | [], _ => true
  | t :: l, seen => downT t seen && downL l seen
end
theorem armsL_mem {n : Int} : ∀ {l : List TreeT}, n ∈ armsL l ↔ ∃ t ∈ l, n ∈ armsT t
  | [] => by simp [armsL]
  | t :: l => by simp only [armsL, List.mem_append, armsL_mem (l := l), List.mem_cons, exists_eq_or_imp]
theorem noneL_iff : ∀ {l : List TreeT}, noneL l = true ↔ ∃ t ∈ l, noneT t = true
  | [] => by simp [noneL]
  | t :: l => by simp only [noneL, Bool.or_eq_true, noneL_iff (l := l), List.mem_cons, exists_eq_or_imp]
theorem downL_iff {s : List (List Int)} : ∀ {l : List TreeT}, downL l s = true ↔ ∀ t ∈ l, downT t s = true
  | [] => by simp [downL]
  | t :: l => by simp only [downL, Bool.and_eq_true, downL_iff (l := l), List.mem_cons, forall_eq_or_imp]
theorem arms_at (t : TreeT) (k n i : Int) (s : ByteArray) : armsT (t.at k n i s) = armsT t := by cases t; rfl
theorem none_at (t : TreeT) (k n i : Int) (s : ByteArray) : noneT (t.at k n i s) = noneT t := by cases t; rfl
theorem down_at (t : TreeT) (k n i : Int) (s : ByteArray) (K : List (List Int)) : downT (t.at k n i s) K = downT t K := by cases t; rfl
theorem branches_mem {F : Int → Option Pat → TreeT × Int} (hF : ∀ l s, (F l s).2 ≤ l - 1) : ∀ (cs : List Pat) (left : Int) (t : TreeT), t ∈ (branchesF F cs left).1 → ∃ q ∈ cs, ∃ lf, lf ≤ left ∧ t = (F lf (some q)).1.at q.kind q.n q.i q.s ∧ (0 ≤ (branchesF F cs left).2 → 0 ≤ (F lf (some q)).2)
  | [], left, t, h => by simp [branchesF] at h
  | q :: cs, left, t, h => by
    simp only [branchesF] at h ⊢
    rcases List.mem_cons.1 h with rfl | h
    · have := branches_le hF cs (F left (some q)).2
      exact ⟨q, List.mem_cons_self .., left, Int.le_refl _, rfl, fun h0 => by omega⟩
    · obtain ⟨q', h1, lf, h4, h2, h3⟩ := branches_mem hF cs _ t h
      have := hF left (some q)
      exact ⟨q', List.mem_cons_of_mem _ h1, lf, by omega, h2, h3⟩
/-! The value that goes into a branch. -/
theorem cases_from {g : Sg} {rows : List RowT} {path : List Int} {first : Pat} (h5 : first.kind ≠ 5) : ∀ q ∈ casesF g rows path first, ∃ r ∈ rows, ∃ a ∈ r.asks, a.path = path ∧ q = .mk a.p.kind 0 a.p.i a.p.s 0 0 0 [] := by
  unfold casesF
  rw [if_neg h5]
  have inner : ∀ (asks : List AskT) (out : List Pat) (q : Pat), q ∈ asks.foldl (casesA path) out → q ∈ out ∨ ∃ a ∈ asks, a.path = path ∧ q = .mk a.p.kind 0 a.p.i a.p.s 0 0 0 [] := by
    intro asks
    induction asks with
    | nil => exact fun out q h => .inl h
    | cons a asks ih =>
      intro out q h
      rw [List.foldl_cons] at h
      rcases ih _ q h with h | ⟨b, hb, h1, h2⟩
      · unfold casesA at h
        split at h
        · rename_i hc
          rcases List.mem_append.1 h with h | h
          · exact .inl h
          · exact .inr ⟨a, List.mem_cons_self .., hc.1, List.mem_singleton.1 h⟩
        · exact .inl h
      · exact .inr ⟨b, List.mem_cons_of_mem _ hb, h1, h2⟩
  have outer : ∀ (rows : List RowT) (out : List Pat) (q : Pat), q ∈ rows.foldl (fun out r => r.asks.foldl (casesA path) out) out → q ∈ out ∨ ∃ r ∈ rows, ∃ a ∈ r.asks, a.path = path ∧ q = .mk a.p.kind 0 a.p.i a.p.s 0 0 0 [] := by
    intro rows
    induction rows with
    | nil => exact fun out q h => .inl h
    | cons r rows ih =>
      intro out q h
      rw [List.foldl_cons] at h
      rcases ih _ q h with h | ⟨r', hr', h⟩
      · rcases inner _ _ q h with h | h
        · exact .inl h
        · exact .inr ⟨r, List.mem_cons_self .., h⟩
      · exact .inr ⟨r', List.mem_cons_of_mem _ hr', h⟩
  intro q hq
  exact (outer rows [] q hq).resolve_left fun h => by cases h
theorem canonB {g : Sg} {B : List Pat} (hB : All2 g B) {s : Pat} (hs : s ∈ B) : ∃ v, fitsB s v = true ∧ ∀ p ∈ B, goesP g p v := by
  obtain ⟨v, h1, h2, _⟩ := canon (I := fun _ => True) (S := fun _ => True) _ B (Nat.le_refl _) hB (fun p _ => litP_of (fun _ _ => trivial) fun _ _ => trivial) s hs
  exact ⟨v, h1, h2⟩
theorem fits_has {q p : Pat} {w : Val} (hf : fitsB p w = true) (ho : openB p = false) (hk : q.kind = p.kind) (hi : p.kind = 3 → q.i = p.i) (hs : p.kind = 4 → q.s = p.s) (hn : p.kind = 5 → q.n = p.n) (h345 : p.kind = 3 ∨ p.kind = 4 ∨ p.kind = 5) : hasQ q w = true := by
  unfold hasQ
  rw [hk]
  rcases h345 with h | h | h
  · rw [if_pos h]
    obtain ⟨e1, e2⟩ := (fits_three h).1 hf
    exact decide_eq_true ⟨e1, by rw [hi h]; exact e2⟩
  · rw [if_neg (by omega), if_pos h]
    obtain ⟨e1, e2⟩ := (fits_four h).1 hf
    exact decide_eq_true ⟨e1, by rw [hs h]; exact e2⟩
  · rw [if_neg (by omega), if_neg (by omega), if_pos h]
    obtain ⟨e1, e2, _⟩ := (fits_five h).1 hf
    exact decide_eq_true ⟨e1, by rw [hn h]; exact e2⟩
section
variable {g : Sg} {l : List Pat} {K : List (List Int)} {v0 : Val} {rows : List RowT}
theorem Node.some (h : Node g l K v0 rows) (hsv : Serves g) (ha : All2 g l) {r : RowT} {a : AskT} (hr : r ∈ rows) (hra : a ∈ r.asks) {q : Pat} (hq : q ∈ casesF g rows a.path a.p) : ∃ v1, Node g l (K ++ [a.path]) v1 (narrowF rows a.path (some q)) := by
  have hav := h.askV ha h.goes h.self r hr a hra
  have hcol := ((h.all v0 h.goes h.self).1 r hr a hra).2.1
  have hall := colF_all2 a.path l v0 ha
  have hcan := cases_can (path := a.path) (first := a.p) (h.askV ha h.goes h.self) q hq
  have hw1 : ∃ w1, (∀ x ∈ colF l v0 a.path, goesP g x w1) ∧ hasQ q w1 = true := by
    by_cases h5 : a.p.kind = 5
    · unfold casesF at hq
      rw [if_pos h5] at hq
      obtain ⟨c, hc, rfl⟩ := List.mem_map.1 hq
      have hso := (split_open (g := g) (r := ⟨g, l, [], []⟩) ⟨rfl, hsv⟩ (S := anyP) (p := a.p) (B := colF l v0 a.path) (all2_cons hall (wf_any g) fun q _ => twoP_any q) hcol rfl hav.tests).1 (.mk 5 c 0 ⟨#[]⟩ 0 0 0 (anysL (g.arity c))) (by
        unfold casesR
        rw [if_neg (by omega), if_neg (by omega), if_pos h5]
        exact List.mem_map.2 ⟨c, hc, rfl⟩)
      obtain ⟨w1, h1, h2⟩ := canonB hso.all (List.mem_cons_self ..)
      exact ⟨w1, fun x hx => h2 x (List.mem_cons_of_mem _ hx), fits_has h1 rfl rfl (fun e => by cases e) (fun e => by cases e) (fun _ => rfl) (.inr (.inr rfl))⟩
    · obtain ⟨r', hr', a', ha', hp', rfl⟩ := cases_from h5 q hq
      have hav' := h.askV ha h.goes h.self r' hr' a' ha'
      have hcol' := ((h.all v0 h.goes h.self).1 r' hr' a' ha').2.1
      rw [hp'] at hcol'
      obtain ⟨w1, h1, h2⟩ := canonB hall hcol'
      have hk : a'.p.kind = 3 ∨ a'.p.kind = 4 ∨ a'.p.kind = 5 := (alone_kind hav'.wf.alone).resolve_left (by rw [hav'.tests]; simp)
      have h5' : a'.p.kind ≠ 5 := fun e => by
        rcases pair_cases (twoP_def.1 (hall.two _ hcol' _ hcol)).1 with e1 | e1 | ⟨e1, _⟩
        · rw [hav'.tests] at e1; cases e1
        · rw [hav.tests] at e1; cases e1
        · omega
      exact ⟨w1, h2, fits_has h1 hav'.tests rfl (fun _ => rfl) (fun _ => rfl) (fun e => absurd e h5') hk⟩
  obtain ⟨w1, g1, g2⟩ := hw1
  refine h.child ha hr hra g1 (fun q' e => by injection e with e; rw [← e]; exact g2) fun v w hv hs hw e r' hr' => ?_
  exact narrow_some hw hcan (by rw [← e.has q]; exact g2) (h.askV ha hv hs r' hr')
theorem Node.none (h : Node g l K v0 rows) (ha : All2 g l) {r : RowT} {a : AskT} (hr : r ∈ rows) (hra : a ∈ r.asks) (h5 : a.p.kind ≠ 5) : ∃ v1, Node g l (K ++ [a.path]) v1 (narrowF rows a.path none) := by
  have hav := h.askV ha h.goes h.self r hr a hra
  have hcol := ((h.all v0 h.goes h.self).1 r hr a hra).2.1
  have hall := colF_all2 a.path l v0 ha
  have hcan := cases_can (path := a.path) (first := a.p) (h.askV ha h.goes h.self)
  have hkc : ∀ x ∈ colF l v0 a.path, openB x = true ∨ x.kind = a.p.kind := fun x hx => by
    rcases pair_cases (twoP_def.1 (hall.two _ hx _ hcol)).1 with e1 | e1 | ⟨e1, _⟩
    · exact .inl e1
    · rw [hav.tests] at e1; cases e1
    · exact .inr e1
  have hk : a.p.kind = 3 ∨ a.p.kind = 4 := by
    rcases (alone_kind hav.wf.alone).resolve_left (by rw [hav.tests]; simp) with e | e | e
    · exact .inl e
    · exact .inr e
    · exact absurd e h5
  have hkq : ∀ q ∈ casesF g rows a.path a.p, q.kind = a.p.kind := fun q hq => by
    obtain ⟨r', hr', a', ha', hp', rfl⟩ := cases_from h5 q hq
    have hav' := h.askV ha h.goes h.self r' hr' a' ha'
    have hcol' := ((h.all v0 h.goes h.self).1 r' hr' a' ha').2.1
    rw [hp'] at hcol'
    rcases hkc _ hcol' with e | e
    · rw [hav'.tests] at e; cases e
    · exact e
  have hw1 : ∃ w1, (∀ x ∈ colF l v0 a.path, goesP g x w1) ∧ ∀ q ∈ casesF g rows a.path a.p, hasQ q w1 = false := by
    rcases hk with hk | hk
    · refine ⟨.mk 1 (freeN ((casesF g rows a.path a.p).map Pat.i)) ⟨#[]⟩ [], fun x hx => ?_, fun q hq => ?_⟩
      · rcases hkc x hx with e | e
        · exact goes_open e
        · exact goesP_def.2 ⟨fun _ => rfl, fun e' => by omega, fun e' => by omega⟩
      · unfold hasQ
        rw [if_pos ((hkq q hq).trans hk)]
        refine decide_eq_false fun e => freeN_out ((casesF g rows a.path a.p).map Pat.i) ?_
        have e2 : freeN ((casesF g rows a.path a.p).map Pat.i) = q.i := e.2
        rw [e2]
        exact List.mem_map.2 ⟨q, hq, rfl⟩
    · refine ⟨.mk 2 0 (freeS ((casesF g rows a.path a.p).map Pat.s)) [], fun x hx => ?_, fun q hq => ?_⟩
      · rcases hkc x hx with e | e
        · exact goes_open e
        · exact goesP_def.2 ⟨fun e' => by omega, fun _ => rfl, fun e' => by omega⟩
      · unfold hasQ
        rw [if_neg (by rw [hkq q hq]; omega), if_pos ((hkq q hq).trans hk)]
        refine decide_eq_false fun e => freeS_out ((casesF g rows a.path a.p).map Pat.s) ?_
        have e2 : freeS ((casesF g rows a.path a.p).map Pat.s) = q.s := e.2
        rw [e2]
        exact List.mem_map.2 ⟨q, hq, rfl⟩
  obtain ⟨w1, g1, g2⟩ := hw1
  refine h.child ha hr hra g1 (fun q' e => by cases e) fun v w hv hs hw e r' hr' => ?_
  refine narrow_else (cs := casesF g rows a.path a.p) hw (fun q hq => ⟨hcan q hq, by rw [← e.has q]; exact g2 q hq⟩) (h.askV ha hv hs r' hr') fun b hb hbp => ?_
  have hcb := ((h.all v0 h.goes h.self).1 r' hr' b hb)
  have hbk : b.p.kind ≠ 5 := by
    have := hcb.2.1
    rw [hbp] at this
    rcases hkc _ this with e | e
    · rw [hcb.1] at e; cases e
    · omega
  have := cases_has (path := a.path) hbp hbk rows [] r' hr' hb
  unfold casesF
  rw [if_neg h5]
  exact this
/-- All that stands in a node's tree. -/
theorem node_tree (hsv : Serves g) (ha : All2 g l) : ∀ (f : Nat) (left : Int) (rows : List RowT) (K : List (List Int)) (v0 : Val), left < f → Node g l K v0 rows →
    (∀ n ∈ armsT (buildF g f left rows).1, ∃ v k, (∀ q ∈ l, goesP g q v) ∧ firstF l v = some k ∧ n = (k : Int)) ∧ (noneT (buildF g f left rows).1 = true → ∃ v, (∀ q ∈ l, goesP g q v) ∧ firstF l v = none) ∧ (0 ≤ (buildF g f left rows).2 → downT (buildF g f left rows).1 K = true)
  | 0, left, rows, K, v0, hlf, h => ⟨fun n hn => by simp [buildF, bare, armsT, armsL] at hn, fun hn => by simp [buildF, bare, noneT, noneL] at hn, fun h0 => by simp only [buildF] at h0; omega⟩
  | f + 1, left, rows, K, v0, hlf, h => by
    unfold buildF
    split
    · rename_i hl
      exact ⟨fun n hn => by simp [bare, armsT, armsL] at hn, fun hn => by simp [bare, noneT, noneL] at hn, fun h0 => by simp only at h0; omega⟩
    · rename_i hl
      match rows, h with
      | [], h =>
        have hf := (h.all v0 h.goes h.self).2
        refine ⟨fun n hn => by simp [bare, armsT] at hn, fun _ => ⟨v0, h.goes, ?_⟩, fun _ => by simp [bare, downT]⟩
        cases hx : firstF l v0 with
        | none => rfl
        | some k => rw [hx] at hf; cases hf
      | r :: rows, h =>
        simp only
        match hra : r.asks with
        | [] =>
          have hf := (h.all v0 h.goes h.self).2
          rw [List.find?_cons, show fitsR v0 r = true from by unfold fitsR; rw [hra]; rfl] at hf
          refine ⟨fun n hn => ?_, fun hn => by simp [bare, noneT] at hn, fun _ => by simp [bare, downT]⟩
          have hn : n = r.n := by simpa [bare, armsT] using hn
          cases hx : firstF l v0 with
          | none => rw [hx] at hf; cases hf
          | some k =>
            rw [hx] at hf
            injection hf with hf
            exact ⟨v0, k, h.goes, hx, hn.trans hf⟩
        | a :: asks =>
          simp only
          have hr : r ∈ r :: rows := List.mem_cons_self ..
          have hm : a ∈ r.asks := by rw [hra]; exact List.mem_cons_self ..
          have hF : ∀ l s, (buildF g f l (narrowF (r :: rows) a.path s)).2 ≤ l - 1 := fun l s => buildF_le f l _
          have hbl := branches_le (F := fun left p => buildF g f left (narrowF (r :: rows) a.path p)) hF (casesF g (r :: rows) a.path a.p) (left - 1)
          have hb := branches_mem (F := fun left p => buildF g f left (narrowF (r :: rows) a.path p)) hF (casesF g (r :: rows) a.path a.p) (left - 1)
          have hone : ∀ t ∈ (branchesF (fun left p => buildF g f left (narrowF (r :: rows) a.path p)) (casesF g (r :: rows) a.path a.p) (left - 1)).1,
              (∀ n ∈ armsT t, ∃ v k, (∀ q ∈ l, goesP g q v) ∧ firstF l v = some k ∧ n = (k : Int)) ∧ (noneT t = true → ∃ v, (∀ q ∈ l, goesP g q v) ∧ firstF l v = none) ∧ (0 ≤ (branchesF (fun left p => buildF g f left (narrowF (r :: rows) a.path p)) (casesF g (r :: rows) a.path a.p) (left - 1)).2 → downT t (K ++ [a.path]) = true) := fun t ht => by
            obtain ⟨q, hq, lf, hlo, rfl, h0⟩ := hb t ht
            obtain ⟨v1, hN⟩ := h.some hsv ha hr hm hq
            obtain ⟨i1, i2, i3⟩ := node_tree hsv ha f lf _ _ v1 (by omega) hN
            rw [arms_at, none_at, down_at]
            exact ⟨i1, i2, fun e => i3 (h0 e)⟩
          have hstep : stepDn 3 a.path K = true := by
            unfold stepDn
            have hnk : a.path ∉ K := fun e => h.new r hr a hm a.path e (List.prefix_refl _)
            rw [decide_eq_false hnk]
            simp only [decide_true, Bool.true_and, Bool.not_false, Bool.and_true, Bool.or_eq_true, Bool.and_eq_true, decide_eq_true_eq]
            by_cases hp : a.path = []
            · left
              refine ⟨by rw [hp]; rfl, ?_⟩
              cases K with
              | nil => rfl
              | cons k K => exact absurd (by rw [hp]; exact List.nil_prefix) (h.new r hr a hm k (List.mem_cons_self ..))
            · right
              exact h.known r hr a hm a.path.dropLast [a.path.getLast hp] (List.dropLast_concat_getLast hp).symm (by simp)
          generalize hB : branchesF (fun left p => buildF g f left (narrowF (r :: rows) a.path p)) (casesF g (r :: rows) a.path a.p) (left - 1) = B at *
          obtain ⟨bs, bl⟩ := B
          simp only at hone hbl ⊢
          by_cases h5 : a.p.kind = 5
          · rw [if_pos h5]
            refine ⟨fun n hn => ?_, fun hn => ?_, fun h0 => ?_⟩
            · simp only [bare, armsT, armsL, List.nil_append] at hn
              obtain ⟨t, ht, hn⟩ := armsL_mem.1 (by simpa using hn)
              exact (hone t ht).1 n hn
            · simp only [bare, noneT, noneL, Bool.false_or] at hn
              obtain ⟨t, ht, hn⟩ := noneL_iff.1 (by simpa using hn)
              exact (hone t ht).2.1 hn
            · show (if (3 : Int) = 2 then true else if (3 : Int) = 1 then true else (stepDn 3 a.path K && downL [] (K ++ [a.path])) && downL bs (K ++ [a.path])) = true
              rw [if_neg (by decide), if_neg (by decide), hstep, downL_iff.2 fun t ht => (hone t ht).2.2 h0]
              rfl
          · rw [if_neg h5]
            obtain ⟨v1, hN⟩ := h.none ha hr hm h5
            obtain ⟨i1, i2, i3⟩ := node_tree hsv ha f bl _ _ v1 (by omega) hN
            have hle := buildF_le (g := g) f bl (narrowF (r :: rows) a.path none)
            generalize buildF g f bl (narrowF (r :: rows) a.path none) = E at *
            refine ⟨fun n hn => ?_, fun hn => ?_, fun h0 => ?_⟩
            · have hn : n ∈ armsL [E.1] ++ armsL bs := by simpa [bare, armsT] using hn
              rcases List.mem_append.1 hn with hn | hn
              · exact i1 n (by simpa [armsL] using hn)
              · obtain ⟨t, ht, hn⟩ := armsL_mem.1 hn
                exact (hone t ht).1 n hn
            · have hn : (noneL [E.1] || noneL bs) = true := by simpa [bare, noneT] using hn
              rcases Bool.or_eq_true _ _ ▸ hn with hn | hn
              · exact i2 (by simpa [noneL] using hn)
              · obtain ⟨t, ht, hn⟩ := noneL_iff.1 hn
                exact (hone t ht).2.1 hn
            · show (if (3 : Int) = 2 then true else if (3 : Int) = 1 then true else (stepDn 3 a.path K && downL [E.1] (K ++ [a.path])) && downL bs (K ++ [a.path])) = true
              simp only at h0
              rw [if_neg (by decide), if_neg (by decide), hstep, downL_iff.2 fun t ht => (hone t ht).2.2 (by omega)]
              simp only [downL, Bool.and_true, Bool.true_and]
              exact i3 h0
end
end Go.Proofs.Ytjflembhgjcgkaa
