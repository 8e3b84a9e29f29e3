/- M16: what useful finds goes together with all, has no name, is apart from each row. No program in sight. -/
import Derived.Test.YtjflembhgjcgkaaM14
set_option linter.unusedSimpArgs false
set_option linter.unusedVariables false
namespace Go.Proofs.Ytjflembhgjcgkaa
open Go.RowKit

theorem some_wf {g : Sg} : ∀ p : Pat, Wf g p → someB p = true := by
  refine ind_pat fun k n i s a b c l ih hw => ?_
  have hk := alone_kind hw.alone
  have hl : someL l = true := by
    have key : ∀ m : List Pat, (∀ q ∈ m, someB q = true) → someL m = true := by
      intro m
      induction m with
      | nil => intro _; rfl
      | cons q m ih => intro h; simp only [someL, h q (List.mem_cons_self ..), ih fun x hx => h x (List.mem_cons_of_mem _ hx), Bool.and_self]
    exact key l fun q hq => ih q hq (hw.kids q hq)
  simp only [someB, hl, Bool.or_true, Bool.true_and]
  refine decide_eq_true ?_
  simp only [Pat.kind] at hk
  rcases hk with h | h | h | h
  · have := open_kind h; simp only [Pat.kind] at this; omega
  · omega
  · omega
  · omega
theorem twoP_refl {g : Sg} : ∀ p : Pat, twoP g p p := by
  refine ind_pat fun k n i s a b c l ih => ?_
  refine twoP_def.2 ⟨pair_self g _, fun _ _ _ => twoPL_iff.2 fun j x y hx hy => ?_⟩
  rw [hx] at hy
  injection hy with hy
  subst hy
  exact ih x (List.mem_of_getElem? hx)
theorem apart_open {g : Sg} {p q : Pat} (ho : openB p = true) (hp : Wf g p) (hq : Wf g q) : apartB p q = false := by
  have h1 := some_wf p hp
  have h2 := some_wf q hq
  obtain ⟨k, n, i, s, a, b, c, l⟩ := p
  obtain ⟨k', n', i', s', a', b', c', l'⟩ := q
  have h3 : k = 1 ∨ k = 2 := open_kind ho
  simp only [apartB]
  rw [if_neg (by rw [h1, h2]; simp), if_pos (.inl h3)]
theorem apart_open' {g : Sg} {p q : Pat} (ho : openB q = true) (hp : Wf g p) (hq : Wf g q) : apartB p q = false := by
  have h1 := some_wf p hp
  have h2 := some_wf q hq
  obtain ⟨k, n, i, s, a, b, c, l⟩ := p
  obtain ⟨k', n', i', s', a', b', c', l'⟩ := q
  have h3 : k' = 1 ∨ k' = 2 := open_kind ho
  simp only [apartB]
  rw [if_neg (by rw [h1, h2]; simp), if_pos (.inr h3)]
theorem apart_heads {p q : Pat} {a b : Head} (ha : asksH p = some a) (hb : asksH q = some b) (hne : a ≠ b) : apartB p q = true := by
  obtain ⟨k, n, i, s, x, y, z, l⟩ := p
  obtain ⟨k', n', i', s', x', y', z', l'⟩ := q
  simp only [apartB]
  split
  · rfl
  · have h1 := asks_iff.1 ha
    have h2 := asks_iff.1 hb
    simp only [Pat.kind, Pat.n, Pat.i, Pat.s] at h1 h2
    rw [if_neg (by omega)]
    split
    · rfl
    · rename_i hk
      have hk : k = k' := by omega
      rcases h1 with ⟨e, rfl⟩ | ⟨e, rfl⟩ | ⟨e, rfl⟩
      · rw [if_pos e]
        refine decide_eq_true fun h => hne ?_
        rcases h2 with ⟨_, rfl⟩ | ⟨_, _⟩ | ⟨_, _⟩
        · rw [h]
        · omega
        · omega
      · rw [if_neg (by omega), if_pos e]
        refine decide_eq_true fun h => hne ?_
        rcases h2 with ⟨_, _⟩ | ⟨_, rfl⟩ | ⟨_, _⟩
        · omega
        · rw [h]
        · omega
      · rw [if_neg (by omega), if_neg (by omega), if_pos]
        left
        intro h
        apply hne
        rcases h2 with ⟨_, _⟩ | ⟨_, _⟩ | ⟨_, rfl⟩
        · omega
        · omega
        · rw [h]
/-- Two with one constructor are apart if their kids are. -/
theorem apart_kids {p q : Pat} (hk : p.kind = 5) (hk' : q.kind = 5) (hn : p.n = q.n) (h : apartL p.l q.l = true) : apartB p q = true := by
  obtain ⟨k, n, i, s, x, y, z, l⟩ := p
  obtain ⟨k', n', i', s', x', y', z', l'⟩ := q
  simp only [Pat.kind, Pat.n, Pat.l] at hk hk' hn h
  simp only [apartB]
  split
  · rfl
  · rw [if_neg (by omega), if_neg (by omega), if_neg (by omega), if_neg (by omega)]
    split
    · rfl
    · exact h
theorem apartL_append : ∀ {a b c d : List Pat}, a.length = b.length → apartL (a ++ c) (b ++ d) = (apartL a b || apartL c d)
  | [], [], c, d, _ => by simp [apartL]
  | a :: l, b :: m, c, d, h => by
    have := apartL_append (a := l) (b := m) (c := c) (d := d) (by simpa using h)
    simp only [List.cons_append, apartL, this, Bool.or_assoc]
  | [], b :: m, c, d, h => by simp at h
  | a :: l, [], c, d, h => by simp at h
theorem apartL_anys {g : Sg} : ∀ (n : Nat) (m : List Pat), (∀ q ∈ m, Wf g q) → apartL (anysL n) m = false
  | 0, m, _ => by cases m <;> rfl
  | n + 1, [], _ => rfl
  | n + 1, q :: m, h => by
    show (apartB anyP q || apartL (anysL n) m) = false
    rw [apart_open (g := g) rfl (wf_any g) (h q (List.mem_cons_self ..)), apartL_anys n m fun x hx => h x (List.mem_cons_of_mem _ hx)]
    rfl
theorem namedL_iff : ∀ {l : List Pat}, namedL l = false ↔ ∀ p ∈ l, namedB p = false
  | [] => by simp [namedL]
  | p :: l => by simp [namedL, namedL_iff (l := l)]
theorem named_def : ∀ p : Pat, namedB p = (namedL p.l || decide (p.kind = 1))
  | .mk .. => rfl
theorem setL_kind (p : Pat) (l : List Pat) : (setL p l).kind = p.kind ∧ (setL p l).n = p.n ∧ (setL p l).l = l ∧ (setL p l).i = p.i ∧ (setL p l).s = p.s := by
  cases p; exact ⟨rfl, rfl, rfl, rfl, rfl⟩
theorem setL_alone {g : Sg} : ∀ {p : Pat} {l : List Pat}, l.length = p.l.length → aloneB g (setL p l) = aloneB g p
  | .mk .., l, h => by simp only [Pat.l] at h; simp only [setL, aloneB, h]
theorem setL_asks (p : Pat) (l : List Pat) : asksH (setL p l) = asksH p := by cases p; rfl
theorem pair_setL {g : Sg} (q p : Pat) (l : List Pat) : pairB g q (setL p l) = pairB g q p := by
  obtain ⟨h1, h2, _⟩ := setL_kind p l
  unfold pairB openB
  rw [h1, h2]

theorem pair_of {g : Sg} {p q : Pat} (h : p.kind = q.kind) (h' : p.kind = 5 → g.dataOf p.n = g.dataOf q.n) : pairB g p q = true := by
  simp only [pairB, Bool.or_eq_true, Bool.and_eq_true, decide_eq_true_eq, Bool.not_eq_true']
  refine .inr ⟨h, ?_⟩
  by_cases h5 : p.kind = 5
  · exact .inr (h' h5)
  · exact .inl (decide_eq_false h5)
/-- What is had of a witness. -/
structure WitP (g : Sg) (rows : List (List Pat)) (v w : List Pat) : Prop where
  named : namedL w = false
  wf : ∀ p ∈ w, Wf g p
  tog : ∀ z : List Pat, z.length = v.length → (∀ p ∈ z, Wf g p) → (∀ r ∈ v :: rows, twoPL g z r) → twoPL g z w
  apart : ∀ r ∈ rows, apartL r w = true

section
variable {g : Sg} {h : Head} {p0 : Pat} {rows : List (List Pat)} {v0 : Pat} {vs v' : List Pat}
/-- One of the heads, with what is found below. -/
theorem wit_head {x y : List Pat} {p : Pat} (m : MOk g rows (v0 :: vs)) (hpa : asksH p = some h) (hpw : aloneB g p = true)
    (hv : belowR h (arityH g h) (v0 :: vs) = some v') (hl : x.length = arityH g h) (hly : y.length = vs.length) (k : WitP g (belowL rows h (arityH g h)) v' (x ++ y))
    (hpair : ∀ q : Pat, (∀ r ∈ (v0 :: vs) :: rows, ∀ z rest, r = z :: rest → pairB g q z = true) → pairB g q p = true) : WitP g rows (v0 :: vs) (setL p x :: y) := by
  obtain ⟨s1, s2, s3, _⟩ := setL_kind p x
  have hpl : p.l.length = arityH g h := (head_of hpa hpw).2.1
  have hxy : ∀ q ∈ x, Wf g q := fun q hq => k.wf q (List.mem_append_left _ hq)
  have hn := namedL_iff.1 k.named
  refine ⟨namedL_iff.2 fun q hq => ?_, fun q hq => ?_, fun z hz hzw hzt => ?_, fun r hr => ?_⟩
  · rcases List.mem_cons.1 hq with rfl | hq
    · rw [named_def, s3, s1]
      have h1 : namedL x = false := namedL_iff.2 fun q hq => hn q (List.mem_append_left _ hq)
      rw [h1, Bool.false_or, decide_eq_false]
      rcases asks_iff.1 hpa with ⟨e, _⟩ | ⟨e, _⟩ | ⟨e, _⟩ <;> omega
    · exact hn q (List.mem_append_right _ hq)
  · rcases List.mem_cons.1 hq with rfl | hq
    · exact .mk (by rw [setL_alone (by rw [hl, hpl])]; exact hpw) (by rw [s3]; exact hxy)
    · exact k.wf q (List.mem_append_right _ hq)
  · cases z with
    | nil => exact trivial
    | cons z0 zs =>
      have hzl : zs.length = vs.length := by simpa using hz
      have hz0 := hzw z0 (List.mem_cons_self ..)
      -- what stands for z below
      obtain ⟨zk, hzk1, hzk2, hzk3, hzk4⟩ : ∃ zk : List Pat, zk.length = arityH g h ∧ (∀ q ∈ zk, Wf g q) ∧ (asksH z0 = some h → zk = z0.l) ∧ (zk = anysL (arityH g h) ∨ (asksH z0 = some h ∧ zk = z0.l)) := by
        by_cases e : asksH z0 = some h
        · exact ⟨z0.l, wf_len e hz0, hz0.kids, fun _ => rfl, .inr ⟨e, rfl⟩⟩
        · exact ⟨anysL (arityH g h), anys_len _, fun q hq => by rw [anys_mem hq]; exact wf_any g, fun e' => absurd e' e, .inl rfl⟩
      have hlv : v'.length = arityH g h + vs.length := by
        obtain ⟨xx, e1, e2, _⟩ := below_split (m.wf _ (List.mem_cons_self ..) v0 (List.mem_cons_self ..)) hv
        rw [e1, List.length_append, e2]
      have ht := k.tog (zk ++ zs) (by rw [List.length_append, hzk1, hzl, hlv]) (fun q hq => (List.mem_append.1 hq).elim (hzk2 q) fun hq => hzw q (List.mem_cons_of_mem _ hq)) fun q hq => by
        obtain ⟨r, hr, e⟩ := below_mem' hv hq
        obtain ⟨p', rest, rfl, h1, h2⟩ := m.cons r hr
        obtain ⟨xx, e1, e2, e3⟩ := below_split h2 e
        have ht : twoP g z0 p' ∧ twoPL g zs rest := hzt _ hr
        rw [e1]
        refine (twoPL_append (by rw [hzk1, e2])).2 ⟨?_, ht.2⟩
        rcases hzk4 with rfl | ⟨ez, rfl⟩
        · exact twoPL_anys _ _
        · rcases e3 with ⟨_, rfl⟩ | ⟨ea, rfl⟩
          · exact twoPL_anys' _ _
          · exact heads_two ht.1 hz0 h2 ez ea
      rw [twoPL_append (by rw [hzk1, hl])] at ht
      refine ⟨twoP_def.2 ⟨?_, fun e1 e2 e3 => ?_⟩, ht.2⟩
      · rw [pair_setL]
        exact hpair z0 fun r hr z rest e => by
          have := hzt r hr
          rw [e] at this
          exact (twoP_def.1 this.1).1
      · rw [s1] at e2
        rw [s2] at e3
        rw [s3]
        have ez : asksH z0 = some h := by
          rcases asks_iff.1 hpa with ⟨x, _⟩ | ⟨x, _⟩ | ⟨x, rfl⟩
          · omega
          · omega
          · exact asks_iff.2 (.inr (.inr ⟨e1, by rw [e3]⟩))
        rw [← hzk3 ez]
        exact ht.1
  · obtain ⟨p', rest, rfl, h1, h2⟩ := m.cons r (List.mem_cons_of_mem _ hr)
    simp only [apartL, Bool.or_eq_true]
    cases ha : asksH p' with
    | none =>
      right
      have := k.apart (anysL (arityH g h) ++ rest) (below_mem.2 ⟨_, hr, by simp only [belowR]; rw [ha]⟩)
      rw [apartL_append (by rw [anys_len, hl]), apartL_anys (g := g) _ _ hxy, Bool.false_or] at this
      exact this
    | some h' =>
      by_cases e : h' = h
      · subst e
        have := k.apart (p'.l ++ rest) (below_mem.2 ⟨_, hr, by simp only [belowR]; rw [ha]; exact if_pos rfl⟩)
        rw [apartL_append (by rw [wf_len ha h2, hl]), Bool.or_eq_true] at this
        rcases this with this | this
        · left
          rcases asks_iff.1 ha with ⟨x, _⟩ | ⟨x, _⟩ | ⟨x, e'⟩
          · rw [alone_leaf h2.alone (by omega)] at this; simp [apartL] at this
          · rw [alone_leaf h2.alone (by omega)] at this; simp [apartL] at this
          · rcases asks_iff.1 hpa with ⟨y, e⟩ | ⟨y, e⟩ | ⟨y, e⟩
            · rw [e] at e'; injection e' with e'; omega
            · rw [e] at e'; injection e' with e'; omega
            · rw [e] at e'; injection e' with _ e'
              exact apart_kids x (by rw [s1]; exact y) (by rw [s2]; exact e'.symm) (by rw [s3]; exact this)
        · exact .inr this
      · left
        exact apart_heads ha (by rw [setL_asks]; exact hpa) e
end

theorem useful_wit {g : Sg} (hsv : Serves g) : ∀ (f : Nat) (rows : List (List Pat)) (v w : List Pat), MOk g rows v → usefulF g f rows v = some w → namedL v = false ∨ openB (v.headD anyP) = true ∧ namedL v.tail = false → WitP g rows v w
  | 0, rows, v, w, m, hu, hn => by cases hu
  | f + 1, rows, [], w, m, hu, hn => by
    simp only [usefulF] at hu
    cases rows with
    | nil =>
      injection hu with hu
      subst hu
      exact ⟨rfl, fun p hp => (by cases hp), fun z _ _ _ => (by cases z <;> exact trivial), fun r hr => (by cases hr)⟩
    | cons r rows => simp at hu
  | f + 1, rows, v0 :: vs, w, m, hu, hn => by
    have hv0 := m.wf _ (List.mem_cons_self ..) v0 (List.mem_cons_self ..)
    have hnt : namedL vs = false := by
      rcases hn with hn | hn
      · simp only [namedL, Bool.or_eq_false_iff] at hn; exact hn.2
      · exact hn.2
    simp only [usefulF] at hu
    have step : ∀ (p : Pat) (h : Head) (kids : List Pat) (w : List Pat), asksH p = some h → aloneB g p = true → kids.length = arityH g h → belowR h (arityH g h) (v0 :: vs) = some (kids ++ vs) → namedL kids = false →
        (∀ q : Pat, (∀ r ∈ (v0 :: vs) :: rows, ∀ z rest, r = z :: rest → pairB g q z = true) → pairB g q p = true) → withF (usefulF g f) rows vs h p kids = some w → WitP g rows (v0 :: vs) w := fun p h kids w ha hpa hkl hb hkn hpair hu => by
      unfold withF at hu
      obtain ⟨w', e1, e2⟩ := Option.map_eq_some_iff.1 hu
      rw [hkl] at e1 e2
      have hwl := usefulF_len g f _ _ _ e1
      rw [List.length_append, hkl] at hwl
      have ih := useful_wit hsv f _ _ _ (m.below hb) e1 (.inl (namedL_iff.2 fun q hq => (List.mem_append.1 hq).elim (namedL_iff.1 hkn q) (namedL_iff.1 hnt q)))
      rw [← List.take_append_drop (arityH g h) w'] at ih
      subst e2
      exact wit_head m ha hpa hb (by rw [List.length_take]; omega) (by rw [List.length_drop]; omega) ih hpair
    cases ha : asksH v0 with
    | some h =>
      rw [ha] at hu
      have hl : v0.l.length = arityH g h := wf_len ha hv0
      have hn0 : namedL v0.l = false := by
        rcases hn with hn | hn
        · simp only [namedL, Bool.or_eq_false_iff] at hn
          have := hn.1
          rw [named_def, Bool.or_eq_false_iff] at this
          exact this.1
        · have := asks_open ha
          have h2 := hn.1
          simp only [List.headD_cons] at h2
          rw [this] at h2
          cases h2
      exact step v0 h v0.l w ha hv0.alone hl (by simp only [belowR]; rw [ha]; exact if_pos rfl) hn0 (fun q hq => hq _ (List.mem_cons_self ..) v0 vs rfl) hu
    | none =>
      rw [ha] at hu
      have ho := none_open ha hv0.alone
      have tr : ∀ h ∈ headsL rows, ∀ w, withF (usefulF g f) rows vs h (patH h) (anysL (arityH g h)) = some w → WitP g rows (v0 :: vs) w := fun h hh w hu => by
        obtain ⟨p, rest, hr, hpa⟩ := headsL_iff.1 hh
        have hpw := m.wf _ (List.mem_cons_of_mem _ hr) p (List.mem_cons_self ..)
        have hsame : (patH h).kind = p.kind ∧ (p.kind = 5 → (patH h).n = p.n) := by
          rcases asks_iff.1 hpa with ⟨x, rfl⟩ | ⟨x, rfl⟩ | ⟨x, rfl⟩
          · exact ⟨x.symm, fun e => by omega⟩
          · exact ⟨x.symm, fun e => by omega⟩
          · exact ⟨x.symm, fun _ => rfl⟩
        have hstep : ∀ q : Pat, (∀ r ∈ (v0 :: vs) :: rows, ∀ z rest, r = z :: rest → pairB g q z = true) → pairB g q (patH h) = true := fun q hq => by
          have h1 := hq _ (List.mem_cons_of_mem _ hr) p rest rfl
          rcases pair_cases h1 with e | e | ⟨e, e'⟩
          · simp [pairB, e]
          · have h2 := asks_open hpa; rw [e] at h2; cases h2
          · simp only [pairB, Bool.or_eq_true, Bool.and_eq_true, decide_eq_true_eq, Bool.not_eq_true']
            refine .inr ⟨e.trans hsame.1.symm, ?_⟩
            by_cases h5 : q.kind = 5
            · right; rw [hsame.2 (by omega)]; exact e' h5
            · left; simp [h5]
        -- the head itself, with kids of its own, may be
        have hal : ∀ x : List Pat, x.length = arityH g h → aloneB g (setL (patH h) x) = true := fun x hx => by
          have := hpw.alone
          rcases asks_iff.1 hpa with ⟨x5, rfl⟩ | ⟨x5, rfl⟩ | ⟨x5, rfl⟩
          · have hx0 : x = [] := List.length_eq_zero_iff.1 (by simpa [arityH] using hx)
            subst hx0; simp [setL, patH, aloneB]
          · have hx0 : x = [] := List.length_eq_zero_iff.1 (by simpa [arityH] using hx)
            subst hx0; simp [setL, patH, aloneB]
          · obtain ⟨k0, k1, _⟩ := alone_con this x5
            simp only [setL, patH, aloneB]
            simp [k0, k1, hx, arityH]
        unfold withF at hu
        obtain ⟨w', e1, e2⟩ := Option.map_eq_some_iff.1 hu
        have hb : belowR h (arityH g h) (v0 :: vs) = some (anysL (arityH g h) ++ vs) := by simp only [belowR]; rw [ha]
        rw [anys_len] at e1 e2
        have hwl := usefulF_len g f _ _ _ e1
        rw [List.length_append, anys_len] at hwl
        have ih := useful_wit hsv f _ _ _ (m.below hb) e1 (.inl (namedL_iff.2 fun q hq => (List.mem_append.1 hq).elim (fun hq => by rw [anys_mem hq]; rfl) (namedL_iff.1 hnt q)))
        rw [← List.take_append_drop (arityH g h) w'] at ih
        subst e2
        have hxl : (w'.take (arityH g h)).length = arityH g h := by rw [List.length_take]; omega
        have h1 := wit_head (p := setL (patH h) (w'.take (arityH g h))) m (by rw [setL_asks]; exact asks_patH (g := g) hpa) (hal _ hxl) hb hxl (by rw [List.length_drop]; omega) ih (fun q hq => by rw [pair_setL]; exact hstep q hq)
        have e3 : setL (setL (patH h) (w'.take (arityH g h))) (w'.take (arityH g h)) = setL (patH h) (w'.take (arityH g h)) := by cases patH h; rfl
        rw [e3] at h1
        exact h1
      have fresh : ∀ p w', freshP g (headsL rows) = some p → usefulF g f (othersL rows) vs = some w' → WitP g rows (v0 :: vs) (p :: w') := fun p w' hp hw' => by
        have ih := useful_wit hsv f _ _ _ m.others hw' (.inl hnt)
        -- what the fresh one is
        have hfr : Wf g p ∧ namedB p = false ∧ (∀ z0 : Pat, Wf g z0 → (∀ q rest, q :: rest ∈ rows → pairB g z0 q = true) → twoP g z0 p) ∧ ∀ q rest, q :: rest ∈ rows → ∀ h, asksH q = some h → apartB q p = true := by
          cases hh : headsL rows with
          | nil =>
            rw [hh] at hp
            injection hp with hp
            subst hp
            refine ⟨wf_any g, rfl, fun z0 _ _ => twoP_any' z0, fun q rest hr h hq => ?_⟩
            have : h ∈ headsL rows := headsL_iff.2 ⟨q, rest, hr, hq⟩
            rw [hh] at this
            cases this
          | cons h0 t =>
            have hm0 : h0 ∈ headsL rows := by rw [hh]; exact List.mem_cons_self ..
            obtain ⟨p0, r0, hr0, ha0⟩ := headsL_iff.1 hm0
            have hp0 := m.wf _ (List.mem_cons_of_mem _ hr0) p0 (List.mem_cons_self ..)
            have hin : ∀ q rest h, q :: rest ∈ rows → asksH q = some h → h ∈ h0 :: t := fun q rest h hr hq => by rw [← hh]; exact headsL_iff.2 ⟨q, rest, hr, hq⟩
            rw [hh] at hp
            simp only [freshP] at hp
            rcases asks_iff.1 ha0 with ⟨e, eh⟩ | ⟨e, eh⟩ | ⟨e, eh⟩
            · have hs := (freshN_spec headI_inj (h0 :: t)).1
              rw [if_pos (by rw [eh])] at hp
              injection hp with hp
              subst hp
              have hpa : asksH (.mk 3 0 (freshN headI (h0 :: t)) ⟨#[]⟩ 0 0 0 []) = some (headI (freshN headI (h0 :: t))) := rfl
              refine ⟨.mk (by simp [aloneB]) fun q hq => (by cases hq), rfl, fun z0 hz hz2 => twoP_def.2 ⟨?_, fun _ e5 => by simp [Pat.kind] at e5⟩, fun q rest hr h hq => apart_heads hq hpa fun x => hs (by rw [← x]; exact hin q rest h hr hq)⟩
              rcases pair_cases (hz2 p0 r0 hr0) with x | x | ⟨x, _⟩
              · simp [pairB, x]
              · have := asks_open ha0; rw [x] at this; cases this
              · exact pair_of (x.trans e) fun e5 => by omega
            · have hs := (freshN_spec headS_inj (h0 :: t)).1
              rw [if_neg (by rw [eh]; simp), if_pos (by rw [eh])] at hp
              injection hp with hp
              subst hp
              have hpa : asksH (.mk 4 0 0 (aas (freshN headS (h0 :: t))) 0 0 0 []) = some (headS (freshN headS (h0 :: t))) := rfl
              refine ⟨.mk (by simp [aloneB]) fun q hq => (by cases hq), rfl, fun z0 hz hz2 => twoP_def.2 ⟨?_, fun _ e5 => by simp [Pat.kind] at e5⟩, fun q rest hr h hq => apart_heads hq hpa fun x => hs (by rw [← x]; exact hin q rest h hr hq)⟩
              rcases pair_cases (hz2 p0 r0 hr0) with x | x | ⟨x, _⟩
              · simp [pairB, x]
              · have := asks_open ha0; rw [x] at this; cases this
              · exact pair_of (x.trans e) fun e5 => by omega
            · have e5 : h0.kind = 5 := by rw [eh]
              have en : h0.n = p0.n := by rw [eh]
              rw [if_neg (by omega), if_neg (by omega), en] at hp
              obtain ⟨c, hc, hcp⟩ := Option.map_eq_some_iff.1 hp
              have hc1 := List.find?_some hc
              have hc2 := List.mem_of_find?_eq_some hc
              obtain ⟨k0, k1, _⟩ := alone_con hp0.alone e
              obtain ⟨c0, c1, c2⟩ := (consOf_mem hsv k0 k1).1 hc2
              subst hcp
              have hpa : asksH (.mk 5 c 0 ⟨#[]⟩ 0 0 0 (anysL (g.arity c))) = some (headC c) := rfl
              have hs : headC c ∉ h0 :: t := of_decide_eq_true hc1
              refine ⟨.mk (by simp [aloneB, c0, c1, anysL]) fun q hq => (by rw [anys_mem hq]; exact wf_any g), ?_, fun z0 hz hz2 => twoP_def.2 ⟨?_, fun _ _ _ => twoPL_anys' _ _⟩, fun q rest hr h hq => apart_heads hq hpa fun x => hs (by rw [← x]; exact hin q rest h hr hq)⟩
              · rw [named_def]
                show (namedL (anysL (g.arity c)) || decide ((5 : Int) = 1)) = false
                rw [namedL_iff.2 fun q hq => by rw [anys_mem hq]; rfl]
                rfl
              · rcases pair_cases (hz2 p0 r0 hr0) with x | x | ⟨x, x'⟩
                · simp [pairB, x]
                · have := asks_open ha0; rw [x] at this; cases this
                · exact pair_of (x.trans e) fun e5 => (x' e5).trans c2.symm
        obtain ⟨f1, f2, f3, f4⟩ := hfr
        refine ⟨by simp only [namedL, f2, Bool.false_or]; exact ih.named, fun q hq => ?_, fun z hz hzw hzt => ?_, fun r hr => ?_⟩
        · rcases List.mem_cons.1 hq with rfl | hq
          · exact f1
          · exact ih.wf q hq
        · cases z with
          | nil => exact trivial
          | cons z0 zs =>
            refine ⟨f3 z0 (hzw z0 (List.mem_cons_self ..)) fun q rest hr => (twoP_def.1 (hzt _ (List.mem_cons_of_mem _ hr)).1).1, ih.tog zs (by simpa using hz) (fun q hq => hzw q (List.mem_cons_of_mem _ hq)) fun r hr => ?_⟩
            rcases List.mem_cons.1 hr with rfl | hr
            · exact (hzt _ (List.mem_cons_self ..)).2
            · obtain ⟨q, hq, _⟩ := others_mem.1 hr
              exact (hzt _ (List.mem_cons_of_mem _ hq)).2
        · obtain ⟨q, rest, rfl, h1, h2⟩ := m.cons r (List.mem_cons_of_mem _ hr)
          simp only [apartL, Bool.or_eq_true]
          cases hq : asksH q with
          | some h => exact .inl (f4 q rest hr h hq)
          | none => exact .inr (ih.apart rest (others_mem.2 ⟨q, hr, none_open hq h2.alone⟩))
      simp only at hu
      split at hu
      · rename_i p w' hp hw'
        injection hu with hu
        subst hu
        exact fresh p w' hp hw'
      · obtain ⟨h, hh, hw⟩ := List.exists_of_findSome?_eq_some hu
        exact tr h hh w hw
end Go.Proofs.Ytjflembhgjcgkaa
