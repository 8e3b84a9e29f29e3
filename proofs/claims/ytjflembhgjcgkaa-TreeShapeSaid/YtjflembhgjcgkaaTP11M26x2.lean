/- M26: a value with another one at a place. No program in sight. -/
import Derived.Test.YtjflembhgjcgkaaTP11M18
import Derived.Test.YtjflembhgjcgkaaTP11M15x3
set_option linter.unusedSimpArgs false
set_option linter.unusedVariables false
namespace Go.Proofs.Ytjflembhgjcgkaa
open Go.RowKit

/-- The patterns that stand at a place, as a value goes. -/
def colF : List Pat → Val → List Int → List Pat
  | l, _, [] => l
  | l, v, i :: path => match v.l[i.toNat]? with
    | some x => colF (kidsL l v.n i.toNat) x path
    | none => []
theorem colF_all2 {g : Sg} : ∀ (path : List Int) (l : List Pat) (v : Val), All2 g l → All2 g (colF l v path)
  | [], l, v, h => h
  | i :: path, l, v, h => by
    simp only [colF]
    split
    · exact colF_all2 path _ _ (h.kids _ _)
    · exact h.sub fun p hp => by cases hp
theorem col_append {v w : Val} : ∀ {x y : List Int} {l : List Pat}, atF v x = some w → colF l v (x ++ y) = colF (colF l v x) w y := by
  intro x
  induction x generalizing v with
  | nil => intro y l h; injection h with h; rw [h]; rfl
  | cons i x ih =>
    intro y l h
    simp only [atF] at h
    simp only [List.cons_append, colF]
    split at h
    · cases h
    · cases hu : v.l[i.toNat]? with
      | none => rw [hu] at h; cases h
      | some u => rw [hu] at h; exact ih h
/-- What a value is at its own place. -/
structure HeadEq (a b : Val) : Prop where
  kind : a.kind = b.kind
  n : a.n = b.n
  s : a.s = b.s
  len : a.l.length = b.l.length
theorem HeadEq.refl (a : Val) : HeadEq a a := ⟨rfl, rfl, rfl, rfl⟩
theorem HeadEq.symm {a b : Val} (h : HeadEq a b) : HeadEq b a := ⟨h.kind.symm, h.n.symm, h.s.symm, h.len.symm⟩
theorem HeadEq.trans {a b c : Val} (h : HeadEq a b) (k : HeadEq b c) : HeadEq a c := ⟨h.kind.trans k.kind, h.n.trans k.n, h.s.trans k.s, h.len.trans k.len⟩
theorem HeadEq.has {a b : Val} (h : HeadEq a b) (q : Pat) : hasQ q a = hasQ q b := by
  have e : a.l = [] ↔ b.l = [] := by rw [← List.length_eq_zero_iff, ← List.length_eq_zero_iff, h.len]
  unfold hasQ
  rw [h.kind, h.n, h.s]
  by_cases h5 : q.kind = 5
  · simp only [h5, e]
  · simp [h5]
def SameAt (k : List Int) (a b : Val) : Prop := ∃ x y, atF a k = some x ∧ atF b k = some y ∧ HeadEq x y
theorem at_goes {g : Sg} {v : Val} : ∀ (path : List Int) (l : List Pat) (v w : Val), (∀ q ∈ l, goesP g q v) → atF v path = some w → ∀ q ∈ colF l v path, goesP g q w
  | [], l, v, w, h, e, q, hq => by injection e with e; rw [← e]; exact h q hq
  | i :: path, l, v, w, h, e, q, hq => by
    simp only [atF] at e
    split at e
    · cases e
    · simp only [colF] at hq
      cases hu : v.l[i.toNat]? with
      | none => rw [hu] at e; cases e
      | some u =>
        rw [hu] at e hq
        refine at_goes (v := u) path _ u w (fun x hx => ?_) e q hq
        obtain ⟨p, hp, h5, hn, hx⟩ := kids_mem.1 hx
        have := ((goesP_def.1 (h p hp)).2.2 h5).2.2 hn.symm
        exact goesL_iff.1 this _ _ _ hx hu
def Val.put : Val → Nat → Val → Val
  | .mk k n s l, i, x => .mk k n s (l.set i x)
/-- A value that goes with what stands at a place may stand there. -/
theorem replace {g : Sg} : ∀ (path : List Int) (l : List Pat) (v w w1 : Val), (∀ q ∈ l, goesP g q v) → atF v path = some w → (∀ q ∈ colF l v path, goesP g q w1) →
    ∃ v1, (∀ q ∈ l, goesP g q v1) ∧ atF v1 path = some w1 ∧ (∀ k, ¬ path <+: k → ∀ x, atF v k = some x → ∃ y, atF v1 k = some y ∧ HeadEq x y) ∧ (path ≠ [] → HeadEq v v1)
  | [], l, v, w, w1, h, e, h1 => ⟨w1, h1, rfl, fun k hk => absurd (List.nil_prefix) hk, fun h => absurd rfl h⟩
  | i :: path, l, v, w, w1, h, e, h1 => by
    simp only [atF] at e
    split at e
    · cases e
    · rename_i hi
      simp only [colF] at h1
      cases hu : v.l[i.toNat]? with
      | none => rw [hu] at e; cases e
      | some u =>
        rw [hu] at e h1
        have hkids : ∀ x ∈ kidsL l v.n i.toNat, goesP g x u := fun x hx => by
          obtain ⟨p, hp, h5, hn, hx⟩ := kids_mem.1 hx
          have := ((goesP_def.1 (h p hp)).2.2 h5).2.2 hn.symm
          exact goesL_iff.1 this _ _ _ hx hu
        obtain ⟨u1, g1, g2, g3, g4⟩ := replace path _ u w w1 hkids e h1
        have hlt := (List.getElem?_eq_some_iff.1 hu).1
        obtain ⟨vk, vn, vs, vl⟩ := v
        simp only [Val.l, Val.n] at *
        have hset : (vl.set i.toNat u1)[i.toNat]? = some u1 := by rw [List.getElem?_set_self hlt]
        refine ⟨.mk vk vn vs (vl.set i.toNat u1), fun q hq => ?_, ?_, fun k hk x hx => ?_, fun _ => ⟨rfl, rfl, rfl, by simp [Val.l]⟩⟩
        · have hg := goesP_def.1 (h q hq)
          refine goesP_def.2 ⟨hg.1, hg.2.1, fun h5 => ?_⟩
          obtain ⟨c1, c2, c3⟩ := hg.2.2 h5
          refine ⟨⟨c1.kind, c1.lo, c1.hi, (List.length_set ..).trans c1.len, c1.word⟩, c2, fun hn => goesL_iff.2 fun j y z hy hz => ?_⟩
          have hn' : vn = q.n := hn
          have c3 := goesL_iff.1 (c3 hn)
          simp only [Val.l] at hz c3
          by_cases hj : j = i.toNat
          · subst hj
            rw [hset] at hz
            injection hz with hz
            rw [← hz]
            exact g1 y (kids_mem.2 ⟨q, hq, h5, hn'.symm, hy⟩)
          · rw [List.getElem?_set_ne (Ne.symm hj)] at hz
            exact c3 j y z hy hz
        · simp only [atF]
          rw [if_neg hi]
          simp only [Val.l]
          rw [hset]
          exact g2
        · cases k with
          | nil =>
            injection hx with hx
            exact ⟨_, rfl, by rw [← hx]; exact ⟨rfl, rfl, rfl, by simp [Val.l]⟩⟩
          | cons j k =>
            simp only [atF] at hx ⊢
            split at hx
            · cases hx
            · rename_i hj0
              rw [if_neg hj0]
              simp only [Val.l] at hx ⊢
              by_cases hj : j.toNat = i.toNat
              · have hji : j = i := by omega
                subst hji
                rw [hset]
                rw [hu] at hx
                have hx : atF u k = some x := hx
                show ∃ y, atF u1 k = some y ∧ _
                exact g3 k (fun hp => hk (by rw [List.cons_prefix_cons]; exact ⟨rfl, hp⟩)) x hx
              · rw [List.getElem?_set_ne (fun e => hj e.symm)]
                exact ⟨x, hx, HeadEq.refl x⟩
end Go.Proofs.Ytjflembhgjcgkaa
/- M27: what a node of a tree knows; each node is come to by a value. No program in sight. -/
set_option linter.unusedSimpArgs false
set_option linter.unusedVariables false
namespace Go.Proofs.Ytjflembhgjcgkaa
open Go.RowKit

/-- What is left of a row's asks. -/
theorem narrow_mem {path : List Int} {s : Option Pat} {r r' : RowT} (hd : r.asks.Pairwise fun a b => a.path ≠ b.path) (h : narrowR path s r = some r') {b : AskT} (hb : b ∈ r'.asks) :
    (b ∈ r.asks ∧ b.path ≠ path) ∨ ∃ q a, s = some q ∧ a ∈ r.asks ∧ a.path = path ∧ isB q a.p = true ∧ ∃ j : Nat, a.p.l[j]? = some b.p ∧ b.path = path ++ [(j : Int)] := by
  unfold narrowR at h
  cases hs : spotF path r.asks with
  | none =>
    rw [hs] at h
    injection h with h
    subst h
    exact .inl ⟨hb, spot_none hs b hb⟩
  | some k =>
    obtain ⟨a, ha, hp⟩ := spot_at hs
    rw [hs] at h
    simp only [ha] at h
    cases s with
    | none => cases h
    | some q =>
      simp only at h
      split at h
      · rename_i hi
        injection h with h
        subst h
        have hk := (List.getElem?_eq_some_iff.1 ha).1
        have hne : ∀ j, j ≠ k → ∀ c, r.asks[j]? = some c → c.path ≠ path := fun j hj c hc e => by
          have hjl := (List.getElem?_eq_some_iff.1 hc).1
          rw [List.pairwise_iff_getElem] at hd
          have e1 := (List.getElem?_eq_some_iff.1 hc).2
          have e2 := (List.getElem?_eq_some_iff.1 ha).2
          rcases Nat.lt_or_gt_of_ne hj with hlt | hgt
          · exact hd j k hjl hk hlt (by rw [e1, e2, e, hp])
          · exact hd k j hk hjl hgt (by rw [e1, e2, e, hp])
        simp only [List.mem_append] at hb
        rcases hb with (hb | hb) | hb
        · obtain ⟨j, hj⟩ := List.getElem?_of_mem hb
          have hjk : j < k := by have := (List.getElem?_eq_some_iff.1 hj).1; rw [List.length_take] at this; omega
          rw [List.getElem?_take_of_lt hjk] at hj
          exact .inl ⟨List.mem_of_getElem? hj, hne j (by omega) b hj⟩
        · obtain ⟨j, h1, h2⟩ := asked_at hb
          rw [Nat.zero_add] at h2
          exact .inr ⟨q, a, rfl, List.mem_of_getElem? ha, hp, hi, j, h1, h2⟩
        · obtain ⟨j, hj⟩ := List.getElem?_of_mem hb
          rw [List.getElem?_drop] at hj
          exact .inl ⟨List.mem_of_getElem? hj, hne (k + 1 + j) (by omega) b hj⟩
      · cases h
theorem asked_dist {path : List Int} : ∀ (l : List Pat) (i : Nat), (askedF path i l).Pairwise fun a b => a.path ≠ b.path
  | [], i => List.Pairwise.nil
  | p :: l, i => by
    simp only [askedF]
    split
    · refine List.pairwise_cons.2 ⟨fun b hb e => ?_, asked_dist l (i + 1)⟩
      obtain ⟨j, _, h2⟩ := asked_at hb
      rw [h2] at e
      have := List.append_cancel_left e
      injection this with this
      omega
    · exact asked_dist l (i + 1)
structure Node (g : Sg) (l : List Pat) (K : List (List Int)) (v0 : Val) (rows : List RowT) : Prop where
  goes : ∀ q ∈ l, goesP g q v0
  at' : ∀ k ∈ K, ∃ x, atF v0 k = some x
  all : ∀ v, (∀ q ∈ l, goesP g q v) → (∀ k ∈ K, SameAt k v0 v) → (∀ r ∈ rows, ∀ a ∈ r.asks, openB a.p = false ∧ a.p ∈ colF l v a.path ∧ ∃ w, atF v a.path = some w) ∧ (rows.find? (fitsR v)).map (·.n) = (firstF l v).map (fun k => (k : Int))
  dist : ∀ r ∈ rows, r.asks.Pairwise fun a b => a.path ≠ b.path
  new : ∀ r ∈ rows, ∀ a ∈ r.asks, ∀ k ∈ K, ¬ a.path <+: k
  known : ∀ r ∈ rows, ∀ a ∈ r.asks, ∀ x y, a.path = x ++ y → y ≠ [] → x ∈ K
section
variable {g : Sg} {l : List Pat} {K : List (List Int)} {v0 : Val} {rows : List RowT}
theorem Node.self (h : Node g l K v0 rows) : ∀ k ∈ K, SameAt k v0 v0 := fun k hk => by
  obtain ⟨x, hx⟩ := h.at' k hk
  exact ⟨x, x, hx, hx, HeadEq.refl x⟩
theorem Node.askV (h : Node g l K v0 rows) (ha : All2 g l) {v : Val} (hv : ∀ q ∈ l, goesP g q v) (hs : ∀ k ∈ K, SameAt k v0 v) : ∀ r ∈ rows, ∀ a ∈ r.asks, AskV g v a := fun r hr a hra => by
  obtain ⟨h1, h2, w, h3⟩ := (h.all v hv hs).1 r hr a hra
  exact ⟨h1, (colF_all2 a.path l v ha).wf a.p h2, w, h3, at_goes (v := v) a.path l v w hv h3 a.p h2⟩
/-- A branch's node. -/
theorem Node.child (h : Node g l K v0 rows) (ha : All2 g l) {r : RowT} {a : AskT} (hr : r ∈ rows) (hra : a ∈ r.asks) {s : Option Pat} {w1 : Val} (hw1 : ∀ q ∈ colF l v0 a.path, goesP g q w1)
    (hq : ∀ q, s = some q → hasQ q w1 = true)
    (hL : ∀ v w, (∀ q ∈ l, goesP g q v) → (∀ k ∈ K, SameAt k v0 v) → atF v a.path = some w → HeadEq w1 w → ∀ r ∈ rows, Left g v r (narrowR a.path s r)) :
    ∃ v1, Node g l (K ++ [a.path]) v1 (narrowF rows a.path s) := by
  obtain ⟨_, hcol, w0, hw0⟩ := (h.all v0 h.goes h.self).1 r hr a hra
  obtain ⟨v1, g1, g2, g3, _⟩ := replace a.path l v0 w0 w1 h.goes hw0 hw1
  have hK1 : ∀ k ∈ K, SameAt k v0 v1 := fun k hk => by
    obtain ⟨x, hx⟩ := h.at' k hk
    obtain ⟨y, hy, e⟩ := g3 k (h.new r hr a hra k hk) x hx
    exact ⟨x, y, hx, hy, e⟩
  refine ⟨v1, g1, fun k hk => ?_, fun v hv hs => ?_, fun r' hr' => ?_, fun r' hr' b hb k hk => ?_, fun r' hr' b hb x y e hy => ?_⟩
  · rcases List.mem_append.1 hk with hk | hk
    · obtain ⟨_, y, _, hy, _⟩ := hK1 k hk; exact ⟨y, hy⟩
    · rw [List.mem_singleton.1 hk]; exact ⟨w1, g2⟩
  · have hs0 : ∀ k ∈ K, SameAt k v0 v := fun k hk => by
      obtain ⟨x, y, h1, h2, e1⟩ := hK1 k hk
      obtain ⟨y', z, h3, h4, e2⟩ := hs k (List.mem_append.2 (.inl hk))
      rw [h2] at h3
      injection h3 with h3
      subst h3
      exact ⟨x, z, h1, h4, e1.trans e2⟩
    obtain ⟨y', w, h3, h4, e2⟩ := hs a.path (List.mem_append.2 (.inr (by simp)))
    rw [g2] at h3
    injection h3 with h3
    subst h3
    have hLv := hL v w hv hs0 h4 e2
    obtain ⟨o1, o2⟩ := h.all v hv hs0
    have hA := rows_narrow hLv
    refine ⟨fun r' hr' b hb => ?_, (find_narrow rows hLv).trans o2⟩
    have hAb := hA r' hr' b hb
    obtain ⟨wb, hwb, _⟩ := hAb.at'
    refine ⟨hAb.tests, ?_, wb, hwb⟩
    obtain ⟨r0, h0, hn⟩ := List.mem_filterMap.1 hr'
    rcases narrow_mem (h.dist r0 h0) hn hb with ⟨hb0, _⟩ | ⟨q, a', rfl, ha', hp', hi, j, hj, hbp⟩
    · exact (o1 r0 h0 b hb0).2.1
    · have hav := h.askV ha hv hs0 r0 h0 a' ha'
      have hc' := (o1 r0 h0 a' ha').2.1
      rw [hp'] at hc'
      obtain ⟨w', hw', hg'⟩ := hav.at'
      rw [hp', h4] at hw'
      injection hw' with hw'
      subst hw'
      have hh : hasQ q w = true := by rw [← e2.has q]; exact hq q rfl
      obtain ⟨_, e5, e6⟩ := is_fits hav.wf hav.tests hg' hi hh
      have h5 : a'.p.kind = 5 := Classical.byContradiction fun h5 => by rw [e6 h5] at hj; simp at hj
      obtain ⟨hc, hwn⟩ := e5 h5
      rw [hbp] at hwb ⊢
      rw [col_append h4]
      rw [at_append h4, at_one] at hwb
      simp only [colF, Int.toNat_natCast]
      rw [hwb]
      exact kids_mem.2 ⟨a'.p, hc', h5, hwn.symm, hj⟩
  · obtain ⟨r0, h0, hn⟩ := List.mem_filterMap.1 hr'
    have hd := h.dist r0 h0
    unfold narrowR at hn
    cases hs : spotF a.path r0.asks with
    | none =>
      rw [hs] at hn
      injection hn with hn
      subst hn
      exact hd
    | some k =>
      obtain ⟨a', ha', hp⟩ := spot_at hs
      rw [hs] at hn
      simp only [ha'] at hn
      cases s with
      | none => cases hn
      | some q =>
        simp only at hn
        split at hn
        · injection hn with hn
          subst hn
          have hnew : ∀ b ∈ r0.asks, ∀ c ∈ askedF a.path 0 a'.p.l, b.path ≠ c.path := fun b hb c hc e => by
            obtain ⟨j, _, h2⟩ := asked_at hc
            have hk := h.known r0 h0 b hb a.path [((0 + j : Nat) : Int)] (by rw [e, h2]) (by simp)
            exact h.new r hr a hra a.path hk (List.prefix_refl _)
          have hd1 : (r0.asks.take k ++ r0.asks.drop (k + 1)).Pairwise fun a b => a.path ≠ b.path :=
            hd.sublist (by
              have e : r0.asks = r0.asks.take k ++ r0.asks.drop k := (List.take_append_drop k _).symm
              have e2 : (r0.asks.drop (k + 1)).Sublist (r0.asks.drop k) := by
                have := List.drop_sublist 1 (r0.asks.drop k)
                rwa [List.drop_drop] at this
              have := List.Sublist.append (List.Sublist.refl (r0.asks.take k)) e2
              rwa [← e] at this)
          have hd2 := List.pairwise_append.1 hd1
          refine List.pairwise_append.2 ⟨List.pairwise_append.2 ⟨hd2.1, asked_dist _ _, fun b hb c hc => hnew b (List.mem_of_mem_take hb) c hc⟩, hd2.2.1, fun b hb c hc => ?_⟩
          rcases List.mem_append.1 hb with hb | hb
          · exact hd2.2.2 b hb c hc
          · exact fun e => hnew c (List.mem_of_mem_drop hc) b hb e.symm
        · cases hn
  · obtain ⟨r0, h0, hn⟩ := List.mem_filterMap.1 hr'
    rcases narrow_mem (h.dist r0 h0) hn hb with ⟨hb0, hne⟩ | ⟨q, a', _, ha', hp', _, j, _, hbp⟩
    · rcases List.mem_append.1 hk with hk | hk
      · exact h.new r0 h0 b hb0 k hk
      · rw [List.mem_singleton.1 hk]
        rintro ⟨y, e⟩
        by_cases hy : y = []
        · subst hy; rw [List.append_nil] at e; exact hne e
        · have := h.known r hr a hra b.path y e.symm hy
          exact h.new r0 h0 b hb0 b.path this (List.prefix_refl _)
    · rw [hbp]
      rintro ⟨y, e⟩
      rcases List.mem_append.1 hk with hk | hk
      · exact h.new r hr a hra k hk ⟨[(j : Int)] ++ y, by rw [← List.append_assoc]; exact e⟩
      · rw [List.mem_singleton.1 hk] at e
        have := congrArg List.length e
        simp at this
  · obtain ⟨r0, h0, hn⟩ := List.mem_filterMap.1 hr'
    rcases narrow_mem (h.dist r0 h0) hn hb with ⟨hb0, _⟩ | ⟨q, a', _, ha', hp', _, j, _, hbp⟩
    · exact List.mem_append.2 (.inl (h.known r0 h0 b hb0 x y e hy))
    · rw [hbp] at e
      by_cases hx : x = a.path
      · subst hx; simp
      · -- a proper part of the place above
        refine List.mem_append.2 (.inl ?_)
        have hlen := congrArg List.length e
        simp only [List.length_append, List.length_cons, List.length_nil] at hlen
        have hyl : 0 < y.length := List.length_pos_iff.2 hy
        have hpre : x <+: a.path ++ [(j : Int)] := ⟨y, e.symm⟩
        have hpre2 : x <+: a.path := by
          rw [List.prefix_concat_iff] at hpre
          rcases hpre with e' | h'
          · exfalso
            have := congrArg List.length e'
            simp at this
            omega
          · exact h'
        obtain ⟨z, hz⟩ := hpre2
        exact h.known r hr a hra x z hz.symm (fun e => hx (by rw [e, List.append_nil] at hz; exact hz))
end
end Go.Proofs.Ytjflembhgjcgkaa
