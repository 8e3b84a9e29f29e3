/- M18: what becomes of all values (Look of everything); the two Checks agree. No program in sight. -/
import Derived.Test.YtjflembhgjcgkaaTP11M17
set_option linter.unusedSimpArgs false
set_option linter.unusedVariables false
namespace Go.Proofs.Ytjflembhgjcgkaa
open Go.RowKit

structure Vals (g : Sg) (r : RoomT) (S : Pat) (v : Val) : Prop where
  fits : fitsB S v = true
  goes : goesP g S v
  all : ∀ q ∈ r.l, goesP g q v
  lit : litV (inI r) (inT r) v
def FirstFit (l : List Pat) (v : Val) (i : Nat) : Prop := ∃ p, l[i]? = some p ∧ fitsB p v = true ∧ ∀ (j : Nat) (q : Pat), j < i → l[j]? = some q → fitsB q v = false
def NoFit (l : List Pat) (v : Val) : Prop := ∀ q ∈ l, fitsB q v = false
/-- What became of a shape whose values are E. -/
structure LookP (l : List Pat) (E : Val → Prop) (f f' : FoundT) : Prop where
  len : f'.come.length = f.come.length
  miss : f'.missing.kind ≠ 0 ↔ f.missing.kind ≠ 0 ∨ ∃ v, E v ∧ NoFit l v
  come : ∀ i : Nat, f'.come[i]? = some true ↔ f.come[i]? = some true ∨ ∃ v, E v ∧ FirstFit l v i
theorem LookP.mono {l : List Pat} {E E' : Val → Prop} {f f' : FoundT} (h : LookP l E f f') (he : ∀ v, E v ↔ E' v) : LookP l E' f f' := by
  have : E = E' := funext fun v => propext (he v)
  rw [← this]; exact h
theorem look_fold {l : List Pat} {F : Pat → FoundT → FoundT} {E : Pat → Val → Prop} : ∀ (xs : List Pat) (f : FoundT), f.come.length = l.length → (∀ x ∈ xs, ∀ f : FoundT, f.come.length = l.length → LookP l (E x) f (F x f)) → LookP l (fun v => ∃ x ∈ xs, E x v) f (xs.foldl (fun f x => F x f) f)
  | [], f, _, _ => ⟨rfl, ⟨.inl, fun h => h.elim id fun ⟨v, ⟨x, hx, _⟩, _⟩ => (by cases hx)⟩, fun i => ⟨.inl, fun h => h.elim id fun ⟨v, ⟨x, hx, _⟩, _⟩ => (by cases hx)⟩⟩
  | x :: xs, f, hf, h => by
    have h1 := h x (List.mem_cons_self ..) f hf
    have h2 := look_fold xs (F x f) (h1.len.trans hf) fun y hy => h y (List.mem_cons_of_mem _ hy)
    rw [List.foldl_cons]
    have key : ∀ (K : Val → Prop), ((∃ v, E x v ∧ K v) ∨ ∃ v, (∃ y ∈ xs, E y v) ∧ K v) ↔ ∃ v, (∃ y ∈ x :: xs, E y v) ∧ K v := fun K => by
      constructor
      · rintro (⟨v, hv, hk⟩ | ⟨v, ⟨y, hy, hv⟩, hk⟩)
        · exact ⟨v, ⟨x, List.mem_cons_self .., hv⟩, hk⟩
        · exact ⟨v, ⟨y, List.mem_cons_of_mem _ hy, hv⟩, hk⟩
      · rintro ⟨v, ⟨y, hy, hv⟩, hk⟩
        rcases List.mem_cons.1 hy with rfl | hy
        · exact .inl ⟨v, hv, hk⟩
        · exact .inr ⟨v, ⟨y, hy, hv⟩, hk⟩
    refine ⟨h2.len.trans h1.len, ?_, fun i => ?_⟩
    · rw [h2.miss, h1.miss, or_assoc, key]
    · rw [h2.come, h1.come, or_assoc, key]
theorem sum_le {α : Type} {f g : α → Nat} : ∀ (l : List α), (∀ x ∈ l, f x ≤ g x) → (l.map f).sum ≤ (l.map g).sum
  | [], _ => Nat.le_refl _
  | a :: l, h => by
    have h1 := h a (List.mem_cons_self ..)
    have h2 := sum_le l fun x hx => h x (List.mem_cons_of_mem _ hx)
    simp only [List.map_cons, List.sum_cons]; omega
theorem sum_lt {α : Type} {f g : α → Nat} : ∀ (l : List α), (∀ x ∈ l, f x ≤ g x) → (∃ x ∈ l, f x < g x) → (l.map f).sum < (l.map g).sum
  | [], _, ⟨x, hx, _⟩ => by cases hx
  | a :: l, h, ⟨x, hx, hlt⟩ => by
    have h1 := h a (List.mem_cons_self ..)
    have h2 := sum_le l fun x hx => h x (List.mem_cons_of_mem _ hx)
    simp only [List.map_cons, List.sum_cons]
    rcases List.mem_cons.1 hx with rfl | hx
    · omega
    · have := sum_lt l (fun x hx => h x (List.mem_cons_of_mem _ hx)) ⟨x, hx, hlt⟩
      omega
theorem kind_pos {g : Sg} {p : Pat} (h : Wf g p) : p.kind ≠ 0 := by
  rcases alone_kind h.alone with e | e | e | e
  · have := open_kind e; omega
  · omega
  · omega
  · omega

theorem look_sem {g : Sg} {r : RoomT} (hr : RoomOk g r) : ∀ (n : Nat) (S : Pat) (f : FoundT), All2 g (S :: r.l) → litP (inI r) (inT r) S → (∀ q ∈ r.l, litP (inI r) (inT r) q) → (r.l.map (unrP S)).sum < n → f.come.length = r.l.length → LookP r.l (Vals g r S) f (lookF r n S f)
  | 0, S, f, ha, hl, hq, hn, hf => absurd hn (Nat.not_lt_zero _)
  | n + 1, S, f, ha, hl, hq, hn, hf => by
    have hSw := ha.wf S (List.mem_cons_self ..)
    have inh : ∃ v, Vals g r S v := by
      obtain ⟨v, h1, h2, h3⟩ := canon (I := inI r) (S := inT r) _ (S :: r.l) (Nat.le_refl _) ha (fun p hp => by
        rcases List.mem_cons.1 hp with rfl | hp
        · exact hl
        · exact hq p hp) S (List.mem_cons_self ..)
      exact ⟨v, h1, h2 S (List.mem_cons_self ..), fun q hq => h2 q (List.mem_cons_of_mem _ hq), h3⟩
    have apart : ∀ q ∈ r.l, apartB S q = true → ∀ v, Vals g r S v → fitsB q v = false := fun q hq h v hv => apart_fits S q v hSw (ha.wf q (List.mem_cons_of_mem _ hq)) h hv.fits
    simp only [lookF]
    cases hi : firstA S r.l with
    | none =>
      have hall : ∀ q ∈ r.l, apartB S q = true := fun q hq => by
        have := List.findIdx?_eq_none_iff.1 hi q hq
        simpa using this
      have hno : ∀ v, Vals g r S v → NoFit r.l v := fun v hv q hq => apart q hq (hall q hq) v hv
      obtain ⟨v0, hv0⟩ := inh
      have hcome : ∀ i, ¬ ∃ v, Vals g r S v ∧ FirstFit r.l v i := fun i ⟨v, hv, p, hp, hf, _⟩ => by
        rw [hno v hv p (List.mem_of_getElem? hp)] at hf; cases hf
      simp only
      split
      · rename_i hk
        exact ⟨rfl, ⟨fun _ => .inr ⟨v0, hv0, hno v0 hv0⟩, fun _ => kind_pos hSw⟩, fun i => ⟨.inl, fun h => h.elim id fun h => absurd h (hcome i)⟩⟩
      · rename_i hk
        exact ⟨rfl, ⟨.inl, fun _ => hk⟩, fun i => ⟨.inl, fun h => h.elim id fun h => absurd h (hcome i)⟩⟩
    | some i =>
      obtain ⟨hlt, hia, hib⟩ := List.findIdx?_eq_some_iff_getElem.1 hi
      obtain ⟨p, hp⟩ := getS hlt
      have hpe : r.l[i] = p := (List.getElem?_eq_some_iff.1 hp).2
      rw [hpe] at hia
      have hpm := List.mem_of_getElem? hp
      have hap : apartB S p = false := by simpa using hia
      have hbef : ∀ (j : Nat) (q : Pat), j < i → r.l[j]? = some q → apartB S q = true := fun j q hj hq => by
        have h1 := hib j hj
        have h2 := (List.getElem?_eq_some_iff.1 hq).2
        rw [h2] at h1
        simpa using h1
      simp only [hp]
      cases hw : withinB S p with
      | true =>
        rw [if_pos rfl]
        have hfit : ∀ v, Vals g r S v → fitsB p v = true := fun v hv => within_fits S p v hw hv.fits
        have hff : ∀ v, Vals g r S v → FirstFit r.l v i := fun v hv => ⟨p, hp, hfit v hv, fun j q hj hq => apart q (List.mem_of_getElem? hq) (hbef j q hj hq) v hv⟩
        obtain ⟨v0, hv0⟩ := inh
        refine ⟨by simp, ⟨.inl, fun h => h.elim id fun ⟨v, hv, hno⟩ => ?_⟩, fun j => ?_⟩
        · have := hno p hpm
          rw [hfit v hv] at this
          cases this
        · by_cases hj : j = i
          · subst hj
            rw [List.getElem?_set_self (by rw [hf]; exact hlt)]
            exact ⟨fun _ => .inr ⟨v0, hv0, hff v0 hv0⟩, fun _ => rfl⟩
          · rw [List.getElem?_set_ne (Ne.symm hj)]
            refine ⟨.inl, fun h => h.elim id fun ⟨v, hv, q, hq, hfq, hb⟩ => ?_⟩
            exfalso
            rcases Nat.lt_or_gt_of_ne hj with hlt' | hgt
            · rw [apart q (List.mem_of_getElem? hq) (hbef j q hlt' hq) v hv] at hfq; cases hfq
            · have := hfit v hv
              rw [hb i p hgt hp] at this
              cases this
      | false =>
        rw [if_neg (by decide)]
        obtain ⟨h1, h2⟩ := split_ok hr S r.l p ha hl hpm hap hw
        have hfold := look_fold (l := r.l) (F := fun x f => lookF r n x f) (E := fun x v => Vals g r x v) (splitP r S p) f hf fun x hx f' hf' => by
          have P := h1 x hx
          exact look_sem hr n x f' P.all P.lit hq (by have := sum_lt (f := unrP x) (g := unrP S) r.l P.le ⟨p, hpm, P.lt⟩; omega) hf'
        refine hfold.mono fun v => ⟨?_, fun hv => ?_⟩
        · rintro ⟨x, hx, hv⟩
          obtain ⟨f1, f2⟩ := (h1 x hx).sub v hv.fits hv.goes
          exact ⟨f1, f2, hv.all, hv.lit⟩
        · obtain ⟨x, hx, f1, f2⟩ := h2 v hv.fits hv.goes hv.all hv.lit
          exact ⟨x, hx, f1, f2, hv.all, hv.lit⟩

/-! A number and a text that are not there. -/
theorem round_id : ∀ (l : List Int) (n : Int), n ∉ l → roundN l n = n
  | [], n, _ => rfl
  | a :: l, n, h => by
    simp only [List.mem_cons, not_or] at h
    unfold roundN
    rw [List.foldl_cons, if_neg (Ne.symm h.1)]
    exact round_id l n h.2
theorem round_ge : ∀ (l : List Int) (n : Int), n ≤ roundN l n
  | [], n => Int.le_refl _
  | a :: l, n => by
    unfold roundN
    rw [List.foldl_cons]
    split
    · have := round_ge l (n + 1); unfold roundN at this; omega
    · exact round_ge l n
theorem round_gt : ∀ (l : List Int) (n : Int), n ∈ l → n < roundN l n
  | a :: l, n, h => by
    unfold roundN
    rw [List.foldl_cons]
    by_cases e : a = n
    · rw [if_pos e]
      have := round_ge l (n + 1); unfold roundN at this; omega
    · rw [if_neg e]
      rcases List.mem_cons.1 h with h | h
      · exact absurd h.symm e
      · exact round_gt l n h
theorem count_lt {l : List Int} {n m : Int} (hn : n ∈ l) (hm : n < m) : (l.filter fun x => decide (m ≤ x)).length < (l.filter fun x => decide (n ≤ x)).length := by
  induction l with
  | nil => cases hn
  | cons a l ih =>
    have mono : (l.filter fun x => decide (m ≤ x)).length ≤ (l.filter fun x => decide (n ≤ x)).length := by
      clear ih hn
      induction l with
      | nil => exact Nat.le_refl _
      | cons b l ih =>
        simp only [List.filter_cons]
        by_cases h1 : m ≤ b
        · have h2 : n ≤ b := by omega
          simp [h1, h2]; exact ih
        · by_cases h2 : n ≤ b
          · simp [h1, h2]; omega
          · simp [h1, h2]; exact ih
    simp only [List.filter_cons]
    rcases List.mem_cons.1 hn with rfl | hn
    · have h1 : ¬ m ≤ n := by omega
      simp [h1]; omega
    · have := ih hn
      by_cases h1 : m ≤ a
      · have h2 : n ≤ a := by omega
        simp [h1, h2]; exact this
      · by_cases h2 : n ≤ a
        · simp [h1, h2]; omega
        · simp [h1, h2]; exact this
theorem rounds_out (l : List Int) : ∀ (k : Nat) (n : Int), (l.filter fun x => decide (n ≤ x)).length ≤ k → (List.range k).foldl (fun n _ => roundN l n) n ∉ l
  | 0, n, h => by
    intro hm
    have h0 : (l.filter fun x => decide (n ≤ x)) = [] := List.length_eq_zero_iff.1 (by omega)
    have hm : n ∈ l := hm
    have : n ∈ l.filter fun x => decide (n ≤ x) := List.mem_filter.2 ⟨hm, by simp⟩
    rw [h0] at this
    cases this
  | k + 1, n, h => by
    have e : (List.range (k + 1)).foldl (fun n _ => roundN l n) n = (List.range k).foldl (fun n _ => roundN l n) (roundN l n) := by
      have gen : ∀ (a b : List Nat) (n : Int), a.length = b.length → a.foldl (fun n _ => roundN l n) n = b.foldl (fun n _ => roundN l n) n := by
        intro a
        induction a with
        | nil => intro b n hb; rw [List.length_eq_zero_iff.1 hb.symm]
        | cons x a ih =>
          intro b n hb
          cases b with
          | nil => simp at hb
          | cons y b => exact ih b _ (by simpa using hb)
      rw [gen (List.range (k + 1)) (0 :: List.range k) n (by simp)]
      rfl
    rw [e]
    by_cases hn : n ∈ l
    · refine rounds_out l k _ ?_
      have := count_lt hn (round_gt l n hn)
      omega
    · rw [round_id l n hn]
      have fix : ∀ (a : List Nat), a.foldl (fun n _ => roundN l n) n = n := by
        intro a
        induction a with
        | nil => rfl
        | cons x a ih => rw [List.foldl_cons, round_id l n hn]; exact ih
      rw [fix]
      exact hn
theorem freeN_out (l : List Int) : freeN l ∉ l := rounds_out l l.length 0 (List.length_filter_le _ _)
theorem size_append (a b : ByteArray) : (a ++ b).size = a.size + b.size := ByteArray.size_append
theorem freeS_size : ∀ (l : List ByteArray) (a : ByteArray), a.size ≤ (l.foldl (· ++ ·) a).size ∧ ∀ s ∈ l, a.size + s.size ≤ (l.foldl (· ++ ·) a).size
  | [], a => ⟨Nat.le_refl _, fun s hs => by cases hs⟩
  | b :: l, a => by
    obtain ⟨h1, h2⟩ := freeS_size l (a ++ b)
    rw [size_append] at h1 h2
    refine ⟨by rw [List.foldl_cons]; omega, fun s hs => ?_⟩
    rw [List.foldl_cons]
    rcases List.mem_cons.1 hs with rfl | hs
    · exact h1
    · have := h2 s hs; omega
theorem freeS_out (l : List ByteArray) : freeS l ∉ l := fun h => by
  have := (freeS_size l ⟨#[46]⟩).2 _ h
  have e : (⟨#[46]⟩ : ByteArray).size = 1 := rfl
  unfold freeS at this
  omega

/-! A value's literals, those that are not there made the room's own. -/
mutual
theorem litP_of {I : Int → Prop} {T : ByteArray → Prop} : ∀ {p : Pat}, (∀ x ∈ numsP p, I x) → (∀ s ∈ textsP p, T s) → litP I T p
  | .mk k n i s a b c l, h1, h2 => by
    refine ⟨fun e => h1 i ?_, fun e => h2 s ?_, litPL_of (fun x hx => h1 x ?_) fun x hx => h2 x ?_⟩
    · simp [numsP, e]
    · simp [textsP, e]
    · simp [numsP, hx]
    · simp [textsP, hx]
theorem litPL_of {I : Int → Prop} {T : ByteArray → Prop} : ∀ {l : List Pat}, (∀ x ∈ numsL l, I x) → (∀ s ∈ textsL l, T s) → litPL I T l
  | [], _, _ => trivial
  | p :: l, h1, h2 => ⟨litP_of (fun x hx => h1 x (by simp [numsL, hx])) fun x hx => h2 x (by simp [textsL, hx]), litPL_of (fun x hx => h1 x (by simp [numsL, hx])) fun x hx => h2 x (by simp [textsL, hx])⟩
end
def notIn (T : List ByteArray) (s : ByteArray) : Bool := T.all fun t => decide (s ≠ t)
theorem notIn_iff {T : List ByteArray} {s : ByteArray} : notIn T s = true ↔ s ∉ T := by
  unfold notIn
  rw [List.all_eq_true]
  constructor
  · intro h hs; exact of_decide_eq_true (h s hs) rfl
  · intro h t ht; exact decide_eq_true fun e => h (by rw [e]; exact ht)
mutual
def relit (N : List Int) (T : List ByteArray) (n0 : Int) (s0 : ByteArray) : Val → Val
  | .mk k n s l => .mk k (if k = 1 ∧ n ∉ N then n0 else n) (if k = 2 ∧ notIn T s = true then s0 else s) (relitL N T n0 s0 l)
def relitL (N : List Int) (T : List ByteArray) (n0 : Int) (s0 : ByteArray) : List Val → List Val
  | [] => []
  | v :: l => relit N T n0 s0 v :: relitL N T n0 s0 l
end
section
variable {N : List Int} {T : List ByteArray} {n0 : Int} {s0 : ByteArray}
theorem relitL_map : ∀ l : List Val, relitL N T n0 s0 l = l.map (relit N T n0 s0)
  | [] => rfl
  | v :: l => by simp [relitL, relitL_map l]
mutual
theorem relit_lit : ∀ v : Val, litV (fun i => i ∈ n0 :: N) (fun s => s ∈ s0 :: T) (relit N T n0 s0 v)
  | .mk k n s l => by
    refine ⟨fun e => ?_, fun e => ?_, relitL_lit l⟩
    · show (if k = 1 ∧ n ∉ N then n0 else n) ∈ n0 :: N
      split
      · exact List.mem_cons_self ..
      · rename_i h
        exact List.mem_cons_of_mem _ (Decidable.byContradiction fun h' => h ⟨e, h'⟩)
    · show (if k = 2 ∧ notIn T s = true then s0 else s) ∈ s0 :: T
      split
      · exact List.mem_cons_self ..
      · rename_i h
        exact List.mem_cons_of_mem _ (Classical.byContradiction fun h' => h ⟨e, notIn_iff.2 h'⟩)
theorem relitL_lit : ∀ l : List Val, litVL (fun i => i ∈ n0 :: N) (fun s => s ∈ s0 :: T) (relitL N T n0 s0 l)
  | [] => trivial
  | v :: l => ⟨relit_lit v, relitL_lit l⟩
end
theorem relit_kind (v : Val) : (relit N T n0 s0 v).kind = v.kind ∧ (relit N T n0 s0 v).l = v.l.map (relit N T n0 s0) ∧ (v.kind ≠ 1 → (relit N T n0 s0 v).n = v.n) := by
  obtain ⟨k, n, s, l⟩ := v
  refine ⟨rfl, by show relitL N T n0 s0 l = _; rw [relitL_map]; rfl, fun h => ?_⟩
  show (if k = 1 ∧ n ∉ N then n0 else n) = n
  rw [if_neg fun e => h e.1]
theorem relit_con {g : Sg} {v : Val} (h : ConV g v) : ConV g (relit N T n0 s0 v) := by
  obtain ⟨h1, h2, h3⟩ := relit_kind (N := N) (T := T) (n0 := n0) (s0 := s0) v
  have hn := h3 (by have := h.kind; omega)
  exact ⟨by rw [h1]; exact h.kind, by rw [hn]; exact h.lo, by rw [hn]; exact h.hi, by rw [h2, hn, List.length_map]; exact h.len, by rw [h1, hn]; exact h.word⟩
theorem relit_goes {g : Sg} : ∀ (q : Pat) (v : Val), goesP g q v → goesP g q (relit N T n0 s0 v) := by
  refine ind_pat fun k n i s a b c l ih v h => ?_
  have h := goesP_def.1 h
  obtain ⟨h1, h2, h3⟩ := relit_kind (N := N) (T := T) (n0 := n0) (s0 := s0) v
  refine goesP_def.2 ⟨fun e => by rw [h1]; exact h.1 e, fun e => by rw [h1]; exact h.2.1 e, fun e => ?_⟩
  obtain ⟨hc, hd, hg⟩ := h.2.2 e
  have hn := h3 (by have := hc.kind; omega)
  refine ⟨relit_con hc, by rw [hn]; exact hd, fun e' => ?_⟩
  rw [hn] at e'
  rw [h2]
  refine goesL_iff.2 fun j x w e1 e2 => ?_
  rw [List.getElem?_map, Option.map_eq_some_iff] at e2
  obtain ⟨u, e3, rfl⟩ := e2
  exact ih x (List.mem_of_getElem? e1) u (goesL_iff.1 (hg e') j x u e1 e3)
theorem relit_fits (hn0 : n0 ∉ N) (hs0 : s0 ∉ T) : ∀ (q : Pat) (v : Val), litP (fun i => i ∈ N) (fun s => s ∈ T) q → fitsB q (relit N T n0 s0 v) = fitsB q v := by
  refine ind_pat fun k n i s a b c l ih v hl => ?_
  obtain ⟨h1, h2, h3⟩ := relit_kind (N := N) (T := T) (n0 := n0) (s0 := s0) v
  by_cases ho : openB (.mk k n i s a b c l) = true
  · rw [fits_open ho, fits_open ho]
  by_cases e3 : (Pat.mk k n i s a b c l).kind = 3
  · rw [Bool.eq_iff_iff, fits_three e3, fits_three e3, h1]
    refine and_congr_right fun hk => ?_
    obtain ⟨vk, vn, vs, vl⟩ := v
    have hi : i ∈ N := hl.1 e3
    show (if vk = 1 ∧ vn ∉ N then n0 else vn) = i ↔ vn = i
    split
    · rename_i h
      exact ⟨fun e => absurd (by rw [e]; exact hi) hn0, fun e => absurd (by rw [e]; exact hi) h.2⟩
    · exact Iff.rfl
  by_cases e4 : (Pat.mk k n i s a b c l).kind = 4
  · rw [Bool.eq_iff_iff, fits_four e4, fits_four e4, h1]
    refine and_congr_right fun hk => ?_
    obtain ⟨vk, vn, vs, vl⟩ := v
    have hi : s ∈ T := hl.2.1 e4
    show (if vk = 2 ∧ notIn T vs = true then s0 else vs) = s ↔ vs = s
    split
    · rename_i h
      exact ⟨fun e => absurd (by rw [e]; exact hi) hs0, fun e => absurd (by rw [e]; exact hi) (notIn_iff.1 h.2)⟩
    · exact Iff.rfl
  by_cases e5 : (Pat.mk k n i s a b c l).kind = 5
  · rw [Bool.eq_iff_iff, fits_five e5, fits_five e5, h1, h2, List.length_map]
    have hnil : v.l.map (relit N T n0 s0) = [] ↔ v.l = [] := by simp
    rw [hnil]
    refine and_congr_right fun hk => ?_
    rw [h3 (by omega)]
    refine and_congr_right fun _ => and_congr_right fun _ => ?_
    rw [fitsL_iff, fitsL_iff]
    have hkid := litPL_iff.1 hl.2.2
    constructor
    · intro hf j x w e1 e2
      have := hf j x (relit N T n0 s0 w) e1 (by rw [List.getElem?_map, e2]; rfl)
      rwa [ih x (List.mem_of_getElem? e1) w (hkid x (List.mem_of_getElem? e1))] at this
    · intro hf j x w e1 e2
      rw [List.getElem?_map, Option.map_eq_some_iff] at e2
      obtain ⟨u, e3, rfl⟩ := e2
      rw [ih x (List.mem_of_getElem? e1) u (hkid x (List.mem_of_getElem? e1))]
      exact hf j x u e1 e3
  · obtain ⟨vk, vn, vs, vl⟩ := v
    have ho : ¬ (k = 1 ∨ k = 2) := fun e => ho (decide_eq_true e)
    simp only [Pat.kind] at e3 e4 e5
    simp only [relit, fitsB]
    rw [if_neg ho, if_neg ho, if_neg e3, if_neg e3, if_neg e4, if_neg e4, if_pos (.inl e5), if_pos (.inl e5)]
end

/-! All values. -/
def Miss (g : Sg) (l : List Pat) : Prop := ∃ v, (∀ q ∈ l, goesP g q v) ∧ NoFit l v
def Come (g : Sg) (l : List Pat) (i : Nat) : Prop := ∃ v, (∀ q ∈ l, goesP g q v) ∧ FirstFit l v i
def startF (l : List Pat) : FoundT := ⟨zeroPat, List.replicate l.length false⟩
where zeroPat : Pat := .mk 0 0 0 ⟨#[]⟩ 0 0 0 []
theorem nums_mem {l : List Pat} {q : Pat} (hq : q ∈ l) : (∀ x ∈ numsP q, x ∈ numsL l) ∧ ∀ s ∈ textsP q, s ∈ textsL l := by
  induction l with
  | nil => cases hq
  | cons a l ih =>
    rcases List.mem_cons.1 hq with rfl | hq
    · exact ⟨fun x hx => by simp [numsL, hx], fun x hx => by simp [textsL, hx]⟩
    · exact ⟨fun x hx => by simp [numsL, (ih hq).1 x hx], fun x hx => by simp [textsL, (ih hq).2 x hx]⟩
theorem all_sem {g : Sg} (hsv : Serves g) {l : List Pat} (ha : All2 g l) {n : Nat} (hn : acL l < n) :
    ((lookF (roomOf g l) n anyP (startF l)).missing.kind ≠ 0 ↔ Miss g l) ∧ (lookF (roomOf g l) n anyP (startF l)).come.length = l.length ∧ ∀ i : Nat, (lookF (roomOf g l) n anyP (startF l)).come[i]? = some true ↔ Come g l i := by
  have hr : RoomOk g (roomOf g l) := ⟨rfl, hsv⟩
  have hq : ∀ q ∈ l, litP (inI (roomOf g l)) (inT (roomOf g l)) q := fun q hq => litP_of (fun x hx => List.mem_cons_of_mem _ ((nums_mem hq).1 x hx)) fun s hs => List.mem_cons_of_mem _ ((nums_mem hq).2 s hs)
  have hq' : ∀ q ∈ l, litP (fun i => i ∈ numsL l) (fun s => s ∈ textsL l) q := fun q hq => litP_of (nums_mem hq).1 (nums_mem hq).2
  have hsum : (l.map (unrP anyP)).sum = acL l := by
    clear hq hq' hr ha hn
    induction l with
    | nil => rfl
    | cons a l ih =>
      rw [List.map_cons, List.sum_cons, ih]
      have e : unrP anyP a = acP a := by rw [unrP_def, if_pos (show openB anyP = true from rfl)]
      rw [e]; rfl
  have h := look_sem hr n anyP (startF l) (all2_cons ha (wf_any g) fun q _ => twoP_any q) ⟨fun e => by omega, fun e => by omega, trivial⟩ hq (by show (l.map (unrP anyP)).sum < n; omega) (by simp [startF, roomOf])
  have key : ∀ K : Val → Prop, (∀ v, K (relit (numsL l) (textsL l) (freeN (numsL l)) (freeS (textsL l)) v) ↔ K v) → ((∃ v, Vals g (roomOf g l) anyP v ∧ K v) ↔ ∃ v, (∀ q ∈ l, goesP g q v) ∧ K v) := fun K hK => by
    constructor
    · rintro ⟨v, hv, hk⟩; exact ⟨v, hv.all, hk⟩
    · rintro ⟨v, hv, hk⟩
      exact ⟨relit (numsL l) (textsL l) (freeN (numsL l)) (freeS (textsL l)) v, ⟨fits_open rfl, goes_open rfl, fun q hq => relit_goes q v (hv q hq), relit_lit v⟩, (hK v).2 hk⟩
  have hfit : ∀ q ∈ l, ∀ v, fitsB q (relit (numsL l) (textsL l) (freeN (numsL l)) (freeS (textsL l)) v) = fitsB q v := fun q hq v => relit_fits (freeN_out _) (freeS_out _) q v (hq' q hq)
  refine ⟨?_, by rw [h.len]; simp [startF], fun i => ?_⟩
  · rw [h.miss, show (roomOf g l).l = l from rfl, key (NoFit l) fun v => ⟨fun hk q hq => by rw [← hfit q hq]; exact hk q hq, fun hk q hq => by rw [hfit q hq]; exact hk q hq⟩]
    exact ⟨fun x => x.elim (fun y => absurd rfl y) id, .inr⟩
  · rw [h.come, show (roomOf g l).l = l from rfl, key (fun v => FirstFit l v i) fun v => ?_]
    · refine ⟨fun x => x.elim (fun y => ?_) id, .inr⟩
      simp only [startF, List.getElem?_replicate] at y
      split at y
      · injection y with y; cases y
      · cases y
    · constructor
      · rintro ⟨p, hp, hf, hb⟩
        exact ⟨p, hp, by rw [← hfit p (List.mem_of_getElem? hp)]; exact hf, fun j q hj hq => by rw [← hfit q (List.mem_of_getElem? hq)]; exact hb j q hj hq⟩
      · rintro ⟨p, hp, hf, hb⟩
        exact ⟨p, hp, by rw [hfit p (List.mem_of_getElem? hp)]; exact hf, fun j q hj hq => by rw [hfit q (List.mem_of_getElem? hq)]; exact hb j q hj hq⟩

/-! useful, of patterns each alone. -/
def onesL' (l : List Pat) : List (List Pat) := l.map fun p => [p]
theorem mok_ones {g : Sg} {l : List Pat} {p : Pat} (ha : All2 g (p :: l)) : MOk g (onesL' l) [p] := by
  have key : ∀ r ∈ [p] :: onesL' l, ∃ q ∈ p :: l, r = [q] := fun r hr => by
    rcases List.mem_cons.1 hr with rfl | hr
    · exact ⟨p, List.mem_cons_self .., rfl⟩
    · obtain ⟨q, hq, e⟩ := List.mem_map.1 hr
      exact ⟨q, List.mem_cons_of_mem _ hq, e.symm⟩
  refine ⟨fun r hr => ?_, fun r hr x hx => ?_, fun r hr r' hr' => ?_⟩
  · obtain ⟨q, _, rfl⟩ := key r hr; rfl
  · obtain ⟨q, hq, rfl⟩ := key r hr; rw [List.mem_singleton.1 hx]; exact ha.wf q hq
  · obtain ⟨q, hq, rfl⟩ := key r hr
    obtain ⟨q', hq', rfl⟩ := key r' hr'
    exact ⟨ha.two q hq q' hq', trivial⟩
theorem wit_ones {g : Sg} {l : List Pat} {p : Pat} : (∃ ws, Wit g (onesL' l) [p] ws) ↔ ∃ v, fitsB p v = true ∧ goesP g p v ∧ ∀ q ∈ l, goesP g q v ∧ fitsB q v = false := by
  constructor
  · rintro ⟨ws, k⟩
    have hl := k.len
    match ws, hl with
    | [v], _ =>
      have h1 := k.fits
      simp only [fitsL, Bool.and_true] at h1
      refine ⟨v, h1, (k.goes _ (List.mem_cons_self ..)).1, fun q hq => ?_⟩
      have hm : [q] ∈ onesL' l := List.mem_map.2 ⟨q, hq, rfl⟩
      have h2 := k.none _ hm
      simp only [fitsL, Bool.and_true] at h2
      exact ⟨(k.goes _ (List.mem_cons_of_mem _ hm)).1, h2⟩
  · rintro ⟨v, h1, h2, h3⟩
    refine ⟨[v], rfl, by simp [fitsL, h1], fun r hr => ?_, fun r hr => ?_⟩
    · rcases List.mem_cons.1 hr with rfl | hr
      · exact ⟨h2, trivial⟩
      · obtain ⟨q, hq, rfl⟩ := List.mem_map.1 hr
        exact ⟨(h3 q hq).1, trivial⟩
    · obtain ⟨q, hq, rfl⟩ := List.mem_map.1 hr
      simp [fitsL, (h3 q hq).2]
theorem sumAc_ones' : ∀ l : List Pat, sumAc (onesL' l) = acL l
  | [] => rfl
  | p :: l => by
    have := sumAc_ones' l
    show sumAc ([p] :: onesL' l) = _
    rw [sumAc_cons, this]; simp [acL]
theorem acL_get' {l : List Pat} {k : Nat} {p : Pat} (h : l[k]? = some p) : acL (l.take k) + acP p ≤ acL l := by
  have h1 := acL_append (l.take k) (l.drop k)
  rw [List.take_append_drop, drop_get h] at h1
  simp only [acL] at h1
  omega

section
variable {g : Sg} {l : List Pat}
theorem miss_useful (hsv : Serves g) (ha : All2 g l) {A : Nat} (hA : ∀ c ∈ g.cons, c.fields.length ≤ A) {f : Nat} (hf : acL l * (A + 1) + 1 < f) : (usefulF g f (onesL' l) (anysL 1)).isSome = true ↔ Miss g l := by
  have hall : All2 g (anyP :: l) := all2_cons ha (wf_any g) fun q _ => twoP_any q
  have h := useful_sem hsv hA f (onesL' l) [anyP] (mok_ones hall) (by
    unfold mu
    rw [sumAc_ones']
    have : acL [anyP] = 0 := rfl
    rw [this]
    simpa using hf)
  rw [show anysL 1 = [anyP] from rfl, h, wit_ones]
  constructor
  · rintro ⟨v, _, _, h3⟩; exact ⟨v, fun q hq => (h3 q hq).1, fun q hq => (h3 q hq).2⟩
  · rintro ⟨v, h1, h2⟩; exact ⟨v, fits_open rfl, goes_open rfl, fun q hq => ⟨h1 q hq, h2 q hq⟩⟩
theorem come_useful (hsv : Serves g) (ha : All2 g l) {A : Nat} (hA : ∀ c ∈ g.cons, c.fields.length ≤ A) {f : Nat} (hf : acL l * (A + 1) + 1 < f) {k : Nat} {p : Pat} (hp : l[k]? = some p) : (usefulF g f (onesL' (l.take k)) [p]).isSome = true ↔ Come g l k := by
  have hpm := List.mem_of_getElem? hp
  have hall : All2 g (p :: l.take k) := ha.sub fun q hq => by
    rcases List.mem_cons.1 hq with rfl | hq
    · exact hpm
    · exact List.mem_of_mem_take hq
  have h := useful_sem hsv hA f (onesL' (l.take k)) [p] (mok_ones hall) (by
    unfold mu
    rw [sumAc_ones']
    have h1 := acL_get' hp
    have h2 : (acL (l.take k) + acL [p]) * (A + 1) ≤ acL l * (A + 1) := Nat.mul_le_mul_right _ (by simp only [acL]; omega)
    simp only [List.length_cons, List.length_nil]
    omega)
  rw [h, wit_ones]
  have htake : ∀ (j : Nat) (q : Pat), j < k → l[j]? = some q → q ∈ l.take k := fun j q hj hq => by
    have : (l.take k)[j]? = some q := by rw [List.getElem?_take_of_lt hj]; exact hq
    exact List.mem_of_getElem? this
  constructor
  · rintro ⟨v, h1, h2, h3⟩
    obtain ⟨v', k1, k2⟩ := retype _ l (p :: l.take k) (Nat.le_refl _) ha (fun q hq => by
      rcases List.mem_cons.1 hq with rfl | hq
      · exact hpm
      · exact List.mem_of_mem_take hq) v fun q hq => by
        rcases List.mem_cons.1 hq with rfl | hq
        · exact h2
        · exact (h3 q hq).1
    exact ⟨v', k1, p, hp, by rw [k2 p (List.mem_cons_self ..)]; exact h1, fun j q hj hq => by rw [k2 q (List.mem_cons_of_mem _ (htake j q hj hq))]; exact (h3 q (htake j q hj hq)).2⟩
  · rintro ⟨v, h1, p', hp', h2, h3⟩
    rw [hp] at hp'
    injection hp' with hp'
    subst hp'
    refine ⟨v, h2, h1 p hpm, fun q hq => ⟨h1 q (List.mem_of_mem_take hq), ?_⟩⟩
    obtain ⟨j, hj⟩ := List.getElem?_of_mem hq
    have hjk : j < k := by have := (List.getElem?_eq_some_iff.1 hj).1; rw [List.length_take] at this; omega
    rw [List.getElem?_take_of_lt hjk] at hj
    exact h3 j q hjk hj
end
end Go.Proofs.Ytjflembhgjcgkaa
