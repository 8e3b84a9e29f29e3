/- A region that draws its order, walked once in one given order: operations that yield what they yield in every world that meets F are taken in whatever order; the others ('dos') must stand alone when they come up. An operation of 'ends' may put an end to F: it waits for every load ('Ld'). -/
import Derived.Test.YtlpgekodoiioaaaSlApp
import Derived.OrdersHeld
import Derived.StillTail
import Derived.RegionTactic
namespace Go.Proofs.Ytlpgekodoiioaaa
open Go.RowKit

section
variable {P : Program} {ops : Array Oper} {Q : Exit → Act → World → Prop} {md : Region.Mode} {F : World → Prop} {Ld ends dos : List Nat}

def need (F : World → Prop) (Ld : List Nat) (i : Nat) (w : World) : Prop := Ld.contains i = true → F w

/-- k waits for i, by however many steps. -/
def reachB (md : Region.Mode) (ops : Array Oper) : Nat → Nat → Nat → Bool
  | 0, _, _ => false
  | n + 1, i, k => Region.waitsFor md ops k i || (List.range ops.size).any fun j => Region.waitsFor md ops j i && reachB md ops n j k

/-- What has come up, all that it waits for has come up. -/
structure Down (md : Region.Mode) (ops : Array Oper) (listed : Array Bool) : Prop where
  size : listed.size = ops.size
  closed : ∀ j oj, ops[j]? = some oj → listed.getD j false = true → ∀ e ∈ oj.after, Region.binds md e = true → listed.getD e.on false = true

theorem Down.set {i : Nat} {listed : Array Bool} (inv : Down md ops listed) (hi : i ∈ Region.ready md ops listed) : Down md ops (listed.setIfInBounds i true) := by
  obtain ⟨_, oi, hoi, hall⟩ := mem_ready.1 hi
  refine ⟨by simp [inv.size], fun j oj hj hl e he hb => ?_⟩
  by_cases hij : i = j
  · subst hij
    have : oj = oi := Option.some.inj (hj.symm.trans hoi)
    subst this
    exact getD_set_true (hall e he hb)
  · rw [getD_set_ne false hij] at hl
    exact getD_set_true (inv.closed j oj hj hl e he hb)

theorem not_reach {listed : Array Bool} (inv : Down md ops listed) {k : Nat} (hk : k ∈ Region.ready md ops listed) : ∀ (n i : Nat), listed.getD i true = false → reachB md ops n i k = false
  | 0, _, _ => rfl
  | n + 1, i, hu => by
    unfold reachB
    rw [Bool.or_eq_false_iff]
    obtain ⟨_, ok, hok, hall⟩ := mem_ready.1 hk
    constructor
    · cases hw : Region.waitsFor md ops k i with
      | false => rfl
      | true =>
        obtain ⟨o', ho', e, he, hb, hon⟩ := Region.waitsFor_spec hw
        have : o' = ok := Option.some.inj (ho'.symm.trans hok)
        subst this
        have := hall e he hb
        rw [hon, getD_both hu] at this
        cases this
    · rw [List.any_eq_false]
      intro j hj hjb
      rw [Bool.and_eq_true] at hjb
      obtain ⟨oj, hoj, e, he, hb, hon⟩ := Region.waitsFor_spec hjb.1
      have hju : listed.getD j true = false := by
        have hjs : j < listed.size := by rw [inv.size]; exact (Array.getElem?_eq_some_iff.1 hoj).1
        cases hl : listed.getD j false with
        | true =>
          have := inv.closed j oj hoj hl e he hb
          rw [hon, getD_both hu] at this
          cases this
        | false => exact getD_in hjs hl
      rw [not_reach inv hk n j hju] at hjb
      cases hjb.2

def wpAnyG (P : Program) (md : Region.Mode) (ops : Array Oper) (Q : Exit → Act → World → Prop) (F : World → Prop) (ends : List Nat) : Nat → Array Bool → Act → World → Prop
  | 0, listed, a, w => Region.ready md ops listed = [] ∧ Q .normal a w
  | fuel + 1, listed, a, w =>
    (Region.ready md ops listed = [] → Q .normal a w) ∧
    ∀ i ∈ Region.ready md ops listed, wpOp P ops Q i (fun a' w' => (ends.contains i = false → F w → F w') ∧ wpAnyG P md ops Q F ends fuel (listed.setIfInBounds i true) a' w') a w

theorem wpAny_of_G : ∀ (fuel : Nat) (listed : Array Bool) (a : Act) (w : World), wpAnyG P md ops Q F ends fuel listed a w → wpAny P md ops Q fuel listed a w
  | 0, _, _, _, h => h
  | fuel + 1, _, _, _, h => ⟨h.1, fun i hi => wpOp_mono (fun a' w' h' => wpAny_of_G fuel _ a' w' h'.2) (h.2 i hi)⟩

theorem wpAnyG_first {i n : Nat} {oi : Oper} {v : Value} (hi : ops[i]? = some oi) (hsel : ∀ (j : Nat) (o : Oper) cs b, ops[j]? = some o → o.op ≠ .select cs b)
    (hQ : ∀ c a w, Q (.panic c) (a.put oi.dst v) w → Q (.panic c) a w) (hre : ∀ k ∈ ends, Ld.contains i = true → reachB md ops n i k = true) :
    ∀ (fuel : Nat) (listed : Array Bool) (a : Act) (w : World), Down md ops listed →
      (∀ j oj, ops[j]? = some oj → j ≠ i → listed.getD j true = false → (∀ e ∈ oj.after, Region.binds md e = true → e.on ≠ i) → oi.apart ops oj = true) →
      i ∈ Region.ready md ops listed → YieldsIf P ops (need F Ld i) oi v a → need F Ld i w →
      wpAnyG P md ops Q F ends fuel (listed.setIfInBounds i true) (a.put oi.dst v) w → wpAnyG P md ops Q F ends (fuel + 1) listed a w := by
  intro fuel
  induction fuel with
  | zero =>
    intro listed a w _ _ hr hy hS H
    refine ⟨fun h => (by rw [h] at hr; cases hr), fun j hj => ?_⟩
    by_cases hji : j = i
    · subst hji; exact hy.wpOp hi hS ⟨fun _ h => h, H⟩
    · have := ready_mono hj hji
      rw [H.1] at this
      cases this
  | succ fuel ih =>
    intro listed a w inv hfree hr hy hS H
    refine ⟨fun h => (by rw [h] at hr; cases hr), fun j hj => ?_⟩
    by_cases hji : j = i
    · subst hji; exact hy.wpOp hi hS ⟨fun _ h => h, H⟩
    · have h1 := H.2 j (ready_mono hj hji)
      obtain ⟨hjun, oj, hoj, hall⟩ := mem_ready.1 hj
      have hun := (mem_ready.1 hr).1
      have hnot : ∀ e ∈ oj.after, Region.binds md e = true → e.on ≠ i := fun e he hb heq => by
        have h1 := hall e he hb
        rw [heq, getD_both hun] at h1
        cases h1
      have h2 := wpOp_putIf hoj (hfree j oj hoj hji hjun hnot) (fun cs b => hsel i oi cs b hi) (fun cs b => hsel j oj cs b hoj) hQ hy h1
      have hfree' : ∀ k ok, ops[k]? = some ok → k ≠ i → (listed.setIfInBounds j true).getD k true = false →
          (∀ e ∈ ok.after, Region.binds md e = true → e.on ≠ i) → oi.apart ops ok = true := fun k ok hk hki hun hno => by
        refine hfree k ok hk hki ?_ hno
        by_cases hjk : j = k
        · subst hjk; exact hjun
        · rw [getD_set_ne true hjk] at hun; exact hun
      refine wpOp_mono (fun a' w' h3 => ⟨h3.2.1, ih (listed.setIfInBounds j true) a' w' (inv.set hj) hfree' (ready_mono hr (Ne.symm hji)) h3.1 (fun hl => ?_) ?_⟩) h2
      · cases he : ends.contains j with
        | false => exact h3.2.1 he (hS hl)
        | true =>
          have := hre j (by simpa using he) hl
          rw [not_reach inv hj n i hun] at this
          cases this
      · rw [Array.setIfInBounds_comm _ _ hji]
        exact h3.2.2

/-- The order of the walk is one that may be walked. -/
def walkB (md : Region.Mode) (ops : Array Oper) (dos : List Nat) : List Nat → Array Bool → Bool
  | [], listed => (Region.ready md ops listed).isEmpty
  | i :: r, listed => (if dos.contains i then decide (Region.ready md ops listed = [i]) else (Region.ready md ops listed).contains i && Region.free md ops listed i) && walkB md ops dos r (listed.setIfInBounds i true)

/-- The walk. -/
def wpWalk (P : Program) (ops : Array Oper) (Q : Exit → Act → World → Prop) (F : World → Prop) (Ld dos ends : List Nat) : List Nat → Act → World → Prop
  | [], a, w => Q .normal a w
  | i :: r, a, w => if dos.contains i = true then wpOp P ops Q i (fun a' w' => (ends.contains i = false → F w → F w') ∧ wpWalk P ops Q F Ld dos ends r a' w') a w
    else ∃ oi v, ops[i]? = some oi ∧ YieldsIf P ops (need F Ld i) oi v a ∧ need F Ld i w ∧ wpWalk P ops Q F Ld dos ends r (a.put oi.dst v) w

theorem wpAnyG_of_walk {n : Nat} (hsel : Region.noSelect ops = true) (hre : ∀ k ∈ ends, ∀ i, Ld.contains i = true → reachB md ops n i k = true)
    (hQ : ∀ c d v a w, Q (.panic c) (a.put d v) w → Q (.panic c) a w) :
    ∀ (l : List Nat) (listed : Array Bool) (a : Act) (w : World), Down md ops listed → walkB md ops dos l listed = true → wpWalk P ops Q F Ld dos ends l a w → wpAnyG P md ops Q F ends l.length listed a w
  | [], listed, a, w, _, hB, h => ⟨by simpa [walkB] using hB, h⟩
  | i :: r, listed, a, w, inv, hB, h => by
    unfold walkB at hB
    unfold wpWalk at h
    rw [Bool.and_eq_true] at hB
    cases hd : dos.contains i with
    | true =>
      rw [hd] at hB h
      simp only [if_true, decide_eq_true_eq] at hB h
      have hin : i ∈ Region.ready md ops listed := by rw [hB.1]; exact List.mem_singleton.2 rfl
      refine ⟨fun h0 => (by rw [h0] at hB; cases hB.1), fun j hj => ?_⟩
      rw [hB.1] at hj
      have hji : j = i := by simpa using hj
      subst hji
      exact wpOp_mono (fun a' w' h' => ⟨h'.1, wpAnyG_of_walk hsel hre hQ r _ a' w' (inv.set hin) hB.2 h'.2⟩) h
    | false =>
      rw [hd] at hB h
      simp only [Bool.false_eq_true, if_false, Bool.and_eq_true] at hB h
      obtain ⟨oi, v, hoi, hy, hn, h⟩ := h
      have hin : i ∈ Region.ready md ops listed := by simpa using hB.1.1
      exact wpAnyG_first hoi (Region.noSelect_spec hsel) (fun c a w => hQ c _ _ a w) (fun k hk hl => hre k hk i hl) r.length listed a w inv (Region.free_spec hoi hB.1.2) hin hy hn
        (wpAnyG_of_walk hsel hre hQ r _ _ w (inv.set hin) hB.2 h)

/-- All that the kernel is asked of a region and an order. -/
def orderB (ops : Array Oper) (Ld dos ends l : List Nat) : Bool :=
  Region.noSelect ops && decide (l.length = ops.size) && (ends.all fun k => Ld.all fun i => reachB .any ops 8 i k) && walkB .any ops dos l (Array.replicate ops.size false)

theorem wp_region_order {id : Nat} {a : Act} {w : World} {l : List Nat} (F : World → Prop) (Ld dos ends : List Nat) (hm : P.follows .mixedOrders = true) (hB : orderB ops Ld dos ends l = true)
    (hQ : ∀ c d v a w, Q (.panic c) (a.put d v) w → Q (.panic c) a w)
    (h : wpWalk P ops Q F Ld dos ends l a w.drew) : (Code.region id ops true).wp P Q a w := by
  unfold orderB at hB
  simp only [Bool.and_eq_true, decide_eq_true_eq] at hB
  obtain ⟨⟨⟨hsel, hlen⟩, hre⟩, hw⟩ := hB
  refine wp_region_any hm ?_
  have hre' : ∀ k ∈ ends, ∀ i, Ld.contains i = true → reachB .any ops 8 i k = true := fun k hk i hi => by
    have h1 := List.all_eq_true.1 hre k hk
    exact List.all_eq_true.1 h1 i (by simpa using hi)
  have inv0 : Down .any ops (Array.replicate ops.size false) := ⟨by simp, fun j oj _ hl => (by rw [getD_replicate_false] at hl; cases hl)⟩
  have := wpAny_of_G _ _ _ _ (wpAnyG_of_walk hsel hre' hQ l _ a w.drew inv0 hw h)
  rw [hlen] at this
  exact this

/-! The steps. -/
variable {i : Nat} {r : List Nat} {a : Act} {w : World} {o : Oper} {v : Value}

theorem walk_nil (h : Q .normal a w) : wpWalk P ops Q F Ld dos ends [] a w := h

/-- A load. -/
theorem walk_load (hd : dos.contains i = false) (ho : ops[i]? = some o) (hw : Region.wanted o (yielded ops a.tmps) = true) (hF : F w)
    (hl : Ld.contains i = true) (hy : ∀ w, F w → (execOp a.eval o).run P w = .ok (.value v) w) (h : wpWalk P ops Q F Ld dos ends r (a.put o.dst v) w) : wpWalk P ops Q F Ld dos ends (i :: r) a w := by
  unfold wpWalk
  rw [if_neg (by rw [hd]; exact Bool.false_ne_true)]
  exact ⟨o, v, ho, .inl ⟨hw, fun w' hn => hy w' (hn hl)⟩, fun _ => hF, h⟩

/-- What leans on no memory. -/
theorem walk_pure (hd : dos.contains i = false) (ho : ops[i]? = some o) (hw : Region.wanted o (yielded ops a.tmps) = true)
    (hl : Ld.contains i = false) (hy : ∀ w, (execOp a.eval o).run P w = .ok (.value v) w) (h : wpWalk P ops Q F Ld dos ends r (a.put o.dst v) w) : wpWalk P ops Q F Ld dos ends (i :: r) a w := by
  unfold wpWalk
  rw [if_neg (by rw [hd]; exact Bool.false_ne_true)]
  exact ⟨o, v, ho, .inl ⟨hw, fun w' _ => hy w'⟩, (fun hl' => by rw [hl] at hl'; cases hl'), h⟩

/-- What its guard passes over. -/
theorem walk_skip (hd : dos.contains i = false) (ho : ops[i]? = some o) (hw : Region.wanted o (yielded ops a.tmps) = false) (hF : Ld.contains i = true → F w)
    (h : wpWalk P ops Q F Ld dos ends r (a.put o.dst undef) w) : wpWalk P ops Q F Ld dos ends (i :: r) a w := by
  unfold wpWalk
  rw [if_neg (by rw [hd]; exact Bool.false_ne_true)]
  exact ⟨o, undef, ho, .inr ⟨hw, rfl⟩, hF, h⟩

/-- What writes or makes memory, or calls. -/
theorem walk_do (hd : dos.contains i = true) (ho : ops[i]? = some o) (hw : Region.wanted o (yielded ops a.tmps) = true)
    (h : ∀ K : Act → World → Prop, (∀ a' w', (ends.contains i = false → F w') → wpWalk P ops Q F Ld dos ends r a' w' → K a' w') → o.wp P a w K Q) : wpWalk P ops Q F Ld dos ends (i :: r) a w := by
  unfold wpWalk
  rw [if_pos hd]
  unfold wpOp
  simp only [ho, hw, if_true]
  exact .inl (h _ fun a' w' hF h' => ⟨fun he _ => hF he, h'⟩)

/-- What its guard passes over, though it is one of 'dos'. -/
theorem walk_do_skip (hd : dos.contains i = true) (ho : ops[i]? = some o) (hw : Region.wanted o (yielded ops a.tmps) = false)
    (h : wpWalk P ops Q F Ld dos ends r (a.put o.dst undef) w) : wpWalk P ops Q F Ld dos ends (i :: r) a w := by
  unfold wpWalk
  rw [if_pos hd]
  unfold wpOp
  simp only [ho, hw, Bool.false_eq_true, if_false]
  exact ⟨fun _ hF => hF, h⟩

/-- The world under a new name. -/
theorem abs_wp {W0 : World} {L : List HProp} {c : Code} (h : St W0 w L) (k : ∀ w', St W0 w' L → Code.wp P c Q a w') : Code.wp P c Q a w := k _ h

theorem abs_walk {W0 : World} {L : List HProp} {l : List Nat} (h : St W0 w L) (k : ∀ w', St W0 w' L → wpWalk P ops Q F Ld dos ends l a w') : wpWalk P ops Q F Ld dos ends l a w := k _ h

/-- A region that draws, the world behind the draw under a new name. -/
theorem wp_region_st {W0 : World} {L : List HProp} {id : Nat} (h : St W0 w L) (l : List Nat) (F : World → Prop) (Ld dos ends : List Nat) (hm : P.follows .mixedOrders = true) (hB : orderB ops Ld dos ends l = true)
    (hQ : ∀ c d v a w, Q (.panic c) (a.put d v) w → Q (.panic c) a w)
    (k : ∀ w', St W0 w' L → wpWalk P ops Q F Ld dos ends l a w') : (Code.region id ops true).wp P Q a w :=
  wp_region_order F Ld dos ends hm hB hQ (k _ h.drew)

theorem rd_cells {W0 : World} {L : List HProp} {b n cap sz : Nat} {cs : Array Value} {T : TypeId} (h : St W0 w (cellsB b cs T :: L)) (hc : n ≤ cap) (hs : cs.size = n * sz) : rd w sz (.slice (some ⟨b, 0, none⟩) n cap) n cs.toList :=
  ⟨by simpa using hs, .inr ⟨b, 0, cap, rfl, hc, fun _ => h.lt, fun j u hj => by rw [h.cell]; simpa using hj⟩⟩

/-- append as a step. -/
theorem wp_append_st {W0 : World} {T : TypeId} {size n : Nat} {xs : List Value} {L : List HProp} (h : St W0 w (ownS T size v n xs :: L))
    {xv : Value} {m : Nat} {news : List Value} (hx : rd w size xv m news) (h1 : ∀ u ∈ news, u.oneCell' = true)
    {i : TypeInfo} {z : Value} {bytes : Nat} (hi : P.info? T = some i) (hz : i.zero = some z)
    (hsize : i.size = size) (hby : i.bytes = bytes) (hzs : z.cells.size = size)
    (h63 : n + m ≤ maxLen) (hbytes : (n + m) * bytes ≤ 140737488355328)
    {t : TypeId} (ht : P.underlying t = some (.slice T)) {K : Act → World → Prop} (sl x : Operand)
    (ho : o.op = .call { callee := .builtin .append, args := #[sl, x], argTypes := #[t, t] })
    (hs : a.eval sl = v) (hxe : a.eval x = xv)
    (k : ∀ v' w', St W0 w' (ownS T size v' (n + m) (xs ++ news) :: L) → (v' = .slice none 0 0 ↔ v = .slice none 0 0 ∧ m = 0) → K (a.put o.dst v') w') : o.wp P a w K Q := by
  obtain ⟨v', w', hr, h2, h3⟩ := h.append (P := P) (ty := o.type) ht hi hz hsize hby hzs hx h1 h63 hbytes
  unfold Oper.wp execOp
  simp only [ho, resolve, invoke, builtin, Sem.run_bind, Sem.run_pure, Result.andThen_ok, List.map_toArray, List.map_cons, List.map_nil, hs, hxe, hr]
  exact k v' w' h2 h3
end
end Go.Proofs.Ytlpgekodoiioaaa
