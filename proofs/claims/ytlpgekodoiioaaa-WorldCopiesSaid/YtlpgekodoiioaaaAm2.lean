/- Walking a region in one order, whatever order it draws: an operation that only reads keeps what it yields as long as the old blocks stand ('Agree'); the others stand alone when they come up. -/
import Derived.Test.YtlpgekodoiioaaaAm1
import Derived.OrdersHeld
import Derived.StillTail
import Derived.RegionTactic
set_option linter.unusedSimpArgs false
set_option linter.unusedVariables false
namespace Go.Proofs.Ytlpgekodoiioaaa
open Go.RowKit

/-- Each old block is as it was. -/
def Agree (w w' : World) : Prop := ∀ b, b < w.heap.size → w'.heap[b]? = w.heap[b]?
theorem Agree.refl (w : World) : Agree w w := fun _ _ => rfl
theorem Agree.lt {w w' : World} (h : Agree w w') {b : Nat} (hb : b < w.heap.size) : b < w'.heap.size := by
  have := h b hb
  rw [Array.getElem?_eq_getElem hb] at this
  exact (Array.getElem?_eq_some_iff.1 this).1
theorem Agree.trans {w w' w'' : World} (h : Agree w w') (k : Agree w' w'') : Agree w w'' := fun b hb => (k b (h.lt hb)).trans (h b hb)
theorem Agree.get {w w' : World} (h : Agree w w') {b : Nat} {o : Obj} (e : w.heap[b]? = some o) : w'.heap[b]? = some o := by
  rw [h b (Array.getElem?_eq_some_iff.1 e).1]; exact e

section
variable {P : Program} {ops : Array Oper} {Q : Exit → Act → World → Prop} {md : Region.Mode} {Ld ends dos : List Nat} {dr : Bool}

/-- One operation: it reads, or it does something; K is what follows. -/
def stepW (P : Program) (ops : Array Oper) (Q : Exit → Act → World → Prop) (dr : Bool) (dos ends : List Nat) (i : Nat) (K : Act → World → Prop) (a : Act) (w : World) : Prop :=
  ((dr && dos.contains i) = false ∧ ∃ o v, ops[i]? = some o ∧ YieldsIf P ops (Agree w) o v a ∧ K (a.put o.dst v) w) ∨
  ((dr && !dos.contains i) = false ∧ wpOp P ops Q i (fun a' w' => ((dr && !ends.contains i) = true → Agree w w') ∧ K a' w') a w)

theorem stepW_mono {i : Nat} {K K' : Act → World → Prop} (h : ∀ a w, K a w → K' a w) {a : Act} {w : World} (s : stepW P ops Q dr dos ends i K a w) : stepW P ops Q dr dos ends i K' a w :=
  s.imp (fun ⟨d, o, v, e1, e2, e3⟩ => ⟨d, o, v, e1, e2, h _ _ e3⟩) fun ⟨d, e⟩ => ⟨d, wpOp_mono (fun a' w' q => ⟨q.1, h _ _ q.2⟩) e⟩

/-- An order, with forks where two operations that do something may come in either order. -/
inductive Trr where
  | nil
  | one (i : Nat) (r : Trr)
  | fork (i : Nat) (r : Trr) (j : Nat) (s : Trr)
  | fork3 (i : Nat) (r : Trr) (j : Nat) (s : Trr) (k : Nat) (t : Trr)

def trOf : List Nat → Trr
  | [] => .nil
  | i :: l => .one i (trOf l)

def Trr.len : Trr → Nat
  | .nil => 0
  | .one _ r => r.len + 1
  | .fork _ r _ _ => r.len + 1
  | .fork3 _ r _ _ _ _ => r.len + 1

def walkW (P : Program) (ops : Array Oper) (Q : Exit → Act → World → Prop) (dr : Bool) (dos ends : List Nat) : Trr → Act → World → Prop
  | .nil, a, w => Q .normal a w
  | .one i r, a, w => stepW P ops Q dr dos ends i (walkW P ops Q dr dos ends r) a w
  | .fork i r j s, a, w => stepW P ops Q dr dos ends i (walkW P ops Q dr dos ends r) a w ∧ stepW P ops Q dr dos ends j (walkW P ops Q dr dos ends s) a w
  | .fork3 i r j s k t, a, w => stepW P ops Q dr dos ends i (walkW P ops Q dr dos ends r) a w ∧ stepW P ops Q dr dos ends j (walkW P ops Q dr dos ends s) a w ∧ stepW P ops Q dr dos ends k (walkW P ops Q dr dos ends t) a w

theorem walkW_ops : ∀ (l : List Nat) (a : Act) (w : World), walkW P ops Q false dos ends (trOf l) a w → wpOps P ops Q l a w
  | [], a, w, h => by simpa [wpOps, walkW, trOf] using h
  | i :: r, a, w, h => by
    unfold trOf walkW stepW at h
    rw [wpOps_cons]
    rcases h with ⟨_, o, v, ho, hy, h⟩ | ⟨_, h⟩
    · exact hy.wpOp ho (Agree.refl w) (walkW_ops r _ _ h)
    · exact wpOp_mono (fun a' w' h' => walkW_ops r _ _ h'.2) h

/-- k waits for i, by however many steps. -/
def reachT (md : Region.Mode) (ops : Array Oper) : Nat → Nat → Nat → Bool
  | 0, _, _ => false
  | n + 1, i, k => Region.waitsFor md ops k i || (List.range ops.size).any fun j => Region.waitsFor md ops j i && reachT md ops n j k

/-- What has come up, all that it waits for has come up. -/
structure Dwn (md : Region.Mode) (ops : Array Oper) (listed : Array Bool) : Prop where
  size : listed.size = ops.size
  closed : ∀ j oj, ops[j]? = some oj → listed.getD j false = true → ∀ e ∈ oj.after, Region.binds md e = true → listed.getD e.on false = true

theorem Dwn.set {i : Nat} {listed : Array Bool} (inv : Dwn md ops listed) (hi : i ∈ Region.ready md ops listed) : Dwn md ops (listed.setIfInBounds i true) := by
  obtain ⟨_, oi, hoi, hall⟩ := mem_ready.1 hi
  refine ⟨by simp [inv.size], fun j oj hj hl e he hb => ?_⟩
  by_cases hij : i = j
  · subst hij
    have : oj = oi := Option.some.inj (hj.symm.trans hoi)
    subst this
    exact getD_set_true (hall e he hb)
  · rw [getD_set_ne false hij] at hl
    exact getD_set_true (inv.closed j oj hj hl e he hb)

theorem not_reachT {listed : Array Bool} (inv : Dwn md ops listed) {k : Nat} (hk : k ∈ Region.ready md ops listed) : ∀ (n i : Nat), listed.getD i true = false → reachT md ops n i k = false
  | 0, _, _ => rfl
  | n + 1, i, hu => by
    unfold reachT
    rw [Bool.or_eq_false_iff]
    obtain ⟨_, ok, hok, hall⟩ := mem_ready.1 hk
    constructor
    · cases hw : Region.waitsFor md ops k i with
      | false => rfl
      | true =>
        obtain ⟨o', ho', e, he, hb, hon⟩ := Region.waitsFor_spec hw
        have : o' = ok := Option.some.inj (ho'.symm.trans hok)
        subst this
        have := hall e he hb
        rw [hon, getD_both hu] at this
        cases this
    · rw [List.any_eq_false]
      intro j hj hjb
      rw [Bool.and_eq_true] at hjb
      obtain ⟨oj, hoj, e, he, hb, hon⟩ := Region.waitsFor_spec hjb.1
      have hju : listed.getD j true = false := by
        have hjs : j < listed.size := by rw [inv.size]; exact (Array.getElem?_eq_some_iff.1 hoj).1
        cases hl : listed.getD j false with
        | true =>
          have := inv.closed j oj hoj hl e he hb
          rw [hon, getD_both hu] at this
          cases this
        | false => exact getD_in hjs hl
      rw [not_reachT inv hk n j hju] at hjb
      cases hjb.2

def wpAnyW (P : Program) (md : Region.Mode) (ops : Array Oper) (Q : Exit → Act → World → Prop) (ends : List Nat) : Nat → Array Bool → Act → World → Prop
  | 0, listed, a, w => Region.ready md ops listed = [] ∧ Q .normal a w
  | fuel + 1, listed, a, w =>
    (Region.ready md ops listed = [] → Q .normal a w) ∧
    ∀ i ∈ Region.ready md ops listed, wpOp P ops Q i (fun a' w' => (ends.contains i = false → Agree w w') ∧ wpAnyW P md ops Q ends fuel (listed.setIfInBounds i true) a' w') a w

theorem wpAny_of_W : ∀ (fuel : Nat) (listed : Array Bool) (a : Act) (w : World), wpAnyW P md ops Q ends fuel listed a w → wpAny P md ops Q fuel listed a w
  | 0, _, _, _, h => h
  | fuel + 1, _, _, _, h => ⟨h.1, fun i hi => wpOp_mono (fun a' w' h' => wpAny_of_W fuel _ a' w' h'.2) (h.2 i hi)⟩

theorem yieldsIf_mono {S S' : World → Prop} {o : Oper} {v : Value} {a : Act} (h : ∀ w, S' w → S w) (y : YieldsIf P ops S o v a) : YieldsIf P ops S' o v a :=
  y.imp (fun ⟨p, q⟩ => ⟨p, fun w hw => q w (h w hw)⟩) id

theorem wpAnyW_first {i n : Nat} {oi : Oper} {v : Value} (hi : ops[i]? = some oi) (hsel : ∀ (j : Nat) (o : Oper) cs b, ops[j]? = some o → o.op ≠ .select cs b)
    (hQ : ∀ c a w, Q (.panic c) (a.put oi.dst v) w → Q (.panic c) a w) :
    ∀ (fuel : Nat) (listed : Array Bool) (a : Act) (w : World), Dwn md ops listed → (∀ k ∈ ends, listed.getD k true = false → reachT md ops n i k = true) →
      (∀ j oj, ops[j]? = some oj → j ≠ i → listed.getD j true = false → (∀ e ∈ oj.after, Region.binds md e = true → e.on ≠ i) → oi.apart ops oj = true) →
      i ∈ Region.ready md ops listed → YieldsIf P ops (Agree w) oi v a →
      wpAnyW P md ops Q ends fuel (listed.setIfInBounds i true) (a.put oi.dst v) w → wpAnyW P md ops Q ends (fuel + 1) listed a w := by
  intro fuel
  induction fuel with
  | zero =>
    intro listed a w _ _ _ hr hy H
    refine ⟨fun h => (by rw [h] at hr; cases hr), fun j hj => ?_⟩
    by_cases hji : j = i
    · subst hji; exact hy.wpOp hi (Agree.refl w) ⟨fun _ => Agree.refl w, H⟩
    · have := ready_mono hj hji
      rw [H.1] at this
      cases this
  | succ fuel ih =>
    intro listed a w inv hre hfree hr hy H
    refine ⟨fun h => (by rw [h] at hr; cases hr), fun j hj => ?_⟩
    by_cases hji : j = i
    · subst hji; exact hy.wpOp hi (Agree.refl w) ⟨fun _ => Agree.refl w, H⟩
    · have h1 := H.2 j (ready_mono hj hji)
      obtain ⟨hjun, oj, hoj, hall⟩ := mem_ready.1 hj
      have hun := (mem_ready.1 hr).1
      have hnot : ∀ e ∈ oj.after, Region.binds md e = true → e.on ≠ i := fun e he hb heq => by
        have h1 := hall e he hb
        rw [heq, getD_both hun] at h1
        cases h1
      have h2 := wpOp_putIf hoj (hfree j oj hoj hji hjun hnot) (fun cs b => hsel i oi cs b hi) (fun cs b => hsel j oj cs b hoj) hQ hy h1
      have hfree' : ∀ k ok, ops[k]? = some ok → k ≠ i → (listed.setIfInBounds j true).getD k true = false →
          (∀ e ∈ ok.after, Region.binds md e = true → e.on ≠ i) → oi.apart ops ok = true := fun k ok hk hki hun hno => by
        refine hfree k ok hk hki ?_ hno
        by_cases hjk : j = k
        · subst hjk; exact hjun
        · rw [getD_set_ne true hjk] at hun; exact hun
      have hre' : ∀ k ∈ ends, (listed.setIfInBounds j true).getD k true = false → reachT md ops n i k = true := fun k hk hun => by
        refine hre k hk ?_
        by_cases hjk : j = k
        · subst hjk; exact hjun
        · rw [getD_set_ne true hjk] at hun; exact hun
      have hend : ends.contains j = false := by
        cases he : ends.contains j with
        | false => rfl
        | true =>
          have := hre j (by simpa using he) hjun
          rw [not_reachT inv hj n i hun] at this
          cases this
      refine wpOp_mono (fun a' w' h3 => ⟨h3.2.1, ih (listed.setIfInBounds j true) a' w' (inv.set hj) hre' hfree' (ready_mono hr (Ne.symm hji)) (yieldsIf_mono (fun u hu => (h3.2.1 hend).trans hu) h3.1) ?_⟩) h2
      rw [Array.setIfInBounds_comm _ _ hji]
      exact h3.2.2

/-- The order of the walk is one that may be walked. -/
def walkT (md : Region.Mode) (ops : Array Oper) (dos ends : List Nat) : Trr → Nat → Array Bool → Bool
  | .nil, n, listed => Nat.beq n 0 && (Region.ready md ops listed).isEmpty
  | .one _ _, 0, _ => false
  | .one i r, n + 1, listed => (if dos.contains i then decide (Region.ready md ops listed = [i]) else (Region.ready md ops listed).contains i && Region.free md ops listed i && ends.all fun k => listed.getD k true || reachT md ops 8 i k) && walkT md ops dos ends r n (listed.setIfInBounds i true)
  | .fork _ _ _ _, 0, _ => false
  | .fork i r j s, n + 1, listed => decide (Region.ready md ops listed = [i, j]) && dos.contains i && dos.contains j && walkT md ops dos ends r n (listed.setIfInBounds i true) && walkT md ops dos ends s n (listed.setIfInBounds j true)
  | .fork3 _ _ _ _ _ _, 0, _ => false
  | .fork3 i r j s k t, n + 1, listed => decide (Region.ready md ops listed = [i, j, k]) && dos.contains i && dos.contains j && dos.contains k && walkT md ops dos ends r n (listed.setIfInBounds i true) && walkT md ops dos ends s n (listed.setIfInBounds j true) && walkT md ops dos ends t n (listed.setIfInBounds k true)

theorem stepW_do {i : Nat} {K : Act → World → Prop} {a : Act} {w : World} (hd : dos.contains i = true) (h : stepW P ops Q true dos ends i K a w) : wpOp P ops Q i (fun a' w' => (ends.contains i = false → Agree w w') ∧ K a' w') a w := by
  unfold stepW at h
  rw [hd] at h
  simp only [Bool.true_and, Bool.true_eq_false, false_and, Bool.not_true, Bool.not_eq_true', false_or, true_and] at h
  exact h

theorem wpAnyW_of_walk (hsel : Region.noSelect ops = true)
    (hQ : ∀ c d v a w, Q (.panic c) (a.put d v) w → Q (.panic c) a w) :
    ∀ (l : Trr) (n : Nat) (listed : Array Bool) (a : Act) (w : World), Dwn md ops listed → walkT md ops dos ends l n listed = true → walkW P ops Q true dos ends l a w → wpAnyW P md ops Q ends n listed a w
  | .nil, n, listed, a, w, _, hB, h => by
    unfold walkT at hB
    rw [Bool.and_eq_true] at hB
    have := Nat.eq_of_beq_eq_true hB.1
    subst this
    exact ⟨by simpa using hB.2, h⟩
  | .one i r, 0, _, _, _, _, hB, _ => by simp [walkT] at hB
  | .one i r, n + 1, listed, a, w, inv, hB, h => by
    unfold walkT at hB
    unfold walkW at h
    rw [Bool.and_eq_true] at hB
    cases hd : dos.contains i with
    | true =>
      have h := stepW_do hd h
      rw [hd] at hB
      simp only [if_true, decide_eq_true_eq] at hB
      have hin : i ∈ Region.ready md ops listed := by rw [hB.1]; exact List.mem_singleton.2 rfl
      refine ⟨fun h0 => (by rw [h0] at hB; cases hB.1), fun j hj => ?_⟩
      rw [hB.1] at hj
      have hji : j = i := by simpa using hj
      subst hji
      exact wpOp_mono (fun a' w' h' => ⟨h'.1, wpAnyW_of_walk hsel hQ r n _ a' w' (inv.set hin) hB.2 h'.2⟩) h
    | false =>
      unfold stepW at h
      rw [hd] at hB h
      simp only [Bool.false_eq_true, if_false, Bool.and_eq_true, Bool.and_false, Bool.not_false, Bool.and_true, Bool.true_eq_false, false_and, or_false, true_and] at hB h
      obtain ⟨oi, v, hoi, hy, h⟩ := h
      have hin : i ∈ Region.ready md ops listed := by simpa using hB.1.1.1
      exact wpAnyW_first (n := 8) hoi (Region.noSelect_spec hsel) (fun c a w => hQ c _ _ a w) n listed a w inv (fun k hk hun => by
        have := List.all_eq_true.1 hB.1.2 k hk
        rw [hun, Bool.false_or] at this
        exact this) (Region.free_spec hoi hB.1.1.2) hin hy
        (wpAnyW_of_walk hsel hQ r n _ _ w (inv.set hin) hB.2 h)
  | .fork _ _ _ _, 0, _, _, _, _, hB, _ => by simp [walkT] at hB
  | .fork i r j s, n + 1, listed, a, w, inv, hB, h => by
    unfold walkT at hB
    unfold walkW at h
    simp only [Bool.and_eq_true, decide_eq_true_eq] at hB
    obtain ⟨⟨⟨⟨hr, hd1⟩, hd2⟩, hB1⟩, hB2⟩ := hB
    have hi : i ∈ Region.ready md ops listed := by rw [hr]; simp
    have hj : j ∈ Region.ready md ops listed := by rw [hr]; simp
    refine ⟨fun h0 => (by rw [h0] at hr; cases hr), fun k hk => ?_⟩
    rw [hr] at hk
    simp only [List.mem_cons, List.not_mem_nil, or_false] at hk
    rcases hk with rfl | rfl
    · exact wpOp_mono (fun a' w' h' => ⟨h'.1, wpAnyW_of_walk hsel hQ r n _ a' w' (inv.set hi) hB1 h'.2⟩) (stepW_do hd1 h.1)
    · exact wpOp_mono (fun a' w' h' => ⟨h'.1, wpAnyW_of_walk hsel hQ s n _ a' w' (inv.set hj) hB2 h'.2⟩) (stepW_do hd2 h.2)
  | .fork3 _ _ _ _ _ _, 0, _, _, _, _, hB, _ => by simp [walkT] at hB
  | .fork3 i r j s k t, n + 1, listed, a, w, inv, hB, h => by
    unfold walkT at hB
    unfold walkW at h
    simp only [Bool.and_eq_true, decide_eq_true_eq] at hB
    obtain ⟨⟨⟨⟨⟨⟨hr, hd1⟩, hd2⟩, hd3⟩, hB1⟩, hB2⟩, hB3⟩ := hB
    have hi : i ∈ Region.ready md ops listed := by rw [hr]; simp
    have hj : j ∈ Region.ready md ops listed := by rw [hr]; simp
    have hk : k ∈ Region.ready md ops listed := by rw [hr]; simp
    refine ⟨fun h0 => (by rw [h0] at hr; cases hr), fun m hm => ?_⟩
    rw [hr] at hm
    simp only [List.mem_cons, List.not_mem_nil, or_false] at hm
    rcases hm with rfl | rfl | rfl
    · exact wpOp_mono (fun a' w' h' => ⟨h'.1, wpAnyW_of_walk hsel hQ r n _ a' w' (inv.set hi) hB1 h'.2⟩) (stepW_do hd1 h.1)
    · exact wpOp_mono (fun a' w' h' => ⟨h'.1, wpAnyW_of_walk hsel hQ s n _ a' w' (inv.set hj) hB2 h'.2⟩) (stepW_do hd2 h.2.1)
    · exact wpOp_mono (fun a' w' h' => ⟨h'.1, wpAnyW_of_walk hsel hQ t n _ a' w' (inv.set hk) hB3 h'.2⟩) (stepW_do hd3 h.2.2)

/-- All that the kernel is asked of a region and an order. -/
def orderT (ops : Array Oper) (dos ends : List Nat) (l : Trr) : Bool :=
  Region.noSelect ops && walkT .any ops dos ends l ops.size (Array.replicate ops.size false)

theorem wp_region_walk {id : Nat} {a : Act} {w : World} {l : Trr} (dos ends : List Nat) (hm : P.follows .mixedOrders = true) (hB : orderT ops dos ends l = true)
    (hQ : ∀ c d v a w, Q (.panic c) (a.put d v) w → Q (.panic c) a w)
    (h : walkW P ops Q true dos ends l a w.drew) : (Code.region id ops true).wp P Q a w := by
  unfold orderT at hB
  simp only [Bool.and_eq_true] at hB
  obtain ⟨hsel, hw⟩ := hB
  refine wp_region_any hm ?_
  have inv0 : Dwn .any ops (Array.replicate ops.size false) := ⟨by simp, fun j oj _ hl => (by rw [getD_replicate_false] at hl; cases hl)⟩
  exact wpAny_of_W _ _ _ _ (wpAnyW_of_walk hsel hQ l _ _ a w.drew inv0 hw h)

/-- A loop, by a number that falls. -/
theorem wp_loop_n {c : Code} {a : Act} {w : World} (J : Nat → Act → World → Prop) {n : Nat} (h0 : J n a w)
    (round : ∀ n a w, J n a w → c.wp P (Exit.then (fun a' w' => ∃ m, m < n ∧ J m a' w') Q) a w) : (Code.loop c).wp P Q a w := by
  classical
  have key : ∀ n a w, J n a w → ∃ m, m ≤ n ∧ J m a w ∧ ∀ k, k < m → ¬ J k a w := by
    intro n
    induction n using Nat.strongRecOn with
    | _ n ih =>
      intro a w h
      by_cases hk : ∃ k, k < n ∧ J k a w
      · obtain ⟨k, hk, hj⟩ := hk
        obtain ⟨m, hm, h1, h2⟩ := ih k hk a w hj
        exact ⟨m, by omega, h1, h2⟩
      · exact ⟨n, Nat.le_refl _, h, fun k hk' hj => hk ⟨k, hk', hj⟩⟩
  have key2 : ∀ a w, (∃ n, J n a w) → ∃ m, J m a w ∧ ∀ k, k < m → ¬ J k a w := fun a w ⟨n, h⟩ => let ⟨m, _, h1, h2⟩ := key n a w h; ⟨m, h1, h2⟩
  let μ : Act → World → Nat := fun a w => if h : ∃ n, J n a w then Classical.choose (key2 a w h) else 0
  have hμ : ∀ a w, (∃ n, J n a w) → J (μ a w) a w ∧ ∀ k, k < μ a w → ¬ J k a w := fun a w h => by
    have : μ a w = Classical.choose (key2 a w h) := dif_pos h
    rw [this]; exact Classical.choose_spec (key2 a w h)
  refine wp_loop (fun a w => ∃ n, J n a w) μ ⟨n, h0⟩ fun a w h => ?_
  refine wp_mono (round (μ a w) a w (hμ a w h).1) fun e a' w' h' => ?_
  cases e with
  | normal =>
    obtain ⟨m, hm, hj⟩ := h'
    refine ⟨⟨m, hj⟩, ?_⟩
    have h2 := hμ a' w' ⟨m, hj⟩
    rcases Nat.lt_or_ge m (μ a' w') with h3 | h3
    · exact absurd hj (h2.2 m h3)
    · exact Nat.lt_of_le_of_lt h3 hm
  | _ => exact h'
end

end Go.Proofs.Ytlpgekodoiioaaa
