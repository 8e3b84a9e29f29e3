/- A region that draws its order, where two operations that do something (an allocation and a call) may come in either order: walked once for each way, as a tree. After Ord. -/
import Derived.Test.YtciciaikajdenaaOrd
namespace Go.Proofs.Ytciciaikajdenaa
open Go.RowKit

/-- A walk with forks: behind the operations of 'one' a fork into two, or a plain order. -/
inductive Tr where
  | list (l : List Nat)
  | one (i : Nat) (r : Tr)
  | fork (i j : Nat) (r s : Tr)

section
variable {P : Program} {ops : Array Oper} {Q : Exit → Act → World → Prop} {md : Region.Mode} {F : World → Prop} {Ld ends dos : List Nat}

def treeB (md : Region.Mode) (ops : Array Oper) (dos : List Nat) : Tr → Nat → Array Bool → Bool
  | .list l, n, listed => decide (l.length = n) && walkB md ops dos l listed
  | .one _ _, 0, _ => false
  | .one i r, n + 1, listed => (if dos.contains i then decide (Region.ready md ops listed = [i]) else (Region.ready md ops listed).contains i && Region.free md ops listed i) && treeB md ops dos r n (listed.setIfInBounds i true)
  | .fork _ _ _ _, 0, _ => false
  | .fork i j r s, n + 1, listed => decide (Region.ready md ops listed = [i, j]) && treeB md ops dos r n (listed.setIfInBounds i true) && treeB md ops dos s n (listed.setIfInBounds j true)

def wpTree (P : Program) (ops : Array Oper) (Q : Exit → Act → World → Prop) (F : World → Prop) (Ld dos ends : List Nat) : Tr → Act → World → Prop
  | .list l, a, w => wpWalk P ops Q F Ld dos ends l a w
  | .one i r, a, w => if dos.contains i = true then wpOp P ops Q i (fun a' w' => (ends.contains i = false → F w → F w') ∧ wpTree P ops Q F Ld dos ends r a' w') a w
    else ∃ oi v, ops[i]? = some oi ∧ YieldsIf P ops (need F Ld i) oi v a ∧ need F Ld i w ∧ wpTree P ops Q F Ld dos ends r (a.put oi.dst v) w
  | .fork i j r s, a, w => wpOp P ops Q i (fun a' w' => (ends.contains i = false → F w → F w') ∧ wpTree P ops Q F Ld dos ends r a' w') a w ∧
      wpOp P ops Q j (fun a' w' => (ends.contains j = false → F w → F w') ∧ wpTree P ops Q F Ld dos ends s a' w') a w

theorem wpAnyG_of_tree {n : Nat} (hsel : Region.noSelect ops = true) (hre : ∀ k ∈ ends, ∀ i, Ld.contains i = true → reachB md ops n i k = true)
    (hQ : ∀ c d v a w, Q (.panic c) (a.put d v) w → Q (.panic c) a w) :
    ∀ (t : Tr) (m : Nat) (listed : Array Bool) (a : Act) (w : World), Down md ops listed → treeB md ops dos t m listed = true → wpTree P ops Q F Ld dos ends t a w → wpAnyG P md ops Q F ends m listed a w
  | .list l, m, listed, a, w, inv, hB, h => by
    simp only [treeB, Bool.and_eq_true, decide_eq_true_eq] at hB
    rw [← hB.1]
    exact wpAnyG_of_walk hsel hre hQ l listed a w inv hB.2 h
  | .one _ _, 0, _, _, _, _, hB, _ => by simp [treeB] at hB
  | .one i r, m + 1, listed, a, w, inv, hB, h => by
    unfold treeB at hB
    unfold wpTree at h
    rw [Bool.and_eq_true] at hB
    cases hd : dos.contains i with
    | true =>
      rw [hd] at hB h
      simp only [if_true, decide_eq_true_eq] at hB h
      have hin : i ∈ Region.ready md ops listed := by rw [hB.1]; exact List.mem_singleton.2 rfl
      refine ⟨fun h0 => (by rw [h0] at hB; cases hB.1), fun j hj => ?_⟩
      rw [hB.1] at hj
      have hji : j = i := by simpa using hj
      subst hji
      exact wpOp_mono (fun a' w' h' => ⟨h'.1, wpAnyG_of_tree hsel hre hQ r m _ a' w' (inv.set hin) hB.2 h'.2⟩) h
    | false =>
      rw [hd] at hB h
      simp only [Bool.false_eq_true, if_false, Bool.and_eq_true] at hB h
      obtain ⟨oi, v, hoi, hy, hn, h⟩ := h
      have hin : i ∈ Region.ready md ops listed := by simpa using hB.1.1
      exact wpAnyG_first hoi (Region.noSelect_spec hsel) (fun c a w => hQ c _ _ a w) (fun k hk hl => hre k hk i hl) m listed a w inv (Region.free_spec hoi hB.1.2) hin hy hn
        (wpAnyG_of_tree hsel hre hQ r m _ _ w (inv.set hin) hB.2 h)
  | .fork _ _ _ _, 0, _, _, _, _, hB, _ => by simp [treeB] at hB
  | .fork i j r s, m + 1, listed, a, w, inv, hB, h => by
    unfold treeB at hB
    unfold wpTree at h
    simp only [Bool.and_eq_true, decide_eq_true_eq] at hB
    obtain ⟨⟨hr, hB1⟩, hB2⟩ := hB
    have hi : i ∈ Region.ready md ops listed := by rw [hr]; simp
    have hj : j ∈ Region.ready md ops listed := by rw [hr]; simp
    refine ⟨fun h0 => (by rw [h0] at hr; cases hr), fun k hk => ?_⟩
    rw [hr] at hk
    simp only [List.mem_cons, List.not_mem_nil, or_false] at hk
    rcases hk with rfl | rfl
    · exact wpOp_mono (fun a' w' h' => ⟨h'.1, wpAnyG_of_tree hsel hre hQ r m _ a' w' (inv.set hi) hB1 h'.2⟩) h.1
    · exact wpOp_mono (fun a' w' h' => ⟨h'.1, wpAnyG_of_tree hsel hre hQ s m _ a' w' (inv.set hj) hB2 h'.2⟩) h.2

def orderTB (ops : Array Oper) (Ld dos ends : List Nat) (t : Tr) : Bool :=
  Region.noSelect ops && (ends.all fun k => Ld.all fun i => reachB .any ops 8 i k) && treeB .any ops dos t ops.size (Array.replicate ops.size false)

/-- A region that draws, by a tree of orders; the world behind the draw under a new name. -/
theorem wp_region_tree {W0 w : World} {L : List HProp} {id : Nat} {a : Act} (h : St W0 w L) (t : Tr) (F : World → Prop) (Ld dos ends : List Nat) (hm : P.follows .mixedOrders = true) (hB : orderTB ops Ld dos ends t = true)
    (hQ : ∀ c d v a w, Q (.panic c) (a.put d v) w → Q (.panic c) a w)
    (k : ∀ w', St W0 w' L → wpTree P ops Q F Ld dos ends t a w') : (Code.region id ops true).wp P Q a w := by
  unfold orderTB at hB
  simp only [Bool.and_eq_true] at hB
  obtain ⟨⟨hsel, hre⟩, hw⟩ := hB
  refine wp_region_any hm ?_
  have hre' : ∀ k ∈ ends, ∀ i, Ld.contains i = true → reachB .any ops 8 i k = true := fun k hk i hi => by
    have h1 := List.all_eq_true.1 hre k hk
    exact List.all_eq_true.1 h1 i (by simpa using hi)
  have inv0 : Down .any ops (Array.replicate ops.size false) := ⟨by simp, fun j oj _ hl => (by rw [getD_replicate_false] at hl; cases hl)⟩
  exact wpAny_of_G _ _ _ _ (wpAnyG_of_tree hsel hre' hQ t _ _ a w.drew inv0 hw (k _ h.drew))

/-! The steps. -/
variable {i j : Nat} {r s : Tr} {a : Act} {w : World} {o : Oper} {v : Value}

theorem tree_load (hd : dos.contains i = false) (ho : ops[i]? = some o) (hw : Region.wanted o (yielded ops a.tmps) = true) (hF : F w)
    (hl : Ld.contains i = true) (hy : ∀ w, F w → (execOp a.eval o).run P w = .ok (.value v) w) (h : wpTree P ops Q F Ld dos ends r (a.put o.dst v) w) : wpTree P ops Q F Ld dos ends (.one i r) a w := by
  unfold wpTree
  rw [if_neg (by rw [hd]; exact Bool.false_ne_true)]
  exact ⟨o, v, ho, .inl ⟨hw, fun w' hn => hy w' (hn hl)⟩, fun _ => hF, h⟩

theorem tree_pure (hd : dos.contains i = false) (ho : ops[i]? = some o) (hw : Region.wanted o (yielded ops a.tmps) = true)
    (hl : Ld.contains i = false) (hy : ∀ w, (execOp a.eval o).run P w = .ok (.value v) w) (h : wpTree P ops Q F Ld dos ends r (a.put o.dst v) w) : wpTree P ops Q F Ld dos ends (.one i r) a w := by
  unfold wpTree
  rw [if_neg (by rw [hd]; exact Bool.false_ne_true)]
  exact ⟨o, v, ho, .inl ⟨hw, fun w' _ => hy w'⟩, (fun hl' => by rw [hl] at hl'; cases hl'), h⟩

/-- What stands at a fork, one of the two. -/
def forkOne (P : Program) (ops : Array Oper) (Q : Exit → Act → World → Prop) (F : World → Prop) (Ld dos ends : List Nat) (i : Nat) (r : Tr) (a : Act) (w : World) : Prop :=
  wpOp P ops Q i (fun a' w' => (ends.contains i = false → F w → F w') ∧ wpTree P ops Q F Ld dos ends r a' w') a w

theorem tree_fork (h1 : forkOne P ops Q F Ld dos ends i r a w) (h2 : forkOne P ops Q F Ld dos ends j s a w) : wpTree P ops Q F Ld dos ends (.fork i j r s) a w := ⟨h1, h2⟩

theorem fork_do (ho : ops[i]? = some o) (hw : Region.wanted o (yielded ops a.tmps) = true)
    (h : ∀ K : Act → World → Prop, (∀ a' w', (ends.contains i = false → F w') → wpTree P ops Q F Ld dos ends r a' w' → K a' w') → o.wp P a w K Q) : forkOne P ops Q F Ld dos ends i r a w := by
  unfold forkOne wpOp
  simp only [ho, hw, if_true]
  exact .inl (h _ fun a' w' hF h' => ⟨fun he _ => hF he, h'⟩)

theorem tree_list {l : List Nat} (h : wpWalk P ops Q F Ld dos ends l a w) : wpTree P ops Q F Ld dos ends (.list l) a w := h

theorem abs_tree {W0 : World} {L : List HProp} {t : Tr} (h : St W0 w L) (k : ∀ w', St W0 w' L → wpTree P ops Q F Ld dos ends t a w') : wpTree P ops Q F Ld dos ends t a w := k _ h
end

end Go.Proofs.Ytciciaikajdenaa
