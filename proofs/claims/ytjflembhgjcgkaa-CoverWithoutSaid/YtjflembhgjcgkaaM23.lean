/- M23: what split's walk needs: the first place, sizes. No program in sight. -/
import Derived.Test.YtjflembhgjcgkaaM18
set_option linter.unusedSimpArgs false
set_option linter.unusedVariables false
namespace Go.Proofs.Ytjflembhgjcgkaa
open Go.RowKit

theorem splitL_first {r : RoomT} : ∀ {l m : List Pat} {j : Nat} {x y : Pat}, l[j]? = some x → m[j]? = some y → withinB x y = false → (∀ i, i < j → ∀ a b, l[i]? = some a → m[i]? = some b → withinB a b = true) → splitL r l m = (splitP r x y).map fun z => l.set j z
  | [], m, j, x, y, h, _, _, _ => by simp at h
  | a :: l, [], j, x, y, _, h, _, _ => by simp at h
  | a :: l, b :: m, 0, x, y, h1, h2, h3, _ => by
    have h1 : a = x := by simpa using h1
    have h2 : b = y := by simpa using h2
    subst h1 h2
    simp only [splitL, h3]
    simp
  | a :: l, b :: m, j + 1, x, y, h1, h2, h3, h4 => by
    have h0 := h4 0 (by omega) a b rfl rfl
    simp only [splitL, h0]
    rw [if_pos trivial, splitL_first (j := j) (by simpa using h1) (by simpa using h2) h3 fun i hi a' b' e1 e2 => h4 (i + 1) (by omega) a' b' (by simpa using e1) (by simpa using e2)]
    simp [List.map_map, Function.comp_def]

/-- A shape that asks, not apart, not within: both ask for one constructor. -/
theorem split_same {g : Sg} {S p : Pat} (hSw : Wf g S) (hpw : Wf g p) (hS : openB S = false) (hap : apartB S p = false) (hwi : withinB S p = false) : openB p = false ∧ S.kind = 5 ∧ p.kind = 5 ∧ S.n = p.n ∧ S.l.length = p.l.length ∧ withinL S.l p.l = false := by
  have ho : openB p = false := by
    cases h : openB p with
    | false => rfl
    | true => rw [within_open h] at hwi; cases hwi
  obtain ⟨k, n, i, s, a, b, c, l⟩ := S
  have hS' : ¬ openB (.mk k n i s a b c l) = true := by rw [hS]; simp
  have hsame : ∃ h, asksH (.mk k n i s a b c l) = some h ∧ asksH p = some h := by
    cases h1 : asksH (.mk k n i s a b c l) with
    | none => exact absurd (none_open h1 hSw.alone) hS'
    | some h =>
      cases h2 : asksH p with
      | none => rw [none_open h2 hpw.alone] at ho; cases ho
      | some h' =>
        by_cases e : h = h'
        · exact ⟨h, rfl, by rw [e]⟩
        · rw [apart_heads h1 h2 e] at hap; cases hap
  obtain ⟨h, hh1, hh2⟩ := hsame
  have hlen : l.length = p.l.length := (wf_len hh1 hSw).trans (wf_len hh2 hpw).symm
  have hwl : withinL l p.l = false := by
    cases hw : withinL l p.l with
    | false => rfl
    | true =>
      exfalso
      rw [(within_def ho).2 ⟨hS, ?_, ?_, ?_, ?_, hlen, hw⟩] at hwi
      · cases hwi
      all_goals
        have a1 := hSw.alone
        have a2 := hpw.alone
        obtain ⟨k', n', i', s', a', b', c', l'⟩ := p
        rcases asks_iff.1 hh1 with ⟨x, rfl⟩ | ⟨x, rfl⟩ | ⟨x, rfl⟩ <;> rcases asks_iff.1 hh2 with ⟨y, e⟩ | ⟨y, e⟩ | ⟨y, e⟩ <;> simp only [Pat.kind, Pat.n, Pat.i, Pat.s] at x y e ⊢ <;> subst x y <;> simp [aloneB] at a1 a2 <;> simp_all
  have hne : l ≠ [] := fun e => by subst e; cases hpl : p.l <;> rw [hpl] at hwl <;> simp [withinL] at hwl
  have e5 : (Pat.mk k n i s a b c l).kind = 5 := by
    by_cases e : (Pat.mk k n i s a b c l).kind = 5
    · exact e
    · exact absurd (alone_leaf hSw.alone e) hne
  have h5 : p.kind = 5 ∧ n = p.n := by
    rcases asks_iff.1 hh1 with ⟨x, e⟩ | ⟨x, e⟩ | ⟨x, rfl⟩
    · omega
    · omega
    · rcases asks_iff.1 hh2 with ⟨y, e⟩ | ⟨y, e⟩ | ⟨y, e⟩
      · injection e with e; omega
      · injection e with e; omega
      · injection e with _ e; exact ⟨y, e⟩
  exact ⟨ho, e5, h5.1, h5.2, hlen, hwl⟩

/-- A room that is of the size that one has. -/
structure RoomSm (r : RoomT) : Prop where
  g : r.g.Small
  sv : Serves r.g
  nums : r.nums.length ≤ 1000000
  texts : r.texts.length ≤ 1000000
  size : ∀ s ∈ r.texts, s.size ≤ maxLen
theorem arity_small {g : Sg} (h : g.Small) (n : Int) : g.arity n ≤ 1000000000 := by
  unfold Sg.arity Sg.con
  split
  · rename_i c hc
    split at hc
    · exact h.fields _ (List.mem_of_getElem? hc)
    · cases hc
  · omega
theorem consOf_small {g : Sg} (h : g.Small) (d : Int) : (g.consOf d).length ≤ 1000000000 := by
  unfold Sg.consOf Sg.dat
  split
  · rename_i c hc
    split at hc
    · exact h.each _ (List.mem_of_getElem? hc)
    · cases hc
  · simp
theorem cases_len {r : RoomT} (hr : RoomSm r) (p : Pat) : (casesR r p).length ≤ 1000000000 := by
  have h1 := hr.nums
  have h2 := hr.texts
  have h3 := consOf_small hr.g (r.g.dataOf p.n)
  unfold casesR
  split
  · rw [List.length_map]; omega
  · split
    · rw [List.length_map]; omega
    · split
      · rw [List.length_map]; exact h3
      · simp
theorem smallL_anys (m : Nat) : ∀ k : Nat, Pat.smallL m (anysL k) := fun k => Pat.smallL_of fun p hp => by
  rw [show p = anyP from List.eq_of_mem_replicate (show p ∈ List.replicate k anyP from hp)]; exact small_any m
theorem cases_small {r : RoomT} (hr : RoomSm r) (p : Pat) : ∀ x ∈ casesR r p, x.small 1000000000 := by
  unfold casesR
  intro x hx
  split at hx
  · obtain ⟨i, _, rfl⟩ := List.mem_map.1 hx
    exact ⟨by simp, by simp [ByteArray.size, maxLen], trivial⟩
  · split at hx
    · obtain ⟨s, hs, rfl⟩ := List.mem_map.1 hx
      exact ⟨by simp, hr.size s hs, trivial⟩
    · split at hx
      · obtain ⟨c, _, rfl⟩ := List.mem_map.1 hx
        refine ⟨?_, by simp [ByteArray.size, maxLen], smallL_anys _ _⟩
        have := arity_small hr.g c
        simpa [anysL] using this
      · cases hx
theorem split_size {r : RoomT} (hr : RoomSm r) : ∀ (S p : Pat), (splitP r S p).length ≤ 1000000000 ∧ (S.small 1000000000 → ∀ x ∈ splitP r S p, x.small 1000000000) := by
  refine ind_pat fun k n i s a b c l ih p => ?_
  rw [splitP_def]
  by_cases hS : openB (.mk k n i s a b c l) = true
  · rw [if_pos hS]
    exact ⟨cases_len hr p, fun _ => cases_small hr p⟩
  · rw [if_neg hS]
    have e0 : (Pat.mk k n i s a b c l).l = l := rfl
    rw [List.length_map, e0]
    by_cases hw : withinL l p.l = false
    · obtain ⟨j, x, y, hx, hy, hxy, hsp⟩ := splitL_at (r := r) hw
      obtain ⟨h1, h2⟩ := ih x (List.mem_of_getElem? hx) y
      rw [hsp, List.length_map]
      refine ⟨h1, fun hs w hw => ?_⟩
      obtain ⟨m, hm, rfl⟩ := List.mem_map.1 hw
      obtain ⟨z, hz, rfl⟩ := List.mem_map.1 hm
      have hz := h2 (Pat.small_get hs hx) z hz
      refine ⟨by rw [List.length_set]; exact hs.1, hs.2.1, Pat.smallL_of fun q hq => ?_⟩
      rcases List.mem_or_eq_of_mem_set hq with hq | rfl
      · exact Pat.smallL_mem hs.2.2 q hq
      · exact hz
    · have hw : withinL l p.l = true := by simpa using hw
      have h0 : ∀ (l m : List Pat), withinL l m = true → splitL r l m = [] := fun l => by
        induction l with
        | nil => intro m _; cases m <;> rfl
        | cons a l ih =>
          intro m h
          cases m with
          | nil => rfl
          | cons b m =>
            simp only [withinL, Bool.and_eq_true] at h
            simp only [splitL]
            rw [if_pos h.1, ih m h.2]; rfl
      rw [h0 _ _ hw]
      exact ⟨by simp, fun _ w hw => by simp at hw⟩
end Go.Proofs.Ytjflembhgjcgkaa
