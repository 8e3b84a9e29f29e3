/- C28: Check, as a function. -/
import Derived.Test.YtjflembhgjcgkaaXC23C25
import Derived.Test.YtjflembhgjcgkaaC27
set_option linter.unusedSimpArgs false
set_option linter.unusedVariables false
namespace Go.Proofs.Ytjflembhgjcgkaa
open Go.RowKit

def useK (g : Sg) (f : Nat) (l : List Pat) (k : Nat) : Option (List Pat) := match l[k]? with | some p => usefulF g f (onesL (l.take k)) [p] | none => none
def checkD (g : Sg) (f : Nat) (l : List Pat) : DV :=
  if mayZ g l = 0 then match usefulF g f (onesL l) (anysL 1) with
    | some w => match w with | p :: _ => resC p 0 150 | [] => resC zeroP 0 0
    | none => doneC (fun i => (useK g f l i).isSome) l.length
  else resC zeroP 0 2
theorem sumAc_ones : ∀ l : List Pat, sumAc (onesL l) = acL l
  | [] => rfl
  | p :: l => by
    have := sumAc_ones l
    show sumAc ([p] :: onesL l) = _
    rw [sumAc_cons, this]; simp [acL]
theorem acL_get {l : List Pat} {k : Nat} {p : Pat} (h : l[k]? = some p) : acL (l.take k) + acP p ≤ acL l := by
  have h1 := acL_append (l.take k) (l.drop k)
  rw [List.take_append_drop, drop_get h] at h1
  simp only [acL] at h1
  omega
theorem uok_ones {g : Sg} {m A : Nat} {l : List Pat} (h : SmallP m l) (hw : ∀ p ∈ l, Wf g p) {p : Pat} (hp : p.small m) (hpw : Wf g p) : UOk g m A 1 (onesL l) [p] := by
  have key : ∀ r ∈ onesL l, ∃ q ∈ l, r = [q] := fun r hr => by
    obtain ⟨q, hq, e⟩ := List.mem_map.1 hr
    exact ⟨q, hq, e.symm⟩
  refine ⟨by simp [onesL]; exact h.len, fun r hr => ?_, by simp, fun r hr q hq => ?_, fun q hq => ?_, fun r hr q hq => ?_, fun q hq => ?_⟩
  · obtain ⟨q, _, rfl⟩ := key r hr; rfl
  · obtain ⟨q', hq', rfl⟩ := key r hr; rw [List.mem_singleton.1 hq]; exact h.each _ hq'
  · rw [List.mem_singleton.1 hq]; exact hp
  · obtain ⟨q', hq', rfl⟩ := key r hr; rw [List.mem_singleton.1 hq]; exact hw _ hq'
  · rw [List.mem_singleton.1 hq]; exact hpw

theorem check_c {g : Sg} (hs : g.Small) {m A : Nat} (hm : m ≤ 1000000) (hAm : A ≤ m) (hA : ∀ c ∈ g.cons, c.fields.length ≤ A) {l : List Pat} (hl : SmallP m l) (f : Nat) (hf : acL l * (A + 1) + 1 ≤ m) (hmu : acL l * (A + 1) + 1 < f) :
    RunsP Try.prog 22 [.agg (sigD g), patsD l] (fun v => v = checkD g f l) := by
  have hmay := may24_c hs (by omega : m ≤ 1000000000) hl
  have hll := hl.len
  unfold checkD
  unfold mayZ at hmay ⊢
  by_cases hok : servesB g = true ∧ togB g l = true
  · rw [if_pos hok] at hmay
    rw [if_pos hok, if_pos rfl]
    have hsv := (servesB_iff g).1 hok.1
    have hw := tog_wf (togB_iff.1 hok.2)
    have u0 : UOk g m A 1 (onesL l) (anysL 1) := uok_ones hl hw (small_any m) (wf_any g)
    have m0 : mu A (onesL l) (anysL 1) = acL l * (A + 1) + 1 := by
      unfold mu
      rw [sumAc_ones, acL_anys]
      simp [anysL]
    have h0 := useful_c hs hsv hm hAm hA f _ _ 1 u0 (by omega) (by omega)
    cases e : usefulF g f (onesL l) (anysL 1) with
    | some w =>
      rw [e] at h0
      have := usefulF_len g f _ _ _ e
      match w, this with
      | [p], _ => exact check_miss hmay (by omega) h0
    | none =>
      rw [e] at h0
      refine check_loop hmay (by omega) h0 (o := useK g f l) fun k p hk => ?_
      have hp := List.mem_of_getElem? hk
      have u1 : UOk g m A 1 (onesL (l.take k)) [p] := uok_ones (hl.sub (fun q hq => List.mem_of_mem_take hq) (by rw [List.length_take]; omega)) (fun q hq => hw q (List.mem_of_mem_take hq)) (hl.each p hp) (hw p hp)
      have m1 : mu A (onesL (l.take k)) [p] ≤ acL l * (A + 1) + 1 := by
        unfold mu
        rw [sumAc_ones]
        have h1 := acL_get hk
        have h2 : (acL (l.take k) + acL [p]) * (A + 1) ≤ acL l * (A + 1) := Nat.mul_le_mul_right _ (by simp only [acL]; omega)
        simp only [List.length_cons, List.length_nil]
        omega
      have h1 := useful_c hs hsv hm hAm hA f _ _ 1 u1 (by omega) (by omega)
      unfold useK
      rw [hk]
      exact h1
  · rw [if_neg hok] at hmay
    rw [if_neg hok, if_neg (by decide)]
    exact check_bad hmay
end Go.Proofs.Ytjflembhgjcgkaa
