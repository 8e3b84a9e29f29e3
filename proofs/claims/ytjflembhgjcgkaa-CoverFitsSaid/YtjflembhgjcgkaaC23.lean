/- C23: useful, whole. -/
import Derived.Test.YtjflembhgjcgkaaC22
set_option linter.unusedSimpArgs false
set_option linter.unusedVariables false
namespace Go.Proofs.Ytjflembhgjcgkaa
open Go.RowKit

theorem head_small {h : Head} {p : Pat} {m : Nat} (e : asksH p = some h) : h.kind = 3 ∨ h.kind = 4 ∨ h.kind = 5 := by
  obtain ⟨k, n, i, s, a, b, c, l⟩ := p
  rcases asks_cases k n i s a b c l with ⟨q, e'⟩ | ⟨q, e'⟩ | ⟨q, e'⟩ | ⟨_, _, _, e'⟩ <;> rw [e'] at e
  · injection e with e; subst e; exact .inl rfl
  · injection e with e; subst e; exact .inr (.inl rfl)
  · injection e with e; subst e; exact .inr (.inr rfl)
  · cases e
theorem headsL_val {g : Sg} {m A B : Nat} {rows : List (List Pat)} {v : List Pat} (u : UOk g m A B rows v) : ∀ h ∈ headsL rows, (h.kind = 3 ∨ h.kind = 4 ∨ (h.kind = 5 ∧ 0 ≤ h.n ∧ h.n < g.cons.length)) ∧ ∃ p, asksH p = some h := fun h hh => by
  obtain ⟨p, rest, h1, h2⟩ := headsL_mem hh
  exact ⟨(head_of h2 (u.wf _ h1 p (List.mem_cons_self ..)).alone).2.2, p, h2⟩

theorem useful_c {g : Sg} (hs : g.Small) (hsv : Serves g) {m A : Nat} (hm : m ≤ 1000000) (hA : ∀ c ∈ g.cons, c.fields.length ≤ A) : ∀ (f : Nat) (rows : List (List Pat)) (v : List Pat) (B : Nat), UOk g m A B rows v → B + f * A ≤ m → mu A rows v < f → RunsP Try.prog 63 [.agg (sigD g), rowsD rows, patsD v] (fun x => x = resW (usefulF g f rows v))
  | 0, rows, v, B, u, hB, hf => absurd hf (Nat.not_lt_zero _)
  | f + 1, rows, [], B, u, hB, hf => useful_nil (by omega) (u.rowsB (by omega))
  | f + 1, rows, v0 :: vs, B, u, hB, hf => by
    have hB' : B + A + f * A ≤ m := by rw [Nat.succ_mul] at hB; omega
    have hr := u.rowsB (by omega : B ≤ m)
    have hne : ∀ r ∈ rows, r ≠ [] := fun r hr e => by have := u.wid r hr; rw [e] at this; simp at this
    have hvl : vs.length ≤ 1000000 := by have := u.vlen; simp at this; omega
    have hAm : A ≤ m := by omega
    cases ha : asksH v0 with
    | some h =>
      have hl : v0.l.length = arityH g h := wf_len ha (u.vwf v0 (List.mem_cons_self ..))
      have hk : v0.l.length ≤ A := by rw [hl]; exact arity_le hA h
      have hmu : mu A (belowL rows h v0.l.length) (v0.l ++ vs) < mu A rows (v0 :: vs) := mu_con ha hk
      have u' := u.below (h := h) (kids := v0.l) hk (fun p hp hw => by rw [hl]; exact wf_len hp hw) (small_kids (u.vsmall v0 (List.mem_cons_self ..))).each (u.vwf v0 (List.mem_cons_self ..)).kids
      have ih := useful_c hs hsv hm hA f _ _ _ u' hB' (by omega)
      refine useful_asks hvl ha (o := withF (usefulF g f) rows vs h v0 v0.l) ?_ (by simp only [usefulF]; rw [ha])
      obtain ⟨k, n, i, s, a, b, c, l⟩ := v0
      exact with_c g m (by omega) rows _ vs l k n i s a b c l h ha hr hne (by simp only [Pat.l] at hk; omega) (by omega) (usefulF g f (belowL rows h l.length) (l ++ vs)) (fun w hw => by rw [usefulF_len g f _ _ _ hw, List.length_append]) ih
    | none =>
      have ho := none_open ha (u.vwf v0 (List.mem_cons_self ..)).alone
      have hval := headsL_val u
      have hfr := fresh_c g hs hsv (headsL rows) (Nat.le_trans (headsL_len rows) (by have := u.len; omega)) fun h hh => (hval h hh).1
      have hall : ∀ h ∈ headsL rows, (h.kind = 3 ∨ h.kind = 4 ∨ (h.kind = 5 ∧ 0 ≤ h.n ∧ h.n < g.cons.length)) ∧ RunsP Try.prog 90 [.agg (patD (patH h)), patsD (anysL (arityH g h)), .fptr (sigD g), .fptr [rowsD rows], .fptr [patsD (v0 :: vs)]] (fun x => x = resW (trialR g f rows vs h)) := fun h hh => by
        refine ⟨(hval h hh).1, ?_⟩
        obtain ⟨p, hp⟩ := (hval h hh).2
        have hk : (anysL (arityH g h)).length ≤ A := by simp [anysL]; exact arity_le hA h
        have hmu : mu A (belowL rows h (anysL (arityH g h)).length) (anysL (arityH g h) ++ vs) < mu A rows (v0 :: vs) := mu_head hh (arity_le hA h)
        have u' := u.below (h := h) (kids := anysL (arityH g h)) hk (fun p hp hw => by rw [show (anysL (arityH g h)).length = arityH g h by simp [anysL]]; exact wf_len hp hw) (small_anys m _) (wf_anys g _)
        have ih := useful_c hs hsv hm hA f _ _ _ u' hB' (by omega)
        exact with_c g m (by omega) rows v0 vs (anysL (arityH g h)) h.kind h.n h.i h.s 0 0 0 [] h (asks_patH (g := g) hp) hr hne (by omega) (by omega) (usefulF g f (belowL rows h (anysL (arityH g h)).length) (anysL (arityH g h) ++ vs)) (fun w hw => by rw [usefulF_len g f _ _ _ hw, List.length_append]) ih
      have hmo : mu A (othersL rows) vs < mu A rows (v0 :: vs) := mu_others
      have iho := useful_c hs hsv hm hA f (othersL rows) vs B u.others (by omega) (by omega)
      have hun : usefulF g (f + 1) rows (v0 :: vs) = match freshP g (headsL rows), usefulF g f (othersL rows) vs with
        | some p, some w => some (p :: w)
        | _, _ => (headsL rows).findSome? (trialR g f rows vs) := by simp only [usefulF]; rw [ha]; rfl
      rw [hun]
      cases hp : freshP g (headsL rows) with
      | none => exact useful_loop2 hs (by omega) hr hne hvl ho hfr hp hall
      | some p =>
        cases hw : usefulF g f (othersL rows) vs with
        | none =>
          rw [hw] at iho
          exact useful_loop1 hs (by omega) hr hne hvl ho hfr hp iho hall
        | some w =>
          rw [hw] at iho
          exact useful_found hs (by omega) hr hne hvl ho hfr hp (by rw [usefulF_len g f _ _ _ hw]; omega) iho
end Go.Proofs.Ytjflembhgjcgkaa
