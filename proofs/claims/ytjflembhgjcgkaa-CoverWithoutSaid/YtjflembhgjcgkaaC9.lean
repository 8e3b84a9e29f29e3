/- C9: Apart, of the program: what it says. -/
import Derived.Test.YtjflembhgjcgkaaC7
set_option linter.unusedSimpArgs false
set_option linter.unusedVariables false
namespace Go.Proofs.Ytjflembhgjcgkaa
open Go.RowKit

theorem asks_cases (k n i : Int) (s : ByteArray) (a b c : Int) (l : List Pat) :
    (k = 3 ∧ asksH (.mk k n i s a b c l) = some ⟨3, 0, i, ⟨#[]⟩⟩) ∨ (k = 4 ∧ asksH (.mk k n i s a b c l) = some ⟨4, 0, 0, s⟩) ∨ (k = 5 ∧ asksH (.mk k n i s a b c l) = some ⟨5, n, 0, ⟨#[]⟩⟩) ∨ (k ≠ 3 ∧ k ≠ 4 ∧ k ≠ 5 ∧ asksH (.mk k n i s a b c l) = none) := by
  simp only [asksH]
  by_cases h3 : k = 3
  · exact .inl ⟨h3, if_pos h3⟩
  by_cases h4 : k = 4
  · exact .inr (.inl ⟨h4, by rw [if_neg h3, if_pos h4]⟩)
  by_cases h5 : k = 5
  · exact .inr (.inr (.inl ⟨h5, by rw [if_neg h3, if_neg h4, if_pos h5]⟩))
  · exact .inr (.inr (.inr ⟨h3, h4, h5, by rw [if_neg h3, if_neg h4, if_neg h5]⟩))

theorem someL_false {l : List Pat} (h : someL l = false) : ∃ (j : Nat) (p : Pat), l[j]? = some p ∧ someB p = false := by
  induction l with
  | nil => cases h
  | cons a l ih =>
    simp only [someL, Bool.and_eq_false_iff] at h
    rcases h with h | h
    · exact ⟨0, a, rfl, h⟩
    · obtain ⟨j, p, h1, h2⟩ := ih h
      exact ⟨j + 1, p, h1, h2⟩
theorem apartB_some1 : ∀ {p q : Pat}, someB p = false → apartB p q = true
  | .mk .., .mk .., h => by simp only [apartB]; rw [if_pos (.inl h)]
theorem apartB_some2 : ∀ {p q : Pat}, someB q = false → apartB p q = true
  | .mk .., .mk .., h => by simp only [apartB]; rw [if_pos (.inr h)]
theorem apartL_at : ∀ {l l' : List Pat} {j : Nat} {p q : Pat}, l[j]? = some p → l'[j]? = some q → apartB p q = true → apartL l l' = true
  | [], _, _, _, _, h, _, _ => by simp at h
  | _ :: _, [], _, _, _, _, h, _ => by simp at h
  | a :: l, b :: l', 0, p, q, h1, h2, h => by simp at h1 h2; subst h1 h2; simp [apartL, h]
  | a :: l, b :: l', j + 1, p, q, h1, h2, h => by
    have := apartL_at (l := l) (l' := l') (j := j) (by simpa using h1) (by simpa using h2) h
    simp [apartL, this]

theorem apartB_con {n i a b c n' i' a' b' c' : Int} {s s' : ByteArray} {l l' : List Pat} (hn : n = n') (he : l.length = l'.length) : apartB (.mk 5 n i s a b c l) (.mk 5 n' i' s' a' b' c' l') = apartL l l' := by
  cases hs : someB (.mk 5 n i s a b c l) with
  | false =>
    rw [apartB_some1 hs]
    have h1 : someL l = false := by simpa [someB] using hs
    obtain ⟨j, p, hj, hp⟩ := someL_false h1
    obtain ⟨q, hq⟩ : ∃ q, l'[j]? = some q := getS (by have := (List.getElem?_eq_some_iff.1 hj).1; omega)
    exact (apartL_at hj hq (apartB_some1 hp)).symm
  | true =>
    cases hs2 : someB (.mk 5 n' i' s' a' b' c' l') with
    | false =>
      rw [apartB_some2 hs2]
      have h1 : someL l' = false := by simpa [someB] using hs2
      obtain ⟨j, q, hj, hq⟩ := someL_false h1
      obtain ⟨p, hp⟩ : ∃ p, l[j]? = some p := getS (by have := (List.getElem?_eq_some_iff.1 hj).1; omega)
      exact (apartL_at hp hj (apartB_some2 hq)).symm
    | true => simp only [apartB]; rw [hs, hs2]; simp [hn, he]

theorem apart_c (m : Nat) (hm : m ≤ 9223372036854775807) : ∀ p : Pat, p.small m → ∀ q : Pat, q.small m → RunsP Try.prog 34 [.agg (patD p), .agg (patD q)] (fun r => r = .v (.bool (apartB p q))) := by
  refine rec_pat fun k n i s a b c l ih hp q hq => ?_
  obtain ⟨k', n', i', s', a', b', c', l'⟩ := q
  have hl : l.length ≤ m := hp.1
  have hl' : l'.length ≤ m := hq.1
  have he1 := empty_c m hm _ hp
  have he2 := empty_c m hm _ hq
  by_cases op : k = 1 ∨ k = 2
  · -- the first asks nothing
    have oa : openB (.mk k n i s a b c l) = true := decide_eq_true op
    have hs1 : someB (.mk k n i s a b c l) = true := by simp only [someB]; rw [decide_eq_false (by omega)]; simp; omega
    have ha : asksH (.mk k n i s a b c l) = none := by rcases asks_cases k n i s a b c l with h | h | h | h <;> first | exact h.2.2.2 | omega
    by_cases oq : k' = 1 ∨ k' = 2
    · have ob : openB (.mk k' n' i' s' a' b' c' l') = true := decide_eq_true oq
      have hb : asksH (.mk k' n' i' s' a' b' c' l') = none := by rcases asks_cases k' n' i' s' a' b' c' l' with h | h | h | h <;> first | exact h.2.2.2 | omega
      rw [show apartB (.mk k n i s a b c l) (.mk k' n' i' s' a' b' c' l') = !someB (.mk k' n' i' s' a' b' c' l') by
        cases hs2 : someB (.mk k' n' i' s' a' b' c' l') with
        | false => exact apartB_some2 hs2
        | true => simp only [apartB]; rw [hs1, hs2]; simp [op]]
      exact apart3a_c ha oa hb ob he2
    · have key : apartB (.mk k n i s a b c l) (.mk k' n' i' s' a' b' c' l') = !someB (.mk k' n' i' s' a' b' c' l') := by
        cases hs2 : someB (.mk k' n' i' s' a' b' c' l') with
        | false => exact apartB_some2 hs2
        | true => simp only [apartB]; rw [hs1, hs2]; simp [op]
      rcases asks_cases k' n' i' s' a' b' c' l' with ⟨h, hb⟩ | ⟨h, hb⟩ | ⟨h, hb⟩ | ⟨g3, g4, g5, hb⟩
      · rw [key]; exact apart3b_c ha oa hb he2
      · rw [key]; exact apart3b_c ha oa hb he2
      · rw [key]; exact apart3b_c ha oa hb he2
      · have ob : openB (.mk k' n' i' s' a' b' c' l') = false := decide_eq_false oq
        have hs2 : someB (.mk k' n' i' s' a' b' c' l') = false := by simp only [someB]; rw [decide_eq_false (show ¬ (1 ≤ k' ∧ k' ≤ 5) by omega)]; simp
        rw [apartB_some2 hs2]
        exact apart2a_c ha oa hb ob
  · have oa : openB (.mk k n i s a b c l) = false := decide_eq_false op
    by_cases hk : k = 3 ∨ k = 4 ∨ k = 5
    · obtain ⟨h, ha, hh⟩ : ∃ h, asksH (.mk k n i s a b c l) = some h ∧ h.kind = k := by rcases asks_cases k n i s a b c l with ⟨q, h⟩ | ⟨q, h⟩ | ⟨q, h⟩ | h <;> first | exact ⟨_, h, q.symm⟩ | omega
      by_cases oq : k' = 1 ∨ k' = 2
      · have ob : openB (.mk k' n' i' s' a' b' c' l') = true := decide_eq_true oq
        have hs2 : someB (.mk k' n' i' s' a' b' c' l') = true := by simp only [someB]; rw [decide_eq_false (by omega)]; simp; omega
        have hb : asksH (.mk k' n' i' s' a' b' c' l') = none := by rcases asks_cases k' n' i' s' a' b' c' l' with h | h | h | h <;> first | exact h.2.2.2 | omega
        rw [show apartB (.mk k n i s a b c l) (.mk k' n' i' s' a' b' c' l') = !someB (.mk k n i s a b c l) by
          cases hs1 : someB (.mk k n i s a b c l) with
          | false => exact apartB_some1 hs1
          | true => simp only [apartB]; rw [hs1, hs2]; simp [oq]]
        exact apart4_c ha hb ob he1
      by_cases hk' : k' = 3 ∨ k' = 4 ∨ k' = 5
      · obtain ⟨h', hb, hh'⟩ : ∃ h, asksH (.mk k' n' i' s' a' b' c' l') = some h ∧ h.kind = k' := by rcases asks_cases k' n' i' s' a' b' c' l' with ⟨q, h⟩ | ⟨q, h⟩ | ⟨q, h⟩ | h <;> first | exact ⟨_, h, q.symm⟩ | omega
        by_cases hne : h = h'
        · subst hne
          have hkk : k = k' := by rw [← hh, ← hh']
          subst hkk
          by_cases h5 : k = 5
          · have hn : n = n' := by
              rcases asks_cases k n i s a b c l with ⟨q, e⟩ | ⟨q, e⟩ | ⟨q, e⟩ | e <;> first | omega | skip
              rcases asks_cases k n' i' s' a' b' c' l' with ⟨q', e'⟩ | ⟨q', e'⟩ | ⟨q', e'⟩ | e' <;> first | omega | skip
              rw [ha] at e; rw [hb] at e'; rw [e] at e'
              injection e' with e'
              injection e' with _ e' _ _
            by_cases he : l.length = l'.length
            · subst h5
              rw [apartB_con hn he]
              exact apart6c_c (by omega) ha hb hh he fun p hp' q hq' => ih p hp' (Pat.smallL_mem hp.2.2 p hp') q (Pat.smallL_mem hq.2.2 q hq')
            · rw [show apartB (.mk k n i s a b c l) (.mk k n' i' s' a' b' c' l') = true by
                simp only [apartB]
                split
                · rfl
                · rw [if_neg (by omega), if_neg (by omega), if_neg (by omega), if_neg (by omega), if_pos (.inr he)]]
              exact apart6b_c (by omega) (by omega) ha hb (by rw [hh, h5]) he
          · rw [show apartB (.mk k n i s a b c l) (.mk k n' i' s' a' b' c' l') = false by
              have hs1 : someB (.mk k n i s a b c l) = true := by simp only [someB]; rw [decide_eq_false h5]; simp; omega
              have hs2 : someB (.mk k n' i' s' a' b' c' l') = true := by simp only [someB]; rw [decide_eq_false h5]; simp; omega
              simp only [apartB]
              rw [hs1, hs2, if_neg (by simp), if_neg (by omega), if_neg (by omega)]
              rcases asks_cases k n i s a b c l with ⟨q, e⟩ | ⟨q, e⟩ | ⟨q, e⟩ | e <;> first | omega | skip
              · rcases asks_cases k n' i' s' a' b' c' l' with ⟨q', e'⟩ | ⟨q', e'⟩ | ⟨q', e'⟩ | e' <;> first | omega | skip
                rw [ha] at e; rw [hb] at e'; rw [e] at e'
                injection e' with e'
                injection e' with _ _ e' _
                rw [if_pos q]; simp [e']
              · rcases asks_cases k n' i' s' a' b' c' l' with ⟨q', e'⟩ | ⟨q', e'⟩ | ⟨q', e'⟩ | e' <;> first | omega | skip
                rw [ha] at e; rw [hb] at e'; rw [e] at e'
                injection e' with e'
                injection e' with _ _ _ e'
                rw [if_neg (by omega), if_pos q]; simp [e']]
            exact apart6a_c (by omega) (by omega) ha hb (by rw [hh]; exact h5)
        · rw [show apartB (.mk k n i s a b c l) (.mk k' n' i' s' a' b' c' l') = true by
            simp only [apartB]
            split
            · rfl
            · rw [if_neg (by omega)]
              by_cases hkk : k = k'
              · rw [if_neg (by omega)]
                subst hkk
                rcases asks_cases k n i s a b c l with ⟨q, e⟩ | ⟨q, e⟩ | ⟨q, e⟩ | e <;> first | omega | skip
                · rcases asks_cases k n' i' s' a' b' c' l' with ⟨q', e'⟩ | ⟨q', e'⟩ | ⟨q', e'⟩ | e' <;> first | omega | skip
                  rw [ha] at e; rw [hb] at e'
                  rw [if_pos q]
                  exact decide_eq_true fun x => hne (by injection e with e; injection e' with e'; rw [e, e', x])
                · rcases asks_cases k n' i' s' a' b' c' l' with ⟨q', e'⟩ | ⟨q', e'⟩ | ⟨q', e'⟩ | e' <;> first | omega | skip
                  rw [ha] at e; rw [hb] at e'
                  rw [if_neg (by omega), if_pos q]
                  exact decide_eq_true fun x => hne (by injection e with e; injection e' with e'; rw [e, e', x])
                · rcases asks_cases k n' i' s' a' b' c' l' with ⟨q', e'⟩ | ⟨q', e'⟩ | ⟨q', e'⟩ | e' <;> first | omega | skip
                  rw [ha] at e; rw [hb] at e'
                  rw [if_neg (by omega), if_neg (by omega)]
                  by_cases x : n = n'
                  · exact absurd (by injection e with e; injection e' with e'; rw [e, e', x]) hne
                  · rw [if_pos (.inl x)]
              · rw [if_pos hkk]]
          exact apart5_c ha hb hne
      · have ob : openB (.mk k' n' i' s' a' b' c' l') = false := decide_eq_false oq
        have hb : asksH (.mk k' n' i' s' a' b' c' l') = none := by rcases asks_cases k' n' i' s' a' b' c' l' with h | h | h | h <;> first | exact h.2.2.2 | omega
        have hs2 : someB (.mk k' n' i' s' a' b' c' l') = false := by simp only [someB]; rw [decide_eq_false (show ¬ (1 ≤ k' ∧ k' ≤ 5) by omega)]; simp
        rw [apartB_some2 hs2]
        exact apart2b_c ha hb ob
    · have ha : asksH (.mk k n i s a b c l) = none := by rcases asks_cases k n i s a b c l with h | h | h | h <;> first | exact h.2.2.2 | omega
      have hs1 : someB (.mk k n i s a b c l) = false := by simp only [someB]; rw [decide_eq_false (show ¬ (1 ≤ k ∧ k ≤ 5) by omega)]; simp
      rw [apartB_some1 hs1]
      exact apart1_c ha oa
end Go.Proofs.Ytjflembhgjcgkaa
