/- M6: a walk over the patterns by constructor. -/
import Derived.Test.YtjflembhgjcgkaaM5
set_option linter.unusedSimpArgs false
set_option linter.unusedVariables false
namespace Go.Proofs.Ytjflembhgjcgkaa
open Go.RowKit

structure I2 (σ : List AObj) (locM it : Nat) (G : List (Int × Nat × Nat)) (l : List Pat) (seen : List Nat) : Prop where
  map : σ[locM]? = some (.map (entsV kI (G.map (entE l))))
  iter : σ[it]? = some (.iter locM (entsV kI (G.map (entE l))).length seen)
  arr : ∀ j x, j ∉ seen → G[j]? = some x → σ[x.2.1]? = some (.arr 41 8 x.2.2 (patR (grp x.1 l)))
def AP (locM it : Nat) (G : List (Int × Nat × Nat)) (seen : List Nat) (loc : Nat) : Prop := loc ≠ locM ∧ loc ≠ it ∧ ∀ j x, j ∉ seen → G[j]? = some x → x.2.1 ≠ loc

section
variable {σ σ' : List AObj} {locM it loc j : Nat} {G : List (Int × Nat × Nat)} {l : List Pat} {seen : List Nat} {o : AObj} {x : Int × Nat × Nat}
theorem I2.fresh (h : I2 σ locM it G l seen) (hf : Fresh σ loc o σ') : I2 σ' locM it G l seen ∧ AP locM it G seen loc :=
  ⟨⟨hf.keep h.map, hf.keep h.iter, fun j x hj hx => hf.keep (h.arr j x hj hx)⟩, (hf.ne h.map).symm, (hf.ne h.iter).symm, fun j x hj hx => hf.ne (h.arr j x hj hx)⟩
theorem I2.chg (h : I2 σ locM it G l seen) (ha : AP locM it G seen loc) (hc : Chg σ loc o σ') : I2 σ' locM it G l seen :=
  ⟨hc.keep ha.1.symm h.map, hc.keep ha.2.1.symm h.iter, fun j x hj hx => hc.keep (ha.2.2 j x hj hx) (h.arr j x hj hx)⟩
theorem I2.next (h : I2 σ locM it G l seen) (hj : j ∉ seen) (hx : G[j]? = some x) (hc : Chg σ it (.iter locM (entsV kI (G.map (entE l))).length (seen ++ [j])) σ') : I2 σ' locM it G l (seen ++ [j]) ∧ σ'[x.2.1]? = some (.arr 41 8 x.2.2 (patR (grp x.1 l))) := by
  have hne : ∀ j x, j ∉ seen → G[j]? = some x → x.2.1 ≠ it := fun j x hj hx e => by
    have := h.arr j x hj hx
    rw [e, h.iter] at this; cases this
  refine ⟨⟨hc.keep (fun e => by have := h.map; rw [e, h.iter] at this; cases this) h.map, hc.at', fun i y hi hy => ?_⟩, hc.keep (hne j x hj hx) (h.arr j x hj hx)⟩
  have hi : i ∉ seen := fun q => hi (List.mem_append_left _ q)
  exact hc.keep (hne i y hi hy) (h.arr i y hi hy)
theorem I2.dead (h : I2 σ locM it G l seen) (hn : (G.map (·.2.1)).Nodup) (hj : j ∈ seen) (hx : G[j]? = some x) {U sz ver : Nat} {rows : List (List DV)} (ht : σ[x.2.1]? = some (.arr U sz ver rows)) (hc : Chg σ x.2.1 .dead σ') : I2 σ' locM it G l seen := by
  refine ⟨hc.keep (fun e => by have := h.map; rw [e, ht] at this; cases this) h.map, hc.keep (fun e => by have := h.iter; rw [e, ht] at this; cases this) h.iter, fun i y hi hy => hc.keep (fun e => ?_) (h.arr i y hi hy)⟩
  have := nodup_idx (f := (·.2.1)) hn hy hx e
  subst this
  exact hi hj
theorem ent_get {kx : Value} {vx : AV} (h : (entsV kI (G.map (entE l)))[j]? = some (kx, vx)) : ∃ c loc ver, G[j]? = some (c, loc, ver) ∧ kx = .int .i64 c ∧ vx = .own loc ver 8 0 (patR (grp c l)).length := by
  unfold entsV at h
  rw [List.map_map, List.getElem?_map] at h
  obtain ⟨⟨c, loc, ver⟩, h1, h2⟩ := Option.map_eq_some_iff.1 h
  injection h2 with h3 h4
  exact ⟨c, loc, ver, h1, h3.symm, h4.symm⟩
theorem ent_len : (entsV kI (G.map (entE l))).length = G.length := by simp [entsV]
end

theorem nodup_len : ∀ (n : Nat) (l : List Nat), l.Nodup → (∀ x ∈ l, x < n) → l.length ≤ n
  | 0, l, _, h => by
    cases l with
    | nil => simp
    | cons a l => exact absurd (h a (by simp)) (Nat.not_lt_zero a)
  | n + 1, l, hn, h => by
    have h1 := nodup_len n (l.erase n) (hn.erase n) fun x hx => by
      have hm := List.mem_of_mem_erase hx
      have := h x hm
      have : x ≠ n := fun e => by subst e; exact (List.Nodup.mem_erase_iff hn).1 hx |>.1 rfl
      omega
    rw [List.length_erase] at h1
    split at h1 <;> omega

/-- The kids that a round gathers. -/
theorem grp_kids {g : Sg} {l : List Pat} (hA : ∀ p ∈ l, aloneB g p = true) (c : Int) (f : Nat) (hf : f < g.arity c) : ∃ q : List Pat, q = kidsL l c f ∧ q.length = (grp c l).length ∧ ∀ (i : Nat) (p : Pat), (grp c l)[i]? = some p → ∃ r, p.l[f]? = some r ∧ q[i]? = some r := by
  refine ⟨_, rfl, ?_, ?_⟩
  · induction l with
    | nil => rfl
    | cons a l ih =>
      have ih := ih fun p hp => hA p (List.mem_cons_of_mem _ hp)
      rw [kidsL_cons, List.length_append, ih]
      unfold grp
      rw [List.filter_cons]
      by_cases h : a.kind = 5 ∧ a.n = c
      · have hl := (alone_con (hA a (by simp)) h.1).2.2
        obtain ⟨r, hr⟩ : ∃ r, a.l[f]? = some r := getS (by rw [hl, h.2]; exact hf)
        rw [if_pos h, hr, if_pos (by simpa using h)]
        simp; omega
      · rw [if_neg h, if_neg (by simpa using h)]
        simp
  · induction l with
    | nil => intro i p h; simp [grp] at h
    | cons a l ih =>
      have ih := ih fun p hp => hA p (List.mem_cons_of_mem _ hp)
      intro i p hp
      rw [kidsL_cons]
      unfold grp at hp
      rw [List.filter_cons] at hp
      by_cases h : a.kind = 5 ∧ a.n = c
      · have hl := (alone_con (hA a (by simp)) h.1).2.2
        obtain ⟨r, hr⟩ : ∃ r, a.l[f]? = some r := getS (by rw [hl, h.2]; exact hf)
        rw [if_pos (by simpa using h)] at hp
        rw [if_pos h, hr]
        cases i with
        | zero => simp at hp; subst hp; exact ⟨r, hr, by simp⟩
        | succ i =>
          obtain ⟨r', h1, h2⟩ := ih i p (by rw [List.getElem?_cons_succ] at hp; exact hp)
          exact ⟨r', h1, by simpa using h2⟩
      · rw [if_neg (by simpa using h)] at hp
        rw [if_neg h]
        simpa using ih i p hp
end Go.Proofs.Ytjflembhgjcgkaa
