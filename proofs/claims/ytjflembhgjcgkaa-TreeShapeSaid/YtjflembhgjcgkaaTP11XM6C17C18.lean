/- M6, C17, C18: in one. -/
import Derived.Test.YtjflembhgjcgkaaTP11XM4M7M5
import Derived.Test.YtjflembhgjcgkaaTP11C16
set_option linter.unusedSimpArgs false
set_option linter.unusedVariables false
/- M6: a walk over the patterns by constructor. -/
namespace Go.Proofs.Ytjflembhgjcgkaa
open Go.RowKit

structure I2 (σ : List AObj) (locM it : Nat) (G : List (Int × Nat × Nat)) (l : List Pat) (seen : List Nat) : Prop where
  map : σ[locM]? = some (.map (entsV kI (G.map (entE l))))
  iter : σ[it]? = some (.iter locM (entsV kI (G.map (entE l))).length seen)
  arr : ∀ j x, j ∉ seen → G[j]? = some x → σ[x.2.1]? = some (.arr 41 8 x.2.2 (patR (grp x.1 l)))
def AP (locM it : Nat) (G : List (Int × Nat × Nat)) (seen : List Nat) (loc : Nat) : Prop := loc ≠ locM ∧ loc ≠ it ∧ ∀ j x, j ∉ seen → G[j]? = some x → x.2.1 ≠ loc

section
variable {σ σ' : List AObj} {locM it loc j : Nat} {G : List (Int × Nat × Nat)} {l : List Pat} {seen : List Nat} {o : AObj} {x : Int × Nat × Nat}
theorem I2.fresh (h : I2 σ locM it G l seen) (hf : Fresh σ loc o σ') : I2 σ' locM it G l seen ∧ AP locM it G seen loc :=
  ⟨⟨hf.keep h.map, hf.keep h.iter, fun j x hj hx => hf.keep (h.arr j x hj hx)⟩, (hf.ne h.map).symm, (hf.ne h.iter).symm, fun j x hj hx => hf.ne (h.arr j x hj hx)⟩
theorem I2.chg (h : I2 σ locM it G l seen) (ha : AP locM it G seen loc) (hc : Chg σ loc o σ') : I2 σ' locM it G l seen :=
  ⟨hc.keep ha.1.symm h.map, hc.keep ha.2.1.symm h.iter, fun j x hj hx => hc.keep (ha.2.2 j x hj hx) (h.arr j x hj hx)⟩
theorem I2.next (h : I2 σ locM it G l seen) (hj : j ∉ seen) (hx : G[j]? = some x) (hc : Chg σ it (.iter locM (entsV kI (G.map (entE l))).length (seen ++ [j])) σ') : I2 σ' locM it G l (seen ++ [j]) ∧ σ'[x.2.1]? = some (.arr 41 8 x.2.2 (patR (grp x.1 l))) := by
  have hne : ∀ j x, j ∉ seen → G[j]? = some x → x.2.1 ≠ it := fun j x hj hx e => by
    have := h.arr j x hj hx
    rw [e, h.iter] at this; cases this
  refine ⟨⟨hc.keep (fun e => by have := h.map; rw [e, h.iter] at this; cases this) h.map, hc.at', fun i y hi hy => ?_⟩, hc.keep (hne j x hj hx) (h.arr j x hj hx)⟩
  have hi : i ∉ seen := fun q => hi (List.mem_append_left _ q)
  exact hc.keep (hne i y hi hy) (h.arr i y hi hy)
theorem I2.dead (h : I2 σ locM it G l seen) (hn : (G.map (·.2.1)).Nodup) (hj : j ∈ seen) (hx : G[j]? = some x) {U sz ver : Nat} {rows : List (List DV)} (ht : σ[x.2.1]? = some (.arr U sz ver rows)) (hc : Chg σ x.2.1 .dead σ') : I2 σ' locM it G l seen := by
  refine ⟨hc.keep (fun e => by have := h.map; rw [e, ht] at this; cases this) h.map, hc.keep (fun e => by have := h.iter; rw [e, ht] at this; cases this) h.iter, fun i y hi hy => hc.keep (fun e => ?_) (h.arr i y hi hy)⟩
  have := nodup_idx (f := (·.2.1)) hn hy hx e
  subst this
  exact hi hj
theorem ent_get {kx : Value} {vx : AV} (h : (entsV kI (G.map (entE l)))[j]? = some (kx, vx)) : ∃ c loc ver, G[j]? = some (c, loc, ver) ∧ kx = .int .i64 c ∧ vx = .own loc ver 8 0 (patR (grp c l)).length := by
  unfold entsV at h
  rw [List.map_map, List.getElem?_map] at h
  obtain ⟨⟨c, loc, ver⟩, h1, h2⟩ := Option.map_eq_some_iff.1 h
  injection h2 with h3 h4
  exact ⟨c, loc, ver, h1, h3.symm, h4.symm⟩
theorem ent_len : (entsV kI (G.map (entE l))).length = G.length := by simp [entsV]
end

theorem nodup_len : ∀ (n : Nat) (l : List Nat), l.Nodup → (∀ x ∈ l, x < n) → l.length ≤ n
  | 0, l, _, h => by
    cases l with
    | nil => simp
    | cons a l => exact absurd (h a (by simp)) (Nat.not_lt_zero a)
  | n + 1, l, hn, h => by
    have h1 := nodup_len n (l.erase n) (hn.erase n) fun x hx => by
      have hm := List.mem_of_mem_erase hx
      have := h x hm
      have : x ≠ n := fun e => by subst e; exact (List.Nodup.mem_erase_iff hn).1 hx |>.1 rfl
      omega
    rw [List.length_erase] at h1
    split at h1 <;> omega

/-- The kids that a round gathers. -/
theorem grp_kids {g : Sg} {l : List Pat} (hA : ∀ p ∈ l, aloneB g p = true) (c : Int) (f : Nat) (hf : f < g.arity c) : ∃ q : List Pat, q = kidsL l c f ∧ q.length = (grp c l).length ∧ ∀ (i : Nat) (p : Pat), (grp c l)[i]? = some p → ∃ r, p.l[f]? = some r ∧ q[i]? = some r := by
  refine ⟨_, rfl, ?_, ?_⟩
  · induction l with
    | nil => rfl
    | cons a l ih =>
      have ih := ih fun p hp => hA p (List.mem_cons_of_mem _ hp)
      rw [kidsL_cons, List.length_append, ih]
      unfold grp
      rw [List.filter_cons]
      by_cases h : a.kind = 5 ∧ a.n = c
      · have hl := (alone_con (hA a (by simp)) h.1).2.2
        obtain ⟨r, hr⟩ : ∃ r, a.l[f]? = some r := getS (by rw [hl, h.2]; exact hf)
        rw [if_pos h, hr, if_pos (by simpa using h)]
        simp; omega
      · rw [if_neg h, if_neg (by simpa using h)]
        simp
  · induction l with
    | nil => intro i p h; simp [grp] at h
    | cons a l ih =>
      have ih := ih fun p hp => hA p (List.mem_cons_of_mem _ hp)
      intro i p hp
      rw [kidsL_cons]
      unfold grp at hp
      rw [List.filter_cons] at hp
      by_cases h : a.kind = 5 ∧ a.n = c
      · have hl := (alone_con (hA a (by simp)) h.1).2.2
        obtain ⟨r, hr⟩ : ∃ r, a.l[f]? = some r := getS (by rw [hl, h.2]; exact hf)
        rw [if_pos (by simpa using h)] at hp
        rw [if_pos h, hr]
        cases i with
        | zero => simp at hp; subst hp; exact ⟨r, hr, by simp⟩
        | succ i =>
          obtain ⟨r', h1, h2⟩ := ih i p (by rw [List.getElem?_cons_succ] at hp; exact hp)
          exact ⟨r', h1, by simpa using h2⟩
      · rw [if_neg (by simpa using h)] at hp
        rw [if_neg h]
        simpa using ih i p hp
end Go.Proofs.Ytjflembhgjcgkaa

/- C17: together, of the program: a round over the map. -/
namespace Go.Proofs.Ytjflembhgjcgkaa
open Go.RowKit

/-- The second loop's body. -/
noncomputable def tog2 : Option Code := match Try.f68.body with
  | some c => match findBlock 2 c with
    | some (.block _ (.loop x)) => some x
    | _ => none
  | none => none
def TQ2 (g : Sg) (l : List Pat) (G : List (Int × Nat × Nat)) (locM it : Nat) (seen : List Nat) : Exit → Fr → List AObj → Prop
  | .normal, fr, σ => getO [2, 74] fr = some [.d (.fptr (sigD g)), .ptr it 0 0] ∧ ∃ j x, j ∉ seen ∧ G[j]? = some x ∧ I2 σ locM it G l (seen ++ [j]) ∧ ∀ f, f < g.arity x.1 → togB g (kidsL l x.1 f) = true
  | .ret, fr, σ => fget fr 4 = .d (.v (.bool false)) ∧ togB g l = false
  | .exit n, fr, σ => n = 2 ∧ ∀ j, j < G.length → j ∈ seen
  | _, _, _ => False

section
variable {g : Sg} {l : List Pat} {locM it m : Nat} {G : List (Int × Nat × Nat)} {σ : List AObj} {seen : List Nat}
set_option maxRecDepth 100000 in
set_option maxHeartbeats 8000000 in
theorem tog2_round (hs : g.Small) (hm : m ≤ 1000000000) (hl : SmallP m l) (hA : ∀ p ∈ l, aloneB g p = true) (hn : (G.map (·.2.1)).Nodup) (hfr : ∀ x ∈ G, ∃ p ∈ l, p.kind = 5 ∧ p.n = x.1)
    (ih : ∀ l' : List Pat, szL l' < szL l → SmallP m l' → RunsP Try.prog 68 [.agg (sigD g), patsD l'] (fun v => v = .v (.bool (togB g l'))))
    (h2 : I2 σ locM it G l seen) {X : Code} (hX : tog2 = some X) :
    AWk Try.prog 110 X (TQ2 g l G locM it seen) ([2, 74].zip [.d (.fptr (sigD g)), .ptr it 0 0]) σ := by
  cases hX
  have l1 := hs.cons
  repeat' (first | refine s_op rfl ?_ | (apply s_ext; (iterate 5 (exact rfl))) | (apply s_nextF (loc := locM); (iterate 5 (exact rfl)); exact h2.iter; exact h2.map; all_goals first | (intro j p hj hp σ hc) | (intro hdone)) | refine al_nil ?_ | refine q_then_n ?_ | refine q_then_e ?_ | refine aw_block ?_ | refine aw_exit ?_ | refine aw_seq ?_ | refine aw_reg ?_ | refine aw_true rfl ?_ | refine aw_false rfl ?_ | refine aw_skip ?_)
  · exact ⟨rfl, fun j hj => hdone j (by rw [ent_len]; exact hj)⟩
  obtain ⟨kx, vx⟩ := p
  obtain ⟨c, loc, ver, hx, rfl, rfl⟩ := ent_get hp
  obtain ⟨h3, hArr⟩ := h2.next hj hx hc
  clear hc h2
  obtain ⟨p0, hp0, hp5, hpn⟩ := hfr _ (List.mem_of_getElem? hx)
  obtain ⟨c1, c2, _⟩ := alone_con (hA p0 hp0) hp5
  simp only at hpn
  rw [hpn] at c1 c2
  obtain ⟨m0, rfl⟩ : ∃ m0 : Nat, c = m0 := ⟨c.toNat, by omega⟩
  obtain ⟨⟨nm, dt, fs0, ms⟩, hcn⟩ : ∃ c, g.cons[m0]? = some c := getS (by omega)
  have har := arity_at hcn
  have hfl : fs0.length ≤ 1000000000 := hs.fields _ (List.mem_of_getElem? hcn)
  repeat' (first | refine s_op rfl ?_ | (apply s_move; (iterate 4 (exact rfl))) | (apply s_fa_f tab_ok; (iterate 6 (exact rfl))) | (apply s_ld_f tab_ok; (iterate 6 (exact rfl))) | (apply s_assign; (iterate 4 (exact rfl))) | (apply s_len tab_ok; (iterate 5 (exact rfl))) | (apply s_idx tab_ok; (iterate 7 (exact rfl)); (first | exact patR_get (by assumption) | exact valR_get (by assumption) | exact row_map (by assumption) | assumption)) | (apply s_ext; (iterate 5 (exact rfl))) | (apply s_entry (loc := locM) (j := j); (iterate 4 (exact rfl)); exact h3.iter; exact h3.map; exact hp; exact rfl) | (refine w_freezeF 10 rfl hArr rfl ?_; intro σ hc; have h2 := h3.dead hn (by simp) hx hArr hc; clear hc h3 hArr) | refine al_nil ?_ | refine q_then_n ?_ | refine aw_block ?_ | refine aw_seq ?_ | refine aw_reg ?_)
  have hlenG : (grp (m0 : Int) l).length ≤ 1000000000 := Nat.le_trans (grp_len _ _) (Nat.le_trans hl.len hm)
  have e5 := patR_len (grp (m0 : Int) l)
  refine w_loop [2, 10, 74, 86, 87] (fun n vs σ => ∃ i : Nat, vs = [.d (.fptr (sigD g)), .d (.lst 8 (patR (grp (m0 : Int) l))), .ptr it 0 0, .d (.v (.int .i64 (fs0.length : Int))), .d (.v (.int .i64 (i : Int)))] ∧ I2 σ locM it G l (seen ++ [j]) ∧ i ≤ fs0.length ∧ n = fs0.length - i ∧ ∀ f, f < i → togB g (kidsL l m0 f) = true) rfl ⟨0, rfl, h2, by omega, rfl, fun f hf => absurd hf (Nat.not_lt_zero f)⟩ ?_
  clear h2
  rintro n vs σ ⟨i, rfl, h2, hi, rfl, hdone⟩ fr hfr
  cases hfr
  by_cases hil : i < fs0.length
  · obtain ⟨q, hq, hql, hqk⟩ := grp_kids hA (m0 : Int) i (by rw [har]; exact hil)
    repeat' (first | refine s_op rfl ?_ | (apply s_move; (iterate 4 (exact rfl))) | (apply s_assign; (iterate 4 (exact rfl))) | (apply s_len tab_ok; (iterate 5 (exact rfl))) | (apply s_lss_t; (iterate 5 (exact rfl)); omega) | refine al_nil ?_ | refine q_then_n ?_ | refine aw_block ?_ | refine aw_seq ?_ | refine aw_reg ?_ | refine aw_true rfl ?_ | refine aw_skip ?_)
    refine w_adoptF 12 41 8 rfl ?_
    intro locN σ hc
    have aN := (h2.fresh hc).2
    replace h2 := (h2.fresh hc).1
    have hN := hc.at'
    clear hc
    refine w_loop [2, 10, 11, 12, 74, 86, 87, 90, 91, 92] (fun n vs σ => ∃ r ver : Nat, vs = [.d (.fptr (sigD g)), .d (.lst 8 (patR (grp (m0 : Int) l))), .d (.v (.int .i64 (i : Int))), .own locN ver 8 0 (patR (q.take r)).length, .ptr it 0 0, .d (.v (.int .i64 (fs0.length : Int))), .d (.v (.int .i64 (i : Int))), .d (.lst 8 (patR (grp (m0 : Int) l))), .d (.v (.int .i64 ((patR (grp (m0 : Int) l)).length : Int))), .d (.v (.int .i64 (r : Int)))] ∧ I2 σ locM it G l (seen ++ [j]) ∧ σ[locN]? = some (.arr 41 8 ver (patR (q.take r))) ∧ r ≤ (grp (m0 : Int) l).length ∧ n = (grp (m0 : Int) l).length - r) rfl ⟨0, 0, rfl, h2, hN, by omega, rfl⟩ ?_
    clear h2 hN
    rintro n vs σ ⟨r, ver, rfl, h2, hN, hr, rfl⟩ fr hfr
    cases hfr
    by_cases hrl : r < (grp (m0 : Int) l).length
    · obtain ⟨pk, pn, pi, ps, pa, pb, pc, pl, hp⟩ := getM hrl
      obtain ⟨rk, hrk, hqr⟩ := hqk r _ hp
      simp only [Pat.l] at hrk
      have ht : q.take (r + 1) = q.take r ++ [rk] := by rw [List.take_add_one, hqr]; rfl
      have lq : (patR (q.take r)).length ≤ 1000000000 := by rw [patR_len, List.length_take]; omega
      repeat' (first | refine s_op rfl ?_ | (apply s_move; (iterate 4 (exact rfl))) | (apply s_fa_p tab_ok; (iterate 5 (exact rfl))) | (apply s_ld_f tab_ok; (iterate 6 (exact rfl))) | (apply s_ld_w tab_ok; (iterate 5 (exact rfl)); (first | exact patD_len _ | exact valD_len _)) | (apply s_assign; (iterate 4 (exact rfl))) | (apply s_idx tab_ok; (iterate 7 (exact rfl)); (first | exact patR_get (by assumption) | exact valR_get (by assumption) | exact row_map (by assumption) | assumption)) | (apply s_lit1 tab_ok tabZ_ok; (iterate 9 (exact rfl)); (first | exact patD_len _ | exact valD_len _)) | (apply s_lss_t; (iterate 5 (exact rfl)); omega) | (apply s_add64; (iterate 5 (exact rfl)); omega) | (apply s_allocF tabZ_ok; (iterate 6 (exact rfl)); intro locX σ hc; have hX := hc.at'; have aX := (h2.fresh hc).2; replace h2 := (h2.fresh hc).1; have nNX := hc.ne hN; replace hN := hc.keep hN; clear hc) | (apply s_storeF tab_ok; (iterate 7 (exact rfl)); exact hX; (iterate 2 (exact rfl)); intro σ hc; replace h2 := h2.chg aX hc; replace hN := hc.keep nNX hN; replace hX := hc.at'; clear hc) | (apply s_ldF tab_ok; (iterate 5 (exact rfl)); exact hX; exact rfl) | (apply s_appF tab_ok tabZ_ok (rows2 := [patD rk]) (rows3 := patR (q.take (r + 1))) (m := (patR (q.take (r + 1))).length); (iterate 10 (exact rfl)); exact hN; exact src_of (Tab.slIs tab_ok (t := 26) rfl) (rows_d rfl); (rw [ht, patR_append]; rfl); (rw [ht, patR_append, patR_one]; simp; omega); intro σ hc; replace h2 := h2.chg aN hc; replace hN := hc.at'; clear hc) | refine al_nil ?_ | refine q_then_n ?_ | refine q_blk_n ?_ | refine aw_block ?_ | refine aw_seq ?_ | refine aw_reg ?_ | refine aw_true rfl ?_ | refine aw_skip ?_)
      exact ⟨_, _, rfl, by omega, r + 1, _, rfl, h2, hN, by omega, rfl⟩
    · have hrq : q.take r = q := List.take_of_length_le (by omega)
      rw [hrq] at hN
      rw [hrq]
      have hlt2 : szL (kidsL l m0 i) < szL l := by
        have := kidsL_lt (k := i) hp0 hp5 (by rw [(alone_con (hA p0 hp0) hp5).2.2, hpn, har]; exact hil)
        rw [hpn] at this; exact this
      have hr := ih _ hlt2 (hl.kids _ _)
      cases hb : togB g (kidsL l m0 i) <;> rw [hb, ← hq] at hr
      · repeat' (first | refine s_op rfl ?_ | (apply s_move; (iterate 4 (exact rfl))) | (apply s_ld_f tab_ok; (iterate 6 (exact rfl))) | (apply s_assign; (iterate 4 (exact rfl))) | (apply s_not_f; (iterate 4 (exact rfl))) | (apply s_lss_f; (iterate 5 (exact rfl)); omega) | (refine w_freezeF 12 rfl hN rfl ?_; intro σ hc; replace h2 := h2.chg aN hc; clear hc hN) | (apply s_call; (iterate 6 (exact rfl)); first | (exact hr; rintro _ rfl)) | refine al_nil ?_ | refine q_then_n ?_ | refine q_blk_r ?_ | refine q_blk_e ?_ | refine q_then_e ?_ | refine aw_exit ?_ | refine q_then_r ?_ | refine aw_seq ?_ | refine aw_reg ?_ | refine aw_true rfl ?_ | refine aw_false rfl ?_ | refine aw_ret ?_)
        exact ⟨rfl, by rw [← hpn] at hb; exact tog_kid (g := g) (m := i) hp0 (by rw [(alone_con (hA p0 hp0) hp5).2.2, hpn, har]; exact hil) hb⟩
      · repeat' (first | refine s_op rfl ?_ | (apply s_move; (iterate 4 (exact rfl))) | (apply s_ld_f tab_ok; (iterate 6 (exact rfl))) | (apply s_not_t; (iterate 4 (exact rfl))) | (apply s_lss_f; (iterate 5 (exact rfl)); omega) | (apply s_add64; (iterate 5 (exact rfl)); omega) | (refine w_freezeF 12 rfl hN rfl ?_; intro σ hc; replace h2 := h2.chg aN hc; clear hc hN) | (apply s_call; (iterate 6 (exact rfl)); first | (exact hr; rintro _ rfl)) | refine al_nil ?_ | refine q_then_n ?_ | refine q_blk_n ?_ | refine q_blk_e ?_ | refine q_then_e ?_ | refine aw_exit ?_ | refine aw_seq ?_ | refine aw_reg ?_ | refine aw_false rfl ?_ | refine aw_skip ?_)
        exact ⟨_, _, rfl, by omega, i + 1, rfl, h2, by omega, rfl, upto_next (p := fun f => togB g (kidsL l m0 f)) hdone hb⟩
  · repeat' (first | refine s_op rfl ?_ | (apply s_lss_f; (iterate 5 (exact rfl)); omega) | refine al_nil ?_ | refine q_then_n ?_ | refine q_blk_n ?_ | refine q_blk_e ?_ | refine q_then_e ?_ | refine aw_exit ?_ | refine aw_seq ?_ | refine aw_reg ?_ | refine aw_false rfl ?_)
    exact ⟨rfl, j, _, hj, hx, h2, fun f hf => hdone f (by rw [har] at hf; omega)⟩
end
end Go.Proofs.Ytjflembhgjcgkaa

/- C18: together, of the program: what it says. -/
namespace Go.Proofs.Ytjflembhgjcgkaa
open Go.RowKit

section
variable {g : Sg} {l : List Pat} {locF locM k m : Nat} {cs : List AV} {G : List (Int × Nat × Nat)} {σ : List AObj}
theorem tog1_round (hs : g.Small) (hm : m ≤ 1000000000) (hl : SmallP m l) (hlt : k < l.length) (hF : σ[locF]? = some (.row 41 cs)) (hI : FirstIs g cs (l.take k)) (hG : GInv σ locM G (l.take k)) (hA : ∀ p ∈ l.take k, aloneB g p = true) {X : Code} (hX : tog1 = some X) :
    AWk Try.prog 110 X (TQ1 g l locF locM k) ([2, 5, 6, 17, 18, 19].zip [.d (.fptr (sigD g)), .ptr locF 0 0, .mp locM, .d (patsD l), .d (.v (.int .i64 ((patR l).length : Int))), .d (.v (.int .i64 (k : Int)))]) σ := by
  obtain ⟨pk, pn, pi, ps, pa, pb, pc, pl, hq⟩ := getM hlt
  have hll : l.length ≤ 1000000000 := Nat.le_trans hl.len hm
  have hpl : pl.length ≤ 1000000000 := Nat.le_trans (hl.each _ (List.mem_of_getElem? hq)).1 hm
  cases hb : aloneB g (.mk pk pn pi ps pa pb pc pl) with
  | false => exact tog1_bad hs hll hlt hq hpl hF hG hb hX
  | true =>
  cases ho : openB (.mk pk pn pi ps pa pb pc pl) with
  | true => exact tog1_open_ hs hll hlt hq hpl hF hG hI hb hA ho hX
  | false =>
  rcases hI with ⟨hcs, hall⟩ | ⟨⟨fk, fn, fi, fs, fa, fb, fc, fl⟩, hFm, hFo, hcs, hFp⟩
  · by_cases h5 : pk = 5
    · rcases hG.look pn with ⟨h1, h2, h3⟩ | ⟨j, loc, ver, h1, _, _⟩
      · exact tog1_firstcon hs hll hlt hq hpl hF hG hcs hall hb hA ho h5 h1 h2 h3 hX
      · obtain ⟨p, hp, hp5, _⟩ := hG.from_ _ (List.mem_of_getElem? h1)
        have := of_decide_eq_true (hall p hp)
        omega
    · exact tog1_firstlit hs hll hlt hq hpl hF hG hcs hall hb hA ho h5 hX
  · have hpb : pairB g (.mk fk fn fi fs fa fb fc fl) (.mk pk pn pi ps pa pb pc pl) = (decide (fk = pk) && (!decide (fk = 5) || decide (g.dataOf fn = g.dataOf pn))) := by
      simp only [pairB, hFo, ho, Pat.kind, Pat.n, Bool.false_or]
      rfl
    by_cases hk : fk = pk
    · by_cases h5 : pk = 5
      · have hf5 : fk = 5 := by omega
        by_cases hd : g.dataOf fn = g.dataOf pn
        · have hpr : pairB g (.mk fk fn fi fs fa fb fc fl) (.mk pk pn pi ps pa pb pc pl) = true := by rw [hpb]; simp [hk, hd]
          rcases hG.look pn with ⟨h1, h2, h3⟩ | ⟨j, loc, ver, h1, h2, h3⟩
          · exact tog1_nextnew hs hll hlt hq hpl hF hG hFm hFo hcs hFp hb hA ho hpr hf5 hd h5 h1 h2 h3 hX
          · exact tog1_nextold hs hll hlt hq hpl hF hG hFm hFo hcs hFp hb hA ho hpr hf5 hd h5 h1 h2 h3 hX
        · exact tog1_nopaird hs hll hlt hq hpl hF hG hFm hFo hcs hb hA ho hf5 h5 hd (by rw [hpb]; simp [hk, hd, h5]) hX
      · exact tog1_nextlit hs hll hlt hq hpl hF hG hFm hFo hcs hFp hb hA ho (by rw [hpb]; simp [hk, h5]) hk h5 hX
    · exact tog1_nopairk hs hll hlt hq hpl hF hG hFm hFo hcs hb hA ho hk (by rw [hpb]; simp [hk]) hX
end

set_option maxRecDepth 100000 in
set_option maxHeartbeats 8000000 in
theorem tog_c (g : Sg) (hs : g.Small) (m : Nat) (hm : m ≤ 1000000000) (l : List Pat) : SmallP m l → RunsP Try.prog 68 [.agg (sigD g), patsD l] (fun v => v = .v (.bool (togB g l))) := by
  induction hN : szL l using Nat.strongRecOn generalizing l with
  | ind N ih =>
  intro hl
  subst hN
  have e1 := patR_len l
  have hlen := hl.len
  refine enterP 110 Try.func68 rfl (by kernel_rfl) rfl rfl rfl ?_
  repeat' (first | refine s_op rfl ?_ | (apply s_move; (iterate 4 (exact rfl))) | (apply s_assign; (iterate 4 (exact rfl))) | (apply s_len tab_ok; (iterate 5 (exact rfl))) | (apply s_build tabZ_ok; (iterate 5 (exact rfl))) | (apply s_alloc tabZ_ok; (iterate 7 (exact rfl))) | (apply s_boxZ; (iterate 5 (exact rfl)); first | exact rfl | exact allD_mapd _) | (apply s_store tab_ok; (iterate 10 (exact rfl))) | (apply s_makeMapF kI; (iterate 4 (exact rfl)); intro locM σ hc) | refine al_nil ?_ | refine q_then_n ?_ | refine aw_block ?_ | refine aw_seq ?_ | refine aw_reg ?_)
  have hF0 : σ[0]? = some (.row 41 (rowNil.map .d)) := hc.keep rfl
  have hM0 : GInv σ locM [] (l.take 0) := ⟨hc.at', (fun x hx => by cases hx), List.nodup_nil, List.nodup_nil, (fun p hp => by simp at hp), (fun x hx => by cases hx)⟩
  refine w_loop [2, 5, 6, 17, 18, 19] (fun n vs σ => ∃ k : Nat, vs = [.d (.fptr (sigD g)), .ptr 0 0 0, .mp locM, .d (patsD l), .d (.v (.int .i64 ((patR l).length : Int))), .d (.v (.int .i64 (k : Int)))] ∧ k ≤ l.length ∧ n = l.length - k ∧ ∃ cs G, σ[0]? = some (.row 41 cs) ∧ FirstIs g cs (l.take k) ∧ GInv σ locM G (l.take k) ∧ ∀ p ∈ l.take k, aloneB g p = true) rfl
    ⟨0, rfl, by omega, rfl, _, _, hF0, .inl ⟨rfl, (fun p hp => by simp at hp)⟩, hM0, (fun p hp => by simp at hp)⟩ ?_
  clear hc hF0 hM0
  rintro n vs σ ⟨k, rfl, hk, rfl, cs, G, hF, hI, hG, hA⟩ fr hfr
  cases hfr
  by_cases hlt : k < l.length
  · refine AWk.mono (Q := TQ1 g l 0 locM k) (tog1_round hs hm hl hlt hF hI hG hA rfl) fun e fr' σ' h => ?_
    cases e with
    | normal =>
      obtain ⟨h1, cs', G', h2⟩ := h
      exact ⟨_, _, h1, by omega, k + 1, rfl, by omega, rfl, cs', G', h2⟩
    | ret =>
      obtain ⟨h1, h2⟩ := h
      rw [h2]
      refine q_then_r ?_
      refine q_blk_r ?_
      refine q_then_r ?_
      exact q_ret rfl ⟨_, h1, rfl⟩
    | exit i => exact h.elim
    | goto i => exact h.elim
    | panic i => exact h.elim
    | outgrown => exact h.elim
  have hk' : l.take k = l := List.take_of_length_le (by omega)
  rw [hk'] at hI hG hA
  repeat' (first | refine s_op rfl ?_ | (apply s_move; (iterate 4 (exact rfl))) | (apply s_lss_f; (iterate 5 (exact rfl)); omega) | (apply s_rangeF mapP_ok; (iterate 5 (exact rfl)); exact hG.map; intro it σ hc) | refine al_nil ?_ | refine q_then_n ?_ | refine q_blk_e ?_ | refine q_then_e ?_ | refine aw_block ?_ | refine aw_exit ?_ | refine aw_seq ?_ | refine aw_reg ?_ | refine aw_false rfl ?_)
  have h2 : I2 σ locM it G l [] := ⟨hc.keep hG.map, hc.at', fun j x _ hx => hc.keep (hG.arr x (List.mem_of_getElem? hx))⟩
  refine w_loop [2, 74] (fun n vs σ => ∃ seen : List Nat, vs = [.d (.fptr (sigD g)), .ptr it 0 0] ∧ I2 σ locM it G l seen ∧ seen.Nodup ∧ (∀ x ∈ seen, x < G.length) ∧ n = G.length - seen.length ∧ ∀ j ∈ seen, ∀ x, G[j]? = some x → ∀ f, f < g.arity x.1 → togB g (kidsL l x.1 f) = true) rfl ⟨[], rfl, h2, List.nodup_nil, by simp, rfl, by simp⟩ ?_
  clear h2 hc
  rintro n vs σ ⟨seen, rfl, h2, hnd, hlt2, rfl, hdone⟩ fr hfr
  cases hfr
  refine AWk.mono (Q := TQ2 g l G locM it seen) (tog2_round hs hm hl hA hG.locs hG.from_ (fun l' h h' => ih _ h l' rfl h') h2 rfl) fun e fr' σ' h => ?_
  cases e with
  | normal =>
    obtain ⟨h1, j, x, hj, hx, h3, h4⟩ := h
    have hjl := (List.getElem?_eq_some_iff.1 hx).1
    have hnd' : (seen ++ [j]).Nodup := by rw [List.nodup_append]; exact ⟨hnd, by simp, fun a ha b hb => by simp at hb; subst hb; exact fun e => hj (e ▸ ha)⟩
    have hlt' : ∀ x ∈ seen ++ [j], x < G.length := fun x hx => (List.mem_append.1 hx).elim (hlt2 x) fun q => by simp at q; omega
    have hle := nodup_len _ _ hnd' hlt'
    simp only [List.length_append, List.length_cons, List.length_nil] at hle
    refine ⟨_, _, h1, ?_, seen ++ [j], rfl, h3, hnd', hlt', rfl, fun i hi y hy => ?_⟩
    · simp only [List.length_append, List.length_cons, List.length_nil]; omega
    · rcases List.mem_append.1 hi with hi | hi
      · exact hdone i hi y hy
      · simp at hi; subst hi; rw [hx] at hy; injection hy with hy; subst hy; exact h4
  | ret =>
    obtain ⟨h1, h2⟩ := h
    rw [h2]
    refine q_then_r ?_
    refine q_blk_r ?_
    refine q_then_r ?_
    exact q_ret rfl ⟨_, h1, rfl⟩
  | exit i =>
    obtain ⟨rfl, hall⟩ := h
    have htrue : togB g l = true := tog_ok hA hI.all fun p hp f hf => by
      have h5 : p.kind = 5 := by
        by_cases q : p.kind = 5
        · exact q
        · rw [alone_leaf (hA p hp) q] at hf; cases hf
      obtain ⟨x, hx, e⟩ := hG.has p hp h5
      obtain ⟨j, hj⟩ := List.getElem?_of_mem hx
      have := hdone j (hall j (List.getElem?_eq_some_iff.1 hj).1) x hj f (by rw [e, ← (alone_con (hA p hp) h5).2.2]; exact hf)
      rw [e] at this; exact this
    rw [htrue]
    repeat' (first | refine s_op rfl ?_ | (apply s_assign; (iterate 4 (exact rfl))) | refine al_nil ?_ | refine q_then_n ?_ | refine q_blk_e ?_ | refine q_then_e ?_ | refine aw_seq ?_ | refine aw_reg ?_ | refine aw_ret ?_)
    exact q_ret rfl ⟨_, rfl, rfl⟩
  | goto i => exact h.elim
  | panic i => exact h.elim
  | outgrown => exact h.elim
end Go.Proofs.Ytjflembhgjcgkaa
