/- Owned slices, readable slices, and append, over the separation logic. -/
import Derived.Test.YtlpgekodoiioaaaSl
namespace Go.Proofs.Ytlpgekodoiioaaa
open Go.RowKit

/-- The slice v of n elements (sz cells each, of type T) is the owner of its array, from the array's beginning on; xs are the elements' cells. -/
def ownS (T : TypeId) (sz : Nat) (v : Value) (n : Nat) (xs : List Value) : HProp := fun f =>
  xs.length = n * sz ∧ (((∃ a, v = .slice a 0 0) ∧ n = 0) ∨ ∃ b cap rest, v = .slice (some ⟨b, 0, none⟩) n cap ∧ n ≤ cap ∧ cap ≤ maxLen ∧ cap * sz ≤ xs.length + rest.length ∧ f b = some (.cells (xs ++ rest).toArray T (0, 0)))

/-- The slice v of n elements can be read: xs are the elements' cells. -/
def rd (w : World) (sz : Nat) (v : Value) (n : Nat) (xs : List Value) : Prop :=
  xs.length = n * sz ∧ (((∃ a c, v = .slice a 0 c) ∧ n = 0) ∨ ∃ b off cap, v = .slice (some ⟨b, off, none⟩) n cap ∧ n ≤ cap ∧ (0 < xs.length → b < w.heap.size) ∧ ∀ j u, xs[j]? = some u → w.cell? ⟨b, off + j, none⟩ = some u)

theorem addr_add (b off j : Nat) : (⟨b, off, none⟩ : Addr).add j = ⟨b, off + j, none⟩ := by
  unfold Addr.add; split <;> simp_all

theorem rd.mono {w w' : World} {sz n : Nat} {v : Value} {xs : List Value} (h : rd w sz v n xs) (b : Below w.heap.size w w') : rd w' sz v n xs := by
  refine ⟨h.1, h.2.imp id ?_⟩
  rintro ⟨g, off, cap, e, hc, hb, hr⟩
  refine ⟨g, off, cap, e, hc, fun q => Nat.lt_of_lt_of_le (hb q) b.size, fun j u hj => ?_⟩
  have hl : 0 < xs.length := by have := (List.getElem?_eq_some_iff.1 hj).1; omega
  rw [b.cell (p := ⟨g, off + j, none⟩) (hb hl)]; exact hr j u hj

/-- What was there before can be read as before. -/
theorem rd.st {W0 w : World} {L : List HProp} {sz n : Nat} {v : Value} {xs : List Value} (h : rd W0 sz v n xs) (s : St W0 w L) : rd w sz v n xs := h.mono s.below

theorem rd.nil (w : World) (sz : Nat) : rd w sz (.slice none 0 0) 0 [] := ⟨by simp, .inl ⟨⟨_, _, rfl⟩, rfl⟩⟩

/-- An empty slice, whatever its address. -/
theorem rd.empty (w : World) (sz : Nat) (a : Option Addr) (c : Nat) : rd w sz (.slice a 0 c) 0 [] := ⟨by simp, .inl ⟨⟨_, _, rfl⟩, rfl⟩⟩

theorem starL_append {L M : List HProp} : ∀ {f g h : Frag}, starL M f → starL L g → Disj f g → Le f h → Le g h → starL (M ++ L) h := by
  induction M with
  | nil => intro f g h _ b _ _ l; exact starL_mono b l
  | cons P M ih =>
    intro f g h a b d lf lg
    obtain ⟨f1, f2, p, q, d1, a1, b1⟩ := a
    refine ⟨f1, Un f2 g, p, ih q b (d.le b1 (.refl _)) (.un_left _ _) (.un_right (d.le b1 (.refl _))), ?_, a1.trans lf, .un (b1.trans lf) lg⟩
    exact .un_right d1 (d.le a1 (.refl _))

/-- What a call that only makes memory leaves, beside what was there. -/
theorem St.chain {W0 w w' : World} {L M : List HProp} (h : St W0 w L) (k : St w w' M) : St W0 w' (M ++ L) := by
  refine ⟨k.os.trans h.os, k.tape.trans h.tape, k.output.trans h.output, Nat.le_trans h.size k.size, fun i hi => (k.block i (Nat.lt_of_lt_of_le hi h.size)).trans (h.block i hi), ?_⟩
  have hs := h.size
  refine starL_append (f := newPart w w') (g := newPart W0 w) k.sep h.sep ?_ ?_ ?_
  · intro b
    unfold newPart
    by_cases e : b < w.heap.size
    · left; rw [if_pos e]
    · right
      split
      · rfl
      · exact Array.getElem?_eq_none (by omega)
  · intro b o e
    unfold newPart at e ⊢
    split at e
    · cases e
    · rw [if_neg (by omega)]; exact e
  · intro b o e
    unfold newPart at e ⊢
    split at e
    · cases e
    · rename_i hb
      rw [if_neg hb, k.block b (Array.getElem?_eq_some_iff.1 e).1]; exact e

section
variable {W0 w : World} {L : List HProp} {T : TypeId} {sz size n : Nat} {v : Value} {xs : List Value}

theorem St.own_cases (h : St W0 w (ownS T sz v n xs :: L)) : xs.length = n * sz ∧ (((∃ a, v = .slice a 0 0) ∧ n = 0 ∧ xs = []) ∨ ∃ b cap rest, v = .slice (some ⟨b, 0, none⟩) n cap ∧ n ≤ cap ∧ cap ≤ maxLen ∧ cap * sz ≤ xs.length + rest.length ∧ St W0 w (cellsB b (xs ++ rest).toArray T :: L)) := by
  obtain ⟨f, g, ⟨hl, p⟩, q, r⟩ := h.sep
  refine ⟨hl, ?_⟩
  rcases p with ⟨⟨a, rfl⟩, rfl⟩ | ⟨b, cap, rest, e, h1, h2, h3, h4⟩
  · exact .inl ⟨⟨a, rfl⟩, rfl, List.eq_nil_of_length_eq_zero (by simpa using hl)⟩
  · exact .inr ⟨b, cap, rest, e, h1, h2, h3, h.os, h.tape, h.output, h.size, h.block, f, g, h4, q, r⟩

theorem St.own_mk {b cap : Nat} {rest : List Value} (h : St W0 w (cellsB b (xs ++ rest).toArray T :: L)) (hl : xs.length = n * sz) (h1 : n ≤ cap) (h2 : cap ≤ maxLen) (h3 : cap * sz ≤ xs.length + rest.length) : St W0 w (ownS T sz (.slice (some ⟨b, 0, none⟩) n cap) n xs :: L) :=
  h.head fun _ p => ⟨hl, .inr ⟨b, cap, rest, rfl, h1, h2, h3, p⟩⟩

theorem St.own_nil (h : St W0 w L) : St W0 w (ownS T sz (.slice none 0 0) 0 [] :: L) :=
  h.conv fun f s => ⟨fun _ => none, f, ⟨by simp, .inl ⟨⟨_, rfl⟩, rfl⟩⟩, s, fun _ => .inl rfl, (fun _ _ e => by cases e), Le.refl _⟩

theorem St.own_rd (h : St W0 w (ownS T sz v n xs :: L)) : rd w sz v n xs := by
  obtain ⟨hl, h⟩ := h.own_cases
  refine ⟨hl, ?_⟩
  rcases h with ⟨⟨a, rfl⟩, rfl, rfl⟩ | ⟨b, cap, rest, rfl, h1, h2, h3, s⟩
  · exact .inl ⟨⟨_, _, rfl⟩, rfl⟩
  · refine .inr ⟨b, 0, cap, rfl, h1, fun _ => s.lt, fun j u hj => ?_⟩
    rw [s.cell]
    have := (List.getElem?_eq_some_iff.1 hj).1
    simpa [List.getElem?_append, this] using hj

/-- What stands in an owned slice's variable. -/
theorem St.own_form (h : St W0 w (ownS T sz v n xs :: L)) : ∃ a cap, v = .slice a n cap ∧ n ≤ cap := by
  rcases h.own_cases.2 with ⟨⟨a, rfl⟩, rfl, _⟩ | ⟨b, cap, rest, rfl, h1, _⟩
  · exact ⟨_, _, rfl, Nat.le_refl _⟩
  · exact ⟨_, _, rfl, h1⟩

/-- 's[:n:n]'. -/
theorem St.own_cut {a : Option Addr} {cap : Nat} (h : St W0 w (ownS T sz (.slice a n cap) n xs :: L)) : St W0 w (ownS T sz (.slice a n n) n xs :: L) := by
  obtain ⟨hl, hc⟩ := h.own_cases
  rcases hc with ⟨⟨a, e⟩, rfl, rfl⟩ | ⟨b, c, rest, e, h1, h2, h3, s⟩
  · cases e; exact h
  · injection e with e1 e2 e3
    subst e1
    exact s.own_mk hl (Nat.le_refl _) (Nat.le_trans h1 h2) (by omega)

theorem St.own_some {b len cap : Nat} (h : St W0 w (ownS T sz (.slice (some ⟨b, 0, none⟩) len cap) n xs :: L)) (hpos : 0 < n) : len = n ∧ n ≤ cap ∧ cap ≤ maxLen ∧ xs.length = n * sz ∧ ∃ rest, cap * sz ≤ xs.length + rest.length ∧ St W0 w (cellsB b (xs ++ rest).toArray T :: L) := by
  obtain ⟨hl, h⟩ := h.own_cases
  rcases h with ⟨_, h, _⟩ | ⟨b', cap', rest, e, h1, h2, h3, s⟩
  · omega
  · cases e; exact ⟨rfl, h1, h2, hl, rest, h3, s⟩

variable {P : Program}

theorem St.append {t ty : TypeId} {i : TypeInfo} {z : Value} {bytes : Nat} (h : St W0 w (ownS T size v n xs :: L))
    (ht : P.underlying t = some (.slice T)) (hi : P.info? T = some i) (hz : i.zero = some z)
    (hsize : i.size = size) (hby : i.bytes = bytes) (hzs : z.cells.size = size)
    {x : Value} {m : Nat} {news : List Value} (hx : rd w size x m news) (h1 : ∀ u ∈ news, u.oneCell' = true)
    (h63 : n + m ≤ maxLen) (hbytes : (n + m) * bytes ≤ 140737488355328) :
    ∃ v' w', (Builtin.append_ #[t, t] ty #[v, x]).run P w = .ok v' w' ∧ St W0 w' (ownS T size v' (n + m) (xs ++ news) :: L) ∧ (v' = .slice none 0 0 ↔ v = .slice none 0 0 ∧ m = 0) := by
  subst hsize
  subst hby
  obtain ⟨hl, hc⟩ := h.own_cases
  obtain ⟨hln, hx⟩ := hx
  have hsmall : n + m ≤ 9223372036854775807 := by simp only [maxLen] at h63; omega
  have hlen : (xs ++ news).length = (n + m) * i.size := by rw [List.length_append, hl, hln, Nat.add_mul]
  -- the source is nil
  have hnil : m = 0 → ∀ x', (∃ a c, x' = .slice a 0 c) → (Builtin.append_ #[t, t] ty #[v, x']).run P w = .ok v w := by
    rintro rfl x' ⟨a, c, rfl⟩
    have hf : (Builtin.firstCells i.size 0 (.slice a 0 c)).run P w = .ok #[] w := by
      cases a <;> simp [Builtin.firstCells, loadCells, loadCellsFrom]
    rcases hc with ⟨⟨a', rfl⟩, rfl, rfl⟩ | ⟨b, cap, rest, rfl, h2, h3, h4, s⟩
    · cases a' <;> simp [Builtin.append_, run_underlying ht, sizeOf, typeInfo, hi, Builtin.lenOf, hf, storeCells]
    · simp [Builtin.append_, run_underlying ht, sizeOf, typeInfo, hi, Builtin.lenOf, hf, h2, storeCells]
  by_cases hm : m = 0
  · have hn : news = [] := List.eq_nil_of_length_eq_zero (by rw [hln, hm]; simp)
    refine ⟨v, w, hnil hm x ?_, by subst hm hn; simpa using h, by simp [hm]⟩
    rcases hx with ⟨⟨_, _, rfl⟩, _⟩ | ⟨b, off, cap, rfl, _⟩
    · exact ⟨_, _, rfl⟩
    · exact ⟨_, _, by rw [hm]⟩
  · have hmp : 0 < m := Nat.pos_of_ne_zero hm
    have hm63 : (m : Int) ≤ 9223372036854775807 := by omega
    have hmb : m * i.bytes ≤ 281474976710656 := by
      have := Nat.mul_le_mul_right i.bytes (show m ≤ n + m by omega)
      omega
    obtain ⟨xb, off, xc, rfl, hmc, hbl, hcell⟩ := hx.resolve_left (fun e => hm e.2)
    have hnews : ∀ j u, news[j]? = some u → w.cell? ((⟨xb, off, none⟩ : Addr).add j) = some u := fun j u hj => by rw [addr_add]; exact hcell j u hj
    have grown : ∀ (old : Nat), old < n + m → St W0 w L →
        St W0 (w.drew.alloc (.cells (xs.toArray ++ news.toArray ++ Builtin.zeroCells z.cells (grownCap w (n + m) old T - (n + m))) T))
          (ownS T i.size (.slice (some ⟨w.heap.size, 0, none⟩) (n + m) (grownCap w (n + m) old T)) (n + m) (xs ++ news) :: L) := by
      intro old ho s
      have hge := grownCap_ge w (n + m) old T
      have hcm : grownCap w (n + m) old T ≤ maxLen := grownCap_le_maxLen w (n + m) old T h63
      have s2 := s.drew.allocC (xs.toArray ++ news.toArray ++ Builtin.zeroCells z.cells (grownCap w (n + m) old T - (n + m))) T
      refine St.own_mk (rest := (Builtin.zeroCells z.cells (grownCap w (n + m) old T - (n + m))).toList) ?_ hlen hge hcm ?_
      · have e : (xs ++ news ++ (Builtin.zeroCells z.cells (grownCap w (n + m) old T - (n + m))).toList).toArray = xs.toArray ++ news.toArray ++ Builtin.zeroCells z.cells (grownCap w (n + m) old T - (n + m)) := by
          apply Array.ext'; simp
        rw [e]; exact s2
      · rw [hlen]
        simp only [Array.length_toList, size_zeroCells, hzs, ← Nat.add_mul]
        exact Nat.mul_le_mul_right _ (by omega)
    rcases hc with ⟨⟨a', rfl⟩, rfl, rfl⟩ | ⟨b, cap, rest, rfl, h2, h3, h4, s⟩
    · cases a' with
      | some a' =>
        have hr := run_append_grow (P := P) w t ty T i z ht hi hz a' 0 0 [] (by simp) (fun j u hj => by simp at hj) ⟨xb, off, none⟩ m xc news hln hnews (by omega) (by omega) (growslice_fits (by omega) hbytes)
        have hg := grown 0 (Nat.lt_of_lt_of_le hmp (Nat.le_add_left _ _)) h.tail
        exact ⟨_, _, hr, hg, by simp⟩
      | none =>
      have hr := run_append_nil (P := P) w t ty T i z ht hi hz ⟨xb, off, none⟩ m xc news hln hnews hmp hm63 hmb
      have hg := grown 0 (Nat.lt_of_lt_of_le hmp (Nat.le_add_left _ _)) h.tail
      simp only [Nat.zero_add, List.nil_append, Array.empty_append] at hg ⊢
      exact ⟨_, _, hr, hg, by simp [hm]⟩
    · by_cases hroom : n + m ≤ cap
      · have hfit : n * i.size + news.length ≤ (xs ++ rest).toArray.size := by
          have := Nat.mul_le_mul_right i.size hroom
          rw [Nat.add_mul] at this
          simp; omega
        have hr := run_append_room (P := P) w t ty T i ht hi b n cap (xs ++ rest).toArray s.heap ⟨xb, off, none⟩ m xc news hln hnews h1 hroom hfit
        refine ⟨_, _, hr, ?_, by simp⟩
        have s2 := s.setRow ((xs ++ rest).toArray.toList.take (n * i.size) ++ news ++ (xs ++ rest).toArray.toList.drop (n * i.size + news.length)).toArray
        refine St.own_mk (rest := rest.drop news.length) ?_ hlen hroom h3 ?_
        · have e : (xs ++ rest).toArray.toList.take (n * i.size) ++ news ++ (xs ++ rest).toArray.toList.drop (n * i.size + news.length) = xs ++ news ++ rest.drop news.length := by
            simp only [List.append_assoc]
            rw [← hl, List.take_left, List.drop_length_add_append]
          rw [e] at s2
          rw [e]; exact s2
        · have := Nat.mul_le_mul_right i.size hroom
          rw [Nat.add_mul] at this
          simp only [List.length_append, List.length_drop]; omega
      · have hr := run_append_grow (P := P) w t ty T i z ht hi hz ⟨b, 0, none⟩ n cap xs hl (fun j u hj => by
            rw [addr_add, Nat.zero_add, s.cell]
            have := (List.getElem?_eq_some_iff.1 hj).1
            simpa [List.getElem?_append, this] using hj) ⟨xb, off, none⟩ m xc news hln hnews (by omega) (by omega) (growslice_fits (by omega) hbytes)
        exact ⟨_, _, hr, grown cap (by omega) s.tail, by simp⟩

/-- append, as an operation of a walk. -/
theorem wpList_append_st (h : St W0 w (ownS T size v n xs :: L))
    {xv : Value} {m : Nat} {news : List Value} (hx : rd w size xv m news) (h1 : ∀ u ∈ news, u.oneCell' = true)
    {i : TypeInfo} {z : Value} {bytes : Nat} (hi : P.info? T = some i) (hz : i.zero = some z)
    (hsize : i.size = size) (hby : i.bytes = bytes) (hzs : z.cells.size = size)
    (h63 : n + m ≤ maxLen) (hbytes : (n + m) * bytes ≤ 140737488355328)
    {t : TypeId} (ht : P.underlying t = some (.slice T))
    {ops : Array Oper} {rest : List Oper} {o : Oper} {a : Act} {Q : Exit → Act → World → Prop} (sl x : Operand)
    (hgd : o.guard = none) (ho : o.op = .call { callee := .builtin .append, args := #[sl, x], argTypes := #[t, t] })
    (hs : a.eval sl = v) (hxe : a.eval x = xv)
    (k : ∀ v' w', St W0 w' (ownS T size v' (n + m) (xs ++ news) :: L) → (v' = .slice none 0 0 ↔ v = .slice none 0 0 ∧ m = 0) → wpList P ops Q rest (a.put o.dst v') w') : wpList P ops Q (o :: rest) a w := by
  obtain ⟨v', w', hr, h2, h3⟩ := h.append (P := P) (ty := o.type) ht hi hz hsize hby hzs hx h1 h63 hbytes
  refine wpList_plain hgd fun K hK => ?_
  unfold Oper.wp execOp
  simp only [ho, resolve, invoke, builtin, Sem.run_bind, Sem.run_pure, Result.andThen_ok, List.map_toArray, List.map_cons, List.map_nil, hs, hxe, hr]
  exact hK _ _ (k v' w' h2 h3)
end

end Go.Proofs.Ytlpgekodoiioaaa
