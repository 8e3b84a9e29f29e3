/- Ak: a drawn region's order, checked by numbers (for regions of many operations). -/
import Derived.Test.YtjflembhgjcgkaaTP11Aa
set_option linter.unusedSimpArgs false
set_option linter.unusedVariables false
namespace Go.Proofs.Ytjflembhgjcgkaa

def bitN (m i : Nat) : Bool := Nat.beq (Nat.land (Nat.shiftRight m i) 1) 1
theorem bitN_eq (m i : Nat) : bitN m i = m.testBit i := by
  rw [Nat.testBit_eq_decide_div_mod_eq]
  have e : Nat.land (Nat.shiftRight m i) 1 = m / 2 ^ i % 2 := by
    have h : (m >>> i) &&& 1 = (m >>> i) % 2 := Nat.and_one_is_mod _
    rw [Nat.shiftRight_eq_div_pow] at h
    have h' : Nat.land (Nat.shiftRight m i) 1 = (m >>> i) &&& 1 := rfl
    rw [h', Nat.shiftRight_eq_div_pow]
    exact h
  unfold bitN
  rw [e]
  rcases Nat.mod_two_eq_zero_or_one (m / 2 ^ i) with h | h <;> rw [h] <;> rfl

def orN (md : Region.Mode) : List Edge → Nat → Nat
  | [], m => m
  | e :: l, m => match Region.binds md e with
    | true => orN md l (Nat.lor m (Nat.shiftLeft 1 e.on))
    | false => orN md l m
theorem orN_bit (md : Region.Mode) : ∀ (l : List Edge) (m j : Nat), (orN md l m).testBit j = true ↔ m.testBit j = true ∨ ∃ e ∈ l, Region.binds md e = true ∧ e.on = j
  | [], m, j => by simp [orN]
  | e :: l, m, j => by
    unfold orN
    have e1 : Nat.lor m (Nat.shiftLeft 1 e.on) = m ||| (1 <<< e.on) := rfl
    cases hb : Region.binds md e with
    | true =>
      rw [orN_bit md l, e1, Nat.testBit_or, Nat.one_shiftLeft, Nat.testBit_two_pow]
      simp [hb]
      constructor
      · rintro ((h | h) | h)
        · exact .inl h
        · exact .inr (.inl h)
        · exact .inr (.inr h)
      · rintro (h | h | h)
        · exact .inl (.inl h)
        · exact .inl (.inr h)
        · exact .inr h
    | false =>
      rw [orN_bit md l]
      simp [hb]
def needN (md : Region.Mode) (o : Oper) : Nat := orN md o.after.toList 0
theorem needN_bit {md : Region.Mode} {o : Oper} {j : Nat} : (needN md o).testBit j = true ↔ ∃ e ∈ o.after.toList, Region.binds md e = true ∧ e.on = j := by
  unfold needN
  rw [orN_bit]
  simp

structure MaskOf (ops : Array Oper) (listed : Array Bool) (m : Nat) : Prop where
  size : listed.size = ops.size
  bit : ∀ j, listed.getD j false = m.testBit j

def readyN : List Nat → Nat → Nat → List Nat
  | [], _, _ => []
  | k :: t, i, m => match bitN m i with
    | true => readyN t (Nat.succ i) m
    | false => match Nat.beq (Nat.land k m) k with
      | true => i :: readyN t (Nat.succ i) m
      | false => readyN t (Nat.succ i) m

theorem sub_bits {k m : Nat} : Nat.beq (Nat.land k m) k = true ↔ ∀ j, k.testBit j = true → m.testBit j = true := by
  have e : Nat.land k m = k &&& m := rfl
  rw [e, Nat.beq_eq]
  constructor
  · intro h j hj
    have := Nat.testBit_and k m j
    rw [h, hj] at this
    simpa using this.symm
  · intro h
    apply Nat.eq_of_testBit_eq
    intro j
    rw [Nat.testBit_and]
    cases hk : k.testBit j with
    | false => rfl
    | true => rw [h j hk]; rfl

section
variable {md : Region.Mode} {ops : Array Oper} {listed : Array Bool} {m : Nat}
theorem ready_key (h : MaskOf ops listed m) : ∀ (L : List Oper) (s : Nat), (∀ i o, L[i]? = some o → ops[s + i]? = some o) → s + L.length ≤ ops.size →
    (List.range' s L.length).filter (fun i => !listed.getD i true && ((ops[i]?).map (·.after.all fun e => !Region.binds md e || listed.getD e.on false)).getD false) = readyN (L.map (needN md)) s m
  | [], s, _, _ => rfl
  | o :: L, s, ho, hs => by
    have h0 := ho 0 o rfl
    rw [Nat.add_zero] at h0
    have hlt : s < listed.size := by rw [h.size]; simp at hs; omega
    have hb : listed.getD s true = bitN m s := by
      rw [bitN_eq, ← h.bit s]
      simp [Array.getD, hlt]
    have ih := ready_key h L (s + 1) (fun i o' e => by have := ho (i + 1) o' (by simpa using e); rwa [show s + (i + 1) = s + 1 + i from by omega] at this) (by simp at hs; omega)
    rw [List.length_cons, List.range'_succ, List.filter_cons, ih, hb, h0]
    have ha : (o.after.all fun e => !Region.binds md e || listed.getD e.on false) = Nat.beq (Nat.land (needN md o) m) (needN md o) := by
      rw [Bool.eq_iff_iff, sub_bits, Array.all_eq_true']
      constructor
      · intro hh j hj
        obtain ⟨e, he, h1, h2⟩ := needN_bit.1 hj
        have := hh e (by simpa using he)
        rw [h1, h2, h.bit j] at this
        simpa using this
      · intro hh e he
        cases hbd : Region.binds md e with
        | false => rfl
        | true =>
          rw [h.bit, hh e.on (needN_bit.2 ⟨e, by simpa using he, hbd, rfl⟩)]
          rfl
    simp only [Option.map_some, Option.getD_some, ha, List.map_cons, readyN]
    cases bitN m s <;> cases Nat.beq (Nat.land (needN md o) m) (needN md o) <;> simp
theorem ready_eq (h : MaskOf ops listed m) : Region.ready md ops listed = readyN (ops.toList.map (needN md)) 0 m := by
  have := ready_key (md := md) h ops.toList 0 (fun i o e => by rw [Nat.zero_add]; simpa using e) (by simp)
  unfold Region.ready
  rw [List.range_eq_range']
  simpa using this

def freeOK (md : Region.Mode) (ops : Array Oper) (i f : Nat) : Bool :=
  match ops[i]? with
  | none => false
  | some oi => (List.range ops.size).all fun j => !bitN f j || (j == i || match ops[j]? with
      | some oj => oj.after.any (fun e => Region.binds md e && e.on == i) || oi.apart ops oj
      | none => true)
theorem free_of {i f : Nat} (h : MaskOf ops listed m) (hf : freeOK md ops i f = true) (hc : Nat.beq (Nat.land (Nat.sub (Nat.pow 2 ops.size) 1) (Nat.lor m f)) (Nat.sub (Nat.pow 2 ops.size) 1) = true) : Region.free md ops listed i = true := by
  unfold freeOK at hf
  unfold Region.free
  split at hf
  · cases hf
  · rename_i oi ho
    rw [ho]
    simp only [List.all_eq_true, List.mem_range] at hf ⊢
    intro j hj
    have h1 := sub_bits.1 hc j (by
      have e : Nat.sub (Nat.pow 2 ops.size) 1 = 2 ^ ops.size - 1 := rfl
      rw [e, Nat.testBit_two_pow_sub_one]
      simpa using hj)
    have e2 : Nat.lor m f = m ||| f := rfl
    rw [e2, Nat.testBit_or, Bool.or_eq_true] at h1
    have hlt : j < listed.size := by rw [h.size]; exact hj
    rcases h1 with h1 | h1
    · rw [← h.bit j] at h1
      have : listed.getD j true = true := by
        simp [Array.getD, hlt] at h1 ⊢
        exact h1
      rw [this]
      simp
    · have h2 := hf j hj
      rw [bitN_eq, h1] at h2
      simp only [Bool.not_true, Bool.false_or] at h2
      revert h2
      cases (j == i) <;> cases listed.getD j true <;> simp <;> exact fun h => h
theorem MaskOf.set {i : Nat} (h : MaskOf ops listed m) (hi : i < ops.size) : MaskOf ops (listed.setIfInBounds i true) (Nat.lor m (Nat.shiftLeft 1 i)) := by
  refine ⟨by rw [Array.size_setIfInBounds]; exact h.size, fun j => ?_⟩
  have e1 : Nat.lor m (Nat.shiftLeft 1 i) = m ||| (1 <<< i) := rfl
  rw [e1, Nat.testBit_or, Nat.one_shiftLeft, Nat.testBit_two_pow, ← h.bit j]
  have hs := h.size
  by_cases e : i = j
  · subst e
    simp [Array.getD, hs, hi]
  · simp only [Array.getD, Array.size_setIfInBounds]
    split
    · rename_i hj
      simp [Array.getElem_setIfInBounds, e, hj]
    · simp [e]
theorem readyN_lt : ∀ {l : List Nat} {s m i : Nat}, i ∈ readyN l s m → i < s + l.length
  | [], _, _, _, h => by cases h
  | k :: t, s, m, i, h => by
    have e : Nat.succ s = s + 1 := rfl
    unfold readyN at h
    rw [List.length_cons]
    split at h
    · have := readyN_lt h; omega
    · split at h
      · rcases List.mem_cons.1 h with rfl | h
        · omega
        · have := readyN_lt h; omega
      · have := readyN_lt h; omega

def eqNs : List Nat → List Nat → Bool
  | [], [] => true
  | a :: l, b :: k => match Nat.beq a b with | true => eqNs l k | false => false
  | _, _ => false
theorem eqNs_eq : ∀ {l k : List Nat}, eqNs l k = true → l = k
  | [], [], _ => rfl
  | a :: l, b :: k, h => by
    unfold eqNs at h
    split at h
    · rename_i e
      rw [Nat.eq_of_beq_eq_true e, eqNs_eq h]
    · cases h
  | [], _ :: _, h => by simp [eqNs] at h
  | _ :: _, [], h => by simp [eqNs] at h
def memN (i : Nat) : List Nat → Bool
  | [] => false
  | a :: l => match Nat.beq i a with | true => true | false => memN i l
theorem memN_mem {i : Nat} : ∀ {l : List Nat}, memN i l = true → i ∈ l
  | [], h => by cases h
  | a :: l, h => by
    unfold memN at h
    split at h
    · rename_i e
      rw [Nat.eq_of_beq_eq_true e]; exact List.mem_cons_self ..
    · exact List.mem_cons_of_mem _ (memN_mem h)

def walkN (tab fs dos : List Nat) (full : Nat) : Trr → Nat → Nat → Bool
  | .nil, n, m => Nat.beq n 0 && (readyN tab 0 m).isEmpty
  | .one _ _, 0, _ => false
  | .one i r, n + 1, m => (match dos.contains i with
      | true => eqNs (readyN tab 0 m) [i]
      | false => memN i (readyN tab 0 m) && Nat.beq (Nat.land full (Nat.lor m (fs.getD i 0))) full) && walkN tab fs dos full r n (Nat.lor m (Nat.shiftLeft 1 i))
  | .fork _ _ _ _, 0, _ => false
  | .fork i r j s, n + 1, m => eqNs (readyN tab 0 m) [i, j] && dos.contains i && dos.contains j && walkN tab fs dos full r n (Nat.lor m (Nat.shiftLeft 1 i)) && walkN tab fs dos full s n (Nat.lor m (Nat.shiftLeft 1 j))
  | .fork3 _ _ _ _ _ _, 0, _ => false
  | .fork3 i r j s k t, n + 1, m => eqNs (readyN tab 0 m) [i, j, k] && dos.contains i && dos.contains j && dos.contains k && walkN tab fs dos full r n (Nat.lor m (Nat.shiftLeft 1 i)) && walkN tab fs dos full s n (Nat.lor m (Nat.shiftLeft 1 j)) && walkN tab fs dos full t n (Nat.lor m (Nat.shiftLeft 1 k))
  | .fork4 _ _ _ _ _ _ _ _, 0, _ => false
  | .fork4 i r j s k t p u, n + 1, m => eqNs (readyN tab 0 m) [i, j, k, p] && dos.contains i && dos.contains j && dos.contains k && dos.contains p && walkN tab fs dos full r n (Nat.lor m (Nat.shiftLeft 1 i)) && walkN tab fs dos full s n (Nat.lor m (Nat.shiftLeft 1 j)) && walkN tab fs dos full t n (Nat.lor m (Nat.shiftLeft 1 k)) && walkN tab fs dos full u n (Nat.lor m (Nat.shiftLeft 1 p))

theorem walkN_ok {fs dos : List Nat} (hf : ∀ i, i < ops.size → dos.contains i = false → freeOK md ops i (fs.getD i 0) = true) :
    ∀ (t : Trr) (n : Nat) (listed : Array Bool) (m : Nat), MaskOf ops listed m → walkN (ops.toList.map (needN md)) fs dos (Nat.sub (Nat.pow 2 ops.size) 1) t n m = true → walkT md ops dos [] t n listed = true
  | .nil, n, listed, m, h, hB => by
    unfold walkN at hB
    unfold walkT
    rw [ready_eq h]; exact hB
  | .one _ _, 0, _, _, _, hB => by simp [walkN] at hB
  | .one i r, n + 1, listed, m, h, hB => by
    unfold walkN at hB
    unfold walkT
    rw [Bool.and_eq_true] at hB ⊢
    have hi : i ∈ readyN (ops.toList.map (needN md)) 0 m := by
      have := hB.1
      split at this
      · rw [eqNs_eq this]; exact List.mem_singleton.2 rfl
      · rw [Bool.and_eq_true] at this; exact memN_mem this.1
    have hlt : i < ops.size := by have := readyN_lt hi; simpa using this
    refine ⟨?_, walkN_ok hf r n _ _ (h.set hlt) hB.2⟩
    have h1 := hB.1
    cases hd : dos.contains i with
    | true =>
      rw [hd] at h1
      rw [if_pos rfl, ready_eq h, eqNs_eq h1]
      simp
    | false =>
      rw [hd] at h1
      simp only [Bool.and_eq_true] at h1
      rw [if_neg (by simp), ready_eq h, free_of h (hf i hlt hd) h1.2]
      simp [hi]
  | .fork _ _ _ _, 0, _, _, _, hB => by simp [walkN] at hB
  | .fork i r j s, n + 1, listed, m, h, hB => by
    unfold walkN at hB
    unfold walkT
    simp only [Bool.and_eq_true] at hB ⊢
    obtain ⟨⟨⟨⟨h1, h2⟩, h3⟩, h4⟩, h5⟩ := hB
    have e := eqNs_eq h1
    have hl : ∀ k ∈ readyN (ops.toList.map (needN md)) 0 m, k < ops.size := fun k hk => by simpa using readyN_lt hk
    rw [e] at hl
    exact ⟨⟨⟨⟨by rw [ready_eq h, e]; simp, h2⟩, h3⟩, walkN_ok hf r n _ _ (h.set (hl i (by simp))) h4⟩, walkN_ok hf s n _ _ (h.set (hl j (by simp))) h5⟩
  | .fork3 _ _ _ _ _ _, 0, _, _, _, hB => by simp [walkN] at hB
  | .fork3 i r j s k t, n + 1, listed, m, h, hB => by
    unfold walkN at hB
    unfold walkT
    simp only [Bool.and_eq_true] at hB ⊢
    obtain ⟨⟨⟨⟨⟨⟨h1, h2⟩, h3⟩, h4⟩, h5⟩, h6⟩, h7⟩ := hB
    have e := eqNs_eq h1
    have hl : ∀ k ∈ readyN (ops.toList.map (needN md)) 0 m, k < ops.size := fun k hk => by simpa using readyN_lt hk
    rw [e] at hl
    exact ⟨⟨⟨⟨⟨⟨by rw [ready_eq h, e]; simp, h2⟩, h3⟩, h4⟩, walkN_ok hf r n _ _ (h.set (hl i (by simp))) h5⟩, walkN_ok hf s n _ _ (h.set (hl j (by simp))) h6⟩, walkN_ok hf t n _ _ (h.set (hl k (by simp))) h7⟩
  | .fork4 _ _ _ _ _ _ _ _, 0, _, _, _, hB => by simp [walkN] at hB
  | .fork4 i r j s k t p u, n + 1, listed, m, h, hB => by
    unfold walkN at hB
    unfold walkT
    simp only [Bool.and_eq_true] at hB ⊢
    obtain ⟨⟨⟨⟨⟨⟨⟨⟨h1, h2⟩, h3⟩, h4⟩, h5⟩, h6⟩, h7⟩, h8⟩, h9⟩ := hB
    have e := eqNs_eq h1
    have hl : ∀ k ∈ readyN (ops.toList.map (needN md)) 0 m, k < ops.size := fun k hk => by simpa using readyN_lt hk
    rw [e] at hl
    exact ⟨⟨⟨⟨⟨⟨⟨⟨by rw [ready_eq h, e]; simp, h2⟩, h3⟩, h4⟩, h5⟩, walkN_ok hf r n _ _ (h.set (hl i (by simp))) h6⟩, walkN_ok hf s n _ _ (h.set (hl j (by simp))) h7⟩, walkN_ok hf t n _ _ (h.set (hl k (by simp))) h8⟩, walkN_ok hf u n _ _ (h.set (hl p (by simp))) h9⟩
end

/-- All that the kernel is asked of a region and an order, by numbers. -/
def orderN (ops : Array Oper) (dos fs : List Nat) (t : Trr) : Bool :=
  Region.noSelect ops && ((List.range ops.size).all fun i => dos.contains i || freeOK .any ops i (fs.getD i 0)) && walkN (ops.toList.map (needN .any)) fs dos (Nat.sub (Nat.pow 2 ops.size) 1) t ops.size 0
theorem orderN_ok {ops : Array Oper} {dos : List Nat} (fs : List Nat) {t : Trr} (h : orderN ops dos fs t = true) : orderT ops dos [] t = true := by
  unfold orderN at h
  simp only [Bool.and_eq_true, List.all_eq_true, List.mem_range, Bool.or_eq_true] at h
  obtain ⟨⟨h1, h2⟩, h3⟩ := h
  unfold orderT
  rw [h1, Bool.true_and]
  refine walkN_ok (fun i hi hd => ?_) t _ _ 0 ⟨by simp, fun j => ?_⟩ h3
  · rcases h2 i hi with h | h
    · rw [hd] at h; cases h
    · exact h
  · simp [Array.getD]
end Go.Proofs.Ytjflembhgjcgkaa
