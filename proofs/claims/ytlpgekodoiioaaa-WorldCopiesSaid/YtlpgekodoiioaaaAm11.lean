/- Tables of zeros and of structs. -/
import Derived.Test.YtlpgekodoiioaaaAm10
set_option linter.unusedSimpArgs false
set_option linter.unusedVariables false
namespace Go.Proofs.Ytlpgekodoiioaaa
open Go.RowKit

def sameV : Value → Value → Bool
  | .bool a, .bool b => a == b
  | .int k a, .int j b => decide (k = j) && decide (a = b)
  | .string a, .string b => decide (a.data.toList = b.data.toList)
  | .pointer none, .pointer none => true
  | .slice none a b, .slice none c d => Nat.beq a c && Nat.beq b d
  | .map none, .map none => true
  | .nilFunc, .nilFunc => true
  | .nilIface, .nilIface => true
  | _, _ => false

theorem sameV_eq : ∀ {a b : Value}, sameV a b = true → a = b := by
  intro a b h
  unfold sameV at h
  split at h
  · simp at h; subst h; rfl
  · simp at h; obtain ⟨h1, h2⟩ := h; subst h1 h2; rfl
  · simp at h
    rename_i a b
    obtain ⟨⟨a⟩⟩ := a
    obtain ⟨⟨b⟩⟩ := b
    simp at h; subst h; rfl
  · rfl
  · simp only [Bool.and_eq_true] at h; rw [Nat.eq_of_beq_eq_true h.1, Nat.eq_of_beq_eq_true h.2]
  · rfl
  · rfl
  · rfl
  · cases h

def sameL : List Value → List Value → Bool
  | [], [] => true
  | a :: l, b :: m => sameV a b && sameL l m
  | _, _ => false
theorem sameL_eq : ∀ {a b : List Value}, sameL a b = true → a = b
  | [], [], _ => rfl
  | a :: l, b :: m, h => by
    simp only [sameL, Bool.and_eq_true] at h
    rw [sameV_eq h.1, sameL_eq h.2]
  | [], _ :: _, h => by cases h
  | _ :: _, [], h => by cases h

def sameP : List (Nat × Nat) → List (Nat × Nat) → Bool
  | [], [] => true
  | a :: l, b :: m => Nat.beq a.1 b.1 && Nat.beq a.2 b.2 && sameP l m
  | _, _ => false
theorem sameP_eq : ∀ {a b : List (Nat × Nat)}, sameP a b = true → a = b
  | [], [], _ => rfl
  | (a, a') :: l, (b, b') :: m, h => by
    simp only [sameP, Bool.and_eq_true] at h
    rw [Nat.eq_of_beq_eq_true h.1.1, Nat.eq_of_beq_eq_true h.1.2, sameP_eq h.2]
  | [], _ :: _, h => by cases h
  | _ :: _, [], h => by cases h

def okZ (P : Program) (r : Nat × List Value) : Bool := match P.info? r.1 with
  | some i => match i.zero with
    | some z => sameL z.cells.toList r.2 && r.2.all (·.oneCell')
    | none => false
  | none => false

theorem zOf {P : Program} {t : Nat} {z : List Value} (h : okZ P (t, z) = true) : ZIs P t z := by
  unfold okZ at h
  simp only at h
  split at h
  · rename_i i e1
    split at h
    · rename_i zv e2
      rw [Bool.and_eq_true] at h
      exact ⟨⟨i, zv, e1, e2, sameL_eq h.1⟩, h.2⟩
    · cases h
  · cases h

def okSt (P : Program) (r : Nat × List (Nat × Nat) × List Value) : Bool := match P.underlying r.1 with
  | some (.struct fs) => okZ P (r.1, r.2.2) && (match fs.toList.mapM (fun f => (P.info? f.type).map fun i => (f.offset, i.size)) with | some pl => sameP pl r.2.1 | none => false)
  | _ => false

theorem stOf {P : Program} {t : Nat} {pl : List (Nat × Nat)} {z : List Value} (h : okSt P (t, pl, z) = true) : StIs P t pl z := by
  unfold okSt at h
  simp only at h
  split at h
  · rename_i fs e1
    rw [Bool.and_eq_true] at h
    obtain ⟨i, zv, e2, e3, e4⟩ := (zOf h.1).ex
    have h2 := h.2
    split at h2
    · rename_i pl' e5
      have := sameP_eq h2
      subst this
      exact ⟨⟨i, fs, zv, e2, e1, e3, e4, e5⟩, (zOf h.1).one⟩
    · cases h2
  · cases h

/-- The zeros, the structs. -/
structure TabZ where
  zs : List (Nat × List Value)
  st : List (Nat × List (Nat × Nat) × List Value)
def okTabZ (P : Program) (Z : TabZ) : Bool := Z.zs.all (okZ P) && Z.st.all (okSt P)

theorem TabZ.z {P : Program} {Z : TabZ} (h : okTabZ P Z = true) {t : Nat} {z : List Value} (e : find1 Z.zs t = some z) : ZIs P t z := by
  unfold okTabZ at h
  rw [Bool.and_eq_true] at h
  exact zOf (List.all_eq_true.1 h.1 _ (find1_mem e))
theorem TabZ.s {P : Program} {Z : TabZ} (h : okTabZ P Z = true) {t : Nat} {pl : List (Nat × Nat)} {z : List Value} (e : find1 Z.st t = some (pl, z)) : StIs P t pl z := by
  unfold okTabZ at h
  rw [Bool.and_eq_true] at h
  exact stOf (List.all_eq_true.1 h.2 _ (find1_mem e))

/-- The numbers from i on. -/
def upto : Nat → Nat → Trr
  | 0, _ => .nil
  | n + 1, i => .one i (upto n (i + 1))

theorem upto_range : ∀ n i, upto n i = trOf (List.range' i n)
  | 0, _ => rfl
  | n + 1, i => by rw [upto, List.range'_succ, upto_range n (i + 1)]; rfl

theorem aw_reg {P : Program} {nt : Nat} {Q : Exit → Fr → List AObj → Prop} {fr : Fr} {σ : List AObj} {ops : Array Oper} {id : Nat} (h : AL P nt ops false [] [] (upto ops.size 0) Q fr σ) : AWk P nt (.region id ops false) Q fr σ := by
  refine aw_region ?_
  rw [List.range_eq_range', ← upto_range]; exact h

end Go.Proofs.Ytlpgekodoiioaaa
