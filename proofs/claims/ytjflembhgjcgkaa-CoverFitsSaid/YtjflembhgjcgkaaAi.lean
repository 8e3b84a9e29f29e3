/- Ai: comparisons that part the way in two. -/
import Derived.Test.YtjflembhgjcgkaaAh
set_option linter.unusedSimpArgs false
set_option linter.unusedVariables false
namespace Go.Proofs.Ytjflembhgjcgkaa
open Go.RowKit

section
variable {P : Program} {T : Tab} {Z : TabZ} {nt : Nat} {Q : Exit → Fr → List AObj → Prop} {fr : Fr} {σ : List AObj} {ops : Array Oper} {dr : Bool} {dos ends : List Nat} {l : Trr} {i d : Nat}
variable {ty : TypeId} {pos : String} {aft : Array Edge} {gd : Option (Nat × Bool)}
theorem s_eqlS {t t' : TypeId} {a b : Operand} {k : IntKind} {m n : Int} (hp : dr = dr) (hg : guardB ops fr gd = some true) (ht : Nat.blt d nt = true) (ha : aget fr a = .d (.v (.int k m))) (hb : aget fr b = .d (.v (.int k n))) (h1 : m = n → AL P nt ops dr dos ends l Q ((d, .d (.v (.bool true))) :: fr) σ) (h2 : m ≠ n → AL P nt ops dr dos ends l Q ((d, .d (.v (.bool false))) :: fr) σ) : ALo P nt ops dr dos ends i ⟨some d, .binOp .eql t a b t', ty, pos, aft, gd⟩ l Q fr σ := by
  by_cases e : m = n
  · exact s_eql_t hp hg ht ha hb e (h1 e)
  · exact s_eql_f hp hg ht ha hb (by omega) (h2 (by omega))
theorem s_neqS {t t' : TypeId} {a b : Operand} {k : IntKind} {m n : Int} (hp : dr = dr) (hg : guardB ops fr gd = some true) (ht : Nat.blt d nt = true) (ha : aget fr a = .d (.v (.int k m))) (hb : aget fr b = .d (.v (.int k n))) (h1 : m ≠ n → AL P nt ops dr dos ends l Q ((d, .d (.v (.bool true))) :: fr) σ) (h2 : m = n → AL P nt ops dr dos ends l Q ((d, .d (.v (.bool false))) :: fr) σ) : ALo P nt ops dr dos ends i ⟨some d, .binOp .neq t a b t', ty, pos, aft, gd⟩ l Q fr σ := by
  by_cases e : m ≠ n
  · exact s_neq_t hp hg ht ha hb e (h1 e)
  · exact s_neq_f hp hg ht ha hb (by omega) (h2 (by omega))
theorem s_lssS {t t' : TypeId} {a b : Operand} {k : IntKind} {m n : Int} (hp : dr = dr) (hg : guardB ops fr gd = some true) (ht : Nat.blt d nt = true) (ha : aget fr a = .d (.v (.int k m))) (hb : aget fr b = .d (.v (.int k n))) (h1 : m < n → AL P nt ops dr dos ends l Q ((d, .d (.v (.bool true))) :: fr) σ) (h2 : n ≤ m → AL P nt ops dr dos ends l Q ((d, .d (.v (.bool false))) :: fr) σ) : ALo P nt ops dr dos ends i ⟨some d, .binOp .lss t a b t', ty, pos, aft, gd⟩ l Q fr σ := by
  by_cases e : m < n
  · exact s_lss_t hp hg ht ha hb e (h1 e)
  · exact s_lss_f hp hg ht ha hb (by omega) (h2 (by omega))
theorem s_gtrS {t t' : TypeId} {a b : Operand} {k : IntKind} {m n : Int} (hp : dr = dr) (hg : guardB ops fr gd = some true) (ht : Nat.blt d nt = true) (ha : aget fr a = .d (.v (.int k m))) (hb : aget fr b = .d (.v (.int k n))) (h1 : n < m → AL P nt ops dr dos ends l Q ((d, .d (.v (.bool true))) :: fr) σ) (h2 : m ≤ n → AL P nt ops dr dos ends l Q ((d, .d (.v (.bool false))) :: fr) σ) : ALo P nt ops dr dos ends i ⟨some d, .binOp .gtr t a b t', ty, pos, aft, gd⟩ l Q fr σ := by
  by_cases e : n < m
  · exact s_gtr_t hp hg ht ha hb e (h1 e)
  · exact s_gtr_f hp hg ht ha hb (by omega) (h2 (by omega))
theorem s_leqS {t t' : TypeId} {a b : Operand} {k : IntKind} {m n : Int} (hp : dr = dr) (hg : guardB ops fr gd = some true) (ht : Nat.blt d nt = true) (ha : aget fr a = .d (.v (.int k m))) (hb : aget fr b = .d (.v (.int k n))) (h1 : m ≤ n → AL P nt ops dr dos ends l Q ((d, .d (.v (.bool true))) :: fr) σ) (h2 : n < m → AL P nt ops dr dos ends l Q ((d, .d (.v (.bool false))) :: fr) σ) : ALo P nt ops dr dos ends i ⟨some d, .binOp .leq t a b t', ty, pos, aft, gd⟩ l Q fr σ := by
  by_cases e : m ≤ n
  · exact s_leq_t hp hg ht ha hb e (h1 e)
  · exact s_leq_f hp hg ht ha hb (by omega) (h2 (by omega))
theorem s_geqS {t t' : TypeId} {a b : Operand} {k : IntKind} {m n : Int} (hp : dr = dr) (hg : guardB ops fr gd = some true) (ht : Nat.blt d nt = true) (ha : aget fr a = .d (.v (.int k m))) (hb : aget fr b = .d (.v (.int k n))) (h1 : n ≤ m → AL P nt ops dr dos ends l Q ((d, .d (.v (.bool true))) :: fr) σ) (h2 : m < n → AL P nt ops dr dos ends l Q ((d, .d (.v (.bool false))) :: fr) σ) : ALo P nt ops dr dos ends i ⟨some d, .binOp .geq t a b t', ty, pos, aft, gd⟩ l Q fr σ := by
  by_cases e : n ≤ m
  · exact s_geq_t hp hg ht ha hb e (h1 e)
  · exact s_geq_f hp hg ht ha hb (by omega) (h2 (by omega))
theorem s_streqS {t t' : TypeId} {a b : Operand} {m n : ByteArray} (hp : dr = dr) (hg : guardB ops fr gd = some true) (ht : Nat.blt d nt = true) (ha : aget fr a = .d (.v (.string m))) (hb : aget fr b = .d (.v (.string n))) (h1 : m = n → AL P nt ops dr dos ends l Q ((d, .d (.v (.bool true))) :: fr) σ) (h2 : m ≠ n → AL P nt ops dr dos ends l Q ((d, .d (.v (.bool false))) :: fr) σ) : ALo P nt ops dr dos ends i ⟨some d, .binOp .eql t a b t', ty, pos, aft, gd⟩ l Q fr σ := by
  by_cases e : m = n
  · exact s_streq_t hp hg ht ha hb e (h1 e)
  · exact s_streq_f hp hg ht ha hb e (h2 e)
theorem s_strneS {t t' : TypeId} {a b : Operand} {m n : ByteArray} (hp : dr = dr) (hg : guardB ops fr gd = some true) (ht : Nat.blt d nt = true) (ha : aget fr a = .d (.v (.string m))) (hb : aget fr b = .d (.v (.string n))) (h1 : m ≠ n → AL P nt ops dr dos ends l Q ((d, .d (.v (.bool true))) :: fr) σ) (h2 : m = n → AL P nt ops dr dos ends l Q ((d, .d (.v (.bool false))) :: fr) σ) : ALo P nt ops dr dos ends i ⟨some d, .binOp .neq t a b t', ty, pos, aft, gd⟩ l Q fr σ := by
  by_cases e : m = n
  · exact s_strne_f hp hg ht ha hb e (h2 e)
  · exact s_strne_t hp hg ht ha hb e (h1 e)
end
end Go.Proofs.Ytjflembhgjcgkaa
