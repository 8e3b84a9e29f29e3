/- Steps with what they yield said; calls with less said of their arguments. -/
import Derived.Test.YtjflembhgjcgkaaTP11Ac
set_option linter.unusedSimpArgs false
set_option linter.unusedVariables false
namespace Go.Proofs.Ytjflembhgjcgkaa
open Go.RowKit

theorem Runs.wk {P : Program} {f : FuncId} {args args' : List AV} {σ : List AObj} {post : AV → List AObj → Prop} (h : Runs P f args σ post) (hw : ∀ x us, ALRep x args' us → ALRep x args us) : Runs P f args' σ post :=
  ⟨h.1, fun B R x w vs a b c => h.2 B R x w vs (hw x vs a) b c⟩
section
variable {P : Program} {T : Tab} {Z : TabZ} {nt : Nat} {Q : Exit → Fr → List AObj → Prop} {next : Fr → List AObj → Prop} {fr : Fr} {σ σ' : List AObj} {ops : Array Oper} {dr : Bool} {dos ends : List Nat} {l : Trr} {i d : Nat} {o : Oper} {v : AV}
variable {dst : Option Tmp} {op : Op} {ty : TypeId} {pos : String} {aft : Array Edge} {gd : Option (Nat × Bool)}

theorem s_subV (r : Int) {t t' : TypeId} {a b : Operand} {m n : Int} (hp : dr = dr) (hg : guardB ops fr gd = some true) (ht : Nat.blt d nt = true) (ha : aget fr a = .d (.v (.int .i64 m))) (hb : aget fr b = .d (.v (.int .i64 n))) (hv : m - n = r ∧ -9223372036854775808 ≤ r ∧ r ≤ 9223372036854775807) (h : AL P nt ops dr dos ends l Q ((d, .d (.v (.int .i64 r))) :: fr) σ) : ALo P nt ops dr dos ends i ⟨some d, .binOp .sub t a b t', ty, pos, aft, gd⟩ l Q fr σ := by
  obtain ⟨rfl, h1, h2⟩ := hv
  exact ⟨fun ho => s_read ho hp hg ht (rd_sub64 rfl ha hb (by omega)) h⟩
theorem s_addV (r : Int) {t t' : TypeId} {a b : Operand} {m n : Int} (hp : dr = dr) (hg : guardB ops fr gd = some true) (ht : Nat.blt d nt = true) (ha : aget fr a = .d (.v (.int .i64 m))) (hb : aget fr b = .d (.v (.int .i64 n))) (hv : m + n = r ∧ -9223372036854775808 ≤ r ∧ r ≤ 9223372036854775807) (h : AL P nt ops dr dos ends l Q ((d, .d (.v (.int .i64 r))) :: fr) σ) : ALo P nt ops dr dos ends i ⟨some d, .binOp .add t a b t', ty, pos, aft, gd⟩ l Q fr σ := by
  obtain ⟨rfl, h1, h2⟩ := hv
  exact ⟨fun ho => s_read ho hp hg ht (rd_add64 rfl ha hb (by omega)) h⟩

theorem s_sliceOV (off' len' : Nat) (hT : okTab P T = true) {t e sz bytes loc ver off len : Nat} {agg : Bool} {a : Operand} {lo hi : Option Operand} {lw hg2 : Option Int} {U : TypeId} {rows : List (List DV)} (hp : dr = dr) (hg : guardB ops fr gd = some true) (ht : Nat.blt d nt = true) (ha : aget fr a = .own loc ver sz off len) (hs : find1 T.sl t = some e) (he : find1 T.ty e = some (sz, bytes, agg)) (hl : bndA fr lo = some lw) (hh : bndA fr hi = some hg2) (ho : σ[loc]? = some (.arr U sz ver rows)) (h3 : 0 ≤ lw.getD 0 ∧ lw.getD 0 ≤ hg2.getD len ∧ hg2.getD len ≤ len ∧ (lw.getD 0 = 0 ∨ lw.getD 0 < len)) (h4 : off + (lw.getD 0).toNat = off' ∧ (hg2.getD len).toNat - (lw.getD 0).toNat = len') (h : AL P nt ops dr dos ends l Q ((d, .own loc ver sz off' len') :: fr) σ) : ALo P nt ops dr dos ends i ⟨some d, .slice t a lo hi none, ty, pos, aft, gd⟩ l Q fr σ := by
  obtain ⟨rfl, rfl⟩ := h4
  exact s_sliceO hT hp hg ht ha hs he ho hl hh h3 h
end
end Go.Proofs.Ytjflembhgjcgkaa
