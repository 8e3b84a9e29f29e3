/- Steps with what they yield said; calls with less said of their arguments. -/
import Derived.Test.YtjflembhgjcgkaaAc
set_option linter.unusedSimpArgs false
set_option linter.unusedVariables false
namespace Go.Proofs.Ytjflembhgjcgkaa
open Go.RowKit

theorem Runs.wk {P : Program} {f : FuncId} {args args' : List AV} {σ : List AObj} {post : AV → List AObj → Prop} (h : Runs P f args σ post) (hw : ∀ x us, ALRep x args' us → ALRep x args us) : Runs P f args' σ post :=
  ⟨h.1, fun B R x w vs a b c => h.2 B R x w vs (hw x vs a) b c⟩
theorem awk_nil : ∀ x us, ALRep x [] us → ALRep x [] us := fun _ _ h => h
theorem awk_cons {a b : AV} {l m : List AV} (h : ∀ x u, ARep x a u → ARep x b u) (k : ∀ x us, ALRep x l us → ALRep x m us) : ∀ x us, ALRep x (a :: l) us → ALRep x (b :: m) us :=
  fun x _ ⟨u, us', e, r, q⟩ => ⟨u, us', e, h x u r, k x us' q⟩
theorem awk_d {a b : DV} (h : Wk a b) : ∀ x u, ARep x (.d a) u → ARep x (.d b) u := fun x u r => h x.F u r
theorem awk_same {a : AV} : ∀ x u, ARep x a u → ARep x a u := fun _ _ h => h

section
variable {P : Program} {T : Tab} {Z : TabZ} {nt : Nat} {Q : Exit → Fr → List AObj → Prop} {next : Fr → List AObj → Prop} {fr : Fr} {σ σ' : List AObj} {ops : Array Oper} {dr : Bool} {dos ends : List Nat} {l : Trr} {i d : Nat} {o : Oper} {v : AV}
variable {dst : Option Tmp} {op : Op} {ty : TypeId} {pos : String} {aft : Array Edge} {gd : Option (Nat × Bool)}

theorem s_subV (r : Int) {t t' : TypeId} {a b : Operand} {m n : Int} (hp : dr = dr) (hg : guardB ops fr gd = some true) (ht : Nat.blt d nt = true) (ha : aget fr a = .d (.v (.int .i64 m))) (hb : aget fr b = .d (.v (.int .i64 n))) (hv : m - n = r ∧ -9223372036854775808 ≤ r ∧ r ≤ 9223372036854775807) (h : AL P nt ops dr dos ends l Q ((d, .d (.v (.int .i64 r))) :: fr) σ) : ALo P nt ops dr dos ends i ⟨some d, .binOp .sub t a b t', ty, pos, aft, gd⟩ l Q fr σ := by
  obtain ⟨rfl, h1, h2⟩ := hv
  exact ⟨fun ho => s_read ho hp hg ht (rd_sub64 rfl ha hb (by omega)) h⟩
theorem s_addV (r : Int) {t t' : TypeId} {a b : Operand} {m n : Int} (hp : dr = dr) (hg : guardB ops fr gd = some true) (ht : Nat.blt d nt = true) (ha : aget fr a = .d (.v (.int .i64 m))) (hb : aget fr b = .d (.v (.int .i64 n))) (hv : m + n = r ∧ -9223372036854775808 ≤ r ∧ r ≤ 9223372036854775807) (h : AL P nt ops dr dos ends l Q ((d, .d (.v (.int .i64 r))) :: fr) σ) : ALo P nt ops dr dos ends i ⟨some d, .binOp .add t a b t', ty, pos, aft, gd⟩ l Q fr σ := by
  obtain ⟨rfl, h1, h2⟩ := hv
  exact ⟨fun ho => s_read ho hp hg ht (rd_add64 rfl ha hb (by omega)) h⟩

theorem s_sliceOV (off' len' : Nat) (hT : okTab P T = true) {t e sz bytes loc ver off len : Nat} {agg : Bool} {a : Operand} {lo hi : Option Operand} {lw hg2 : Option Int} {U : TypeId} {rows : List (List DV)} (hp : dr = dr) (hg : guardB ops fr gd = some true) (ht : Nat.blt d nt = true) (ha : aget fr a = .own loc ver sz off len) (hs : find1 T.sl t = some e) (he : find1 T.ty e = some (sz, bytes, agg)) (hl : bndA fr lo = some lw) (hh : bndA fr hi = some hg2) (ho : σ[loc]? = some (.arr U sz ver rows)) (h3 : 0 ≤ lw.getD 0 ∧ lw.getD 0 ≤ hg2.getD len ∧ hg2.getD len ≤ len ∧ (lw.getD 0 = 0 ∨ lw.getD 0 < len)) (h4 : off + (lw.getD 0).toNat = off' ∧ (hg2.getD len).toNat - (lw.getD 0).toNat = len') (h : AL P nt ops dr dos ends l Q ((d, .own loc ver sz off' len') :: fr) σ) : ALo P nt ops dr dos ends i ⟨some d, .slice t a lo hi none, ty, pos, aft, gd⟩ l Q fr σ := by
  obtain ⟨rfl, rfl⟩ := h4
  exact s_sliceO hT hp hg ht ha hs he ho hl hh h3 h
theorem s_sliceSV (r : ByteArray) {t : TypeId} {a : Operand} {lo hi : Option Operand} {s : ByteArray} {lw hg2 : Option Int} (hy : P.underlying t = some .string) (hp : dr = dr) (hg : guardB ops fr gd = some true) (ht : Nat.blt d nt = true) (ha : aget fr a = .d (.v (.string s))) (hl : bndA fr lo = some lw) (hh : bndA fr hi = some hg2) (h3 : 0 ≤ lw.getD 0 ∧ lw.getD 0 ≤ hg2.getD s.size ∧ hg2.getD s.size ≤ s.size) (h4 : s.extract (lw.getD 0).toNat (hg2.getD s.size).toNat = r) (h : AL P nt ops dr dos ends l Q ((d, .d (.v (.string r))) :: fr) σ) : ALo P nt ops dr dos ends i ⟨some d, .slice t a lo hi none, ty, pos, aft, gd⟩ l Q fr σ := by
  subst h4
  exact s_sliceS hy hp hg ht ha hl hh h3 h
theorem s_convBV (r : ByteArray) {t t' U : TypeId} {a : Operand} {rows : List (List DV)} {bs : List UInt8} (h1 : P.underlying t = some (.slice U)) (hu : P.underlying U = some (.int .u8)) (hd : P.underlying t' = some .string) (hp : dr = dr) (hg : guardB ops fr gd = some true) (ht : Nat.blt d nt = true) (hr : RowsOk fr σ 1 a rows) (hb : rows = bytesD bs) (hv : (⟨bs.toArray⟩ : ByteArray) = r) (h : AL P nt ops dr dos ends l Q ((d, .d (.v (.string r))) :: fr) σ) : ALo P nt ops dr dos ends i ⟨some d, .convert t t' a, ty, pos, aft, gd⟩ l Q fr σ := by
  subst hv
  exact s_convB h1 hu hd hp hg ht hr hb h
end
end Go.Proofs.Ytjflembhgjcgkaa
