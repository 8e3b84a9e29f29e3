/- NA: what the walks of layer 24's laws need: contracts' shapes, slots kept. -/
import Derived.Test.YtciciaikajdenaaQN25
import Derived.Test.YtciciaikajdenaaQN28
set_option linter.unusedSimpArgs false
set_option linter.unusedVariables false
namespace Go.Proofs.Ytciciaikajdenaa
open Go.RowKit

theorem keepA {P : Program} {nt : Nat} {Q : Exit → Fr → List AObj → Prop} {fr : Fr} {σ : List AObj} {ops : Array Oper} {b : Bool} {c : Code} (id : Nat) (ks : List Nat) {vs : List AV} {fr' : Fr} (hv : getO ks fr = some vs) (hf : seqL (ks.zip vs) some = some fr') (h : AWk P nt (.region id ops b) (thenQ (AWk P nt c Q) Q) fr' σ) : AWk P nt (.seq (.region id ops b) c) Q fr σ := w_keep ks hv hf (aw_seq h)
theorem KeptP.past2 {σ0 σ σ2 : List AObj} {L : Nat} (h : KeptP (fun _ => True) σ0 σ) (o : OutP (fun _ => True) σ0 L) (k : KeptP (· ≠ L) σ σ2) : KeptP (fun _ => True) σ0 σ2 := fun i ob hp e => k i ob (fun q => by subst q; exact o ob hp e) (h i ob hp e)
def Mut2 (f : FuncId) (more : List AV) (H : AHeap) (y : DV) (H' : AHeap) : Prop := ∀ (σ : List AObj) (loc : Nat), σ[loc]? = some (ho H) → Runs Try.prog f (.ptr loc 0 0 :: more) σ (fun r σ' => r = .d y ∧ σ'[loc]? = some (ho H') ∧ KeptP (· ≠ loc) σ σ')
def See2 (f : FuncId) (more : List AV) (H : AHeap) (y : DV) : Prop := ∀ (σ : List AObj) (loc : Nat), σ[loc]? = some (ho H) → Runs Try.prog f (.ptr loc 0 0 :: more) σ (fun r σ' => r = .d y ∧ KeptP (fun _ => True) σ σ')
def Look (f : FuncId) (H : AHeap) (y : DV) : Prop := ∀ (σ : List AObj) (loc : Nat), σ[loc]? = some (ho H) → Runs Try.prog f [.ptr loc 0 0] σ (fun r σ' => r = .d y ∧ σ' = σ)
def Known : Prop := ∀ σ, Runs Try.prog 42 [] σ (fun r σ' => r = .d (.v (.bool true)) ∧ KeptP (fun _ => True) σ σ')
def NewH (n : Int) (H : AHeap) : Prop := ∀ σ, Runs Try.prog 15 [.d (.v (.int .i64 n))] σ (fun v σ' => ∃ loc, v = .tup [.ptr loc 0 0, .d (.v (.int .i64 0))] ∧ Fresh σ loc (ho H) σ')
section
variable {P : Program} {nt : Nat} {Q : Exit → Fr → List AObj → Prop} {fr : Fr} {σ : List AObj} {ops : Array Oper} {dr : Bool} {dos ends : List Nat} {l : Trr} {i d : Nat} {ty : TypeId} {pos : String} {aft : Array Edge} {gd : Option (Nat × Bool)}
/-- A product. -/
theorem s_mulV (r : Int) {t t' : TypeId} {a b : Operand} {m n : Int} (hp : dr = dr) (hg : guardB ops fr gd = some true) (ht : Nat.blt d nt = true) (ha : aget fr a = .d (.v (.int .i64 m))) (hb : aget fr b = .d (.v (.int .i64 n))) (hv : m * n = r ∧ -9223372036854775808 ≤ r ∧ r ≤ 9223372036854775807) (h : AL P nt ops dr dos ends l Q ((d, .d (.v (.int .i64 r))) :: fr) σ) : ALo P nt ops dr dos ends i ⟨some d, .binOp .mul t a b t', ty, pos, aft, gd⟩ l Q fr σ := by
  obtain ⟨rfl, h1, h2⟩ := hv
  exact ⟨fun ho => s_read ho hp hg ht (rd_eqv (by rw [IntWalk.i64_in _ (by omega)]) (rd_int rfl ha hb rfl)) h⟩
end
end Go.Proofs.Ytciciaikajdenaa
