/- The arguments of a law, each read. -/
import Derived.Test.YtlpgekodoiioaaaOpenD
set_option linter.unusedVariables false
set_option linter.unusedSimpArgs false
namespace Go.Proofs.Ytlpgekodoiioaaa
open Go.ChangeShapes Go.WideShapes Go.ChangeAt Go.RowKit

def ReadsAll (P : Program) (w : World) : List TypeId → List Value → Prop
  | [], vs => vs = []
  | t :: ts, vs => ∃ v vs', vs = v :: vs' ∧ (∃ n, Reads P w n t v.cells.toList) ∧ ReadsAll P w ts vs'

theorem trodAll_reads {H : Type} {enc : TypeId × Value → H} {P : Program} {w : World} {base : Nat} {sp : Nat → Bool} {held : Bool} : ∀ {ts : List TypeId} {vs : List Value} {ds : List (DataW H)} {ps : List MemPlace},
    DataW.TrodAll enc P w base sp held ts vs ds ps → ReadsAll P w ts vs ∧ ds.length = ts.length
  | [], vs, ds, ps, h => by
    obtain ⟨h1, rfl, rfl⟩ := trodAll_nil h
    exact ⟨show vs = [] by simpa using h1, rfl⟩
  | t :: ts, vs, ds, ps, h => by
    obtain ⟨v, vs', d, ds', p, q, e, rfl, rfl, hd, hr⟩ := trodAll_cons h
    obtain ⟨k1, k2⟩ := trodAll_reads hr
    obtain ⟨n, hn⟩ := hd
    exact ⟨⟨v, vs', e, ⟨n, Reads.mk hn⟩, k1⟩, by simp [k2]⟩

theorem Reads.cell {P : Program} {w : World} {n : Nat} {t : TypeId} {v u : Value} (h : v.cells.toList = [u]) (hu : ∀ cs, v ≠ .agg cs) : v = u := by
  cases v <;> simp_all [Value.cells]
end Go.Proofs.Ytlpgekodoiioaaa
