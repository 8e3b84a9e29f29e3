/- New, and the nil receivers, for the abstract walk. -/
import Derived.Test.YtlpgekodoiioaaaR1
set_option linter.unusedSimpArgs false
set_option linter.unusedVariables false
namespace Go.Proofs.Ytlpgekodoiioaaa
open Go.RowKit

section
variable {σ σ2 : List AObj} {loc : Nat} {W W' : AW} {F : FuncId} {args : List DV} {vals : List Value} {res : DV} {resV : Value}

theorem runsP_same (hgo : isGo Try.prog F = true) (hargs : Plain args vals) (hres : ∀ G, DRep G res resV)
    (hc : ∀ (w : World), Calls Try.prog F vals.toArray w fun e w' => e = .returned resV ∧ Below w.heap.size w w') :
    RunsP Try.prog F args (fun v => v = res) := by
  refine ⟨hgo, fun B F0 w vs ha hF hca => ?_⟩
  rw [hargs _ _ ha]
  refine Calls.mono (hc w) fun e w' ⟨he, hb⟩ => ?_
  subst he
  have ag : Agree w w' := fun b hb2 => hb.block b hb2
  exact ⟨resV, res, F0, rfl, Le.refl _, hres _, hF.agree ag, ag, fun b h _ => h, ⟨hb.os.trans hca.os, hb.tape.trans hca.tape, hb.output.trans hca.output⟩, rfl⟩

theorem same_below {w : World} {e : Ending} {P : Ending → Prop} : ∀ e w', (P e ∧ w' = w) → (P e ∧ Below w.heap.size w w') := fun e w' ⟨h, q⟩ => ⟨h, by subst q; exact Below.refl _ _⟩

theorem nil26_r : RunsP Try.prog 26 [.v (.pointer none)] (fun v => v = .nil) :=
  runsP_same (by kernel_rfl) (plain_cons plain_nil) (fun G => ⟨none, rfl⟩) fun w => Calls.mono nil26_c fun e w' ⟨h, q⟩ => ⟨h, by subst q; exact Below.refl _ _⟩
theorem nil21_r : RunsP Try.prog 21 [.v (.pointer none)] (fun v => v = .nil) :=
  runsP_same (by kernel_rfl) (plain_cons plain_nil) (fun G => ⟨none, rfl⟩) fun w => Calls.mono nil21_c fun e w' ⟨h, q⟩ => ⟨h, by subst q; exact Below.refl _ _⟩
theorem nil28_r : RunsP Try.prog 28 [.v (.pointer none)] (fun v => v = .nil) :=
  runsP_same (by kernel_rfl) (plain_cons plain_nil) (fun G => ⟨none, rfl⟩) fun w => Calls.mono nil28_c fun e w' ⟨h, q⟩ => ⟨h, by subst q; exact Below.refl _ _⟩
theorem nil14_r : RunsP Try.prog 14 [.v (.pointer none)] (fun v => v = .v (.pointer none)) :=
  runsP_same (by kernel_rfl) (plain_cons plain_nil) (fun G => ⟨rfl, rfl⟩) fun w => Calls.mono nil14_c fun e w' ⟨h, q⟩ => ⟨h, by subst q; exact Below.refl _ _⟩
theorem nil22_r (x : Int) : RunsP Try.prog 22 [.v (.pointer none), .v (.int .i64 x)] (fun v => v = .v (.int .i64 1)) :=
  runsP_same (by kernel_rfl) (plain_cons (plain_cons plain_nil)) (fun G => ⟨rfl, rfl⟩) fun w => Calls.mono (nil22_c x) fun e w' ⟨h, q⟩ => ⟨h, by subst q; exact Below.refl _ _⟩
theorem nil17_r (x : Int) : RunsP Try.prog 17 [.v (.pointer none), .v (.int .i64 x)] (fun v => v = .tup [.v (.bool false), .v (.int .i64 1)]) :=
  runsP_same (by kernel_rfl) (plain_cons (plain_cons plain_nil)) (fun G => ⟨_, rfl, _, _, rfl, ⟨rfl, rfl⟩, _, _, rfl, ⟨rfl, rfl⟩, rfl⟩) fun w => Calls.mono (nil17_c x) fun e w' ⟨h, q⟩ => ⟨h, by subst q; exact Below.refl _ _⟩
theorem nil16_r (x : Int) (s : ByteArray) : RunsP Try.prog 16 [.v (.pointer none), .v (.int .i64 x), .v (.string s)] (fun v => v = .tup [.v (.bool false), .v (.int .i64 1)]) :=
  runsP_same (by kernel_rfl) (plain_cons (plain_cons (plain_cons plain_nil))) (fun G => ⟨_, rfl, _, _, rfl, ⟨rfl, rfl⟩, _, _, rfl, ⟨rfl, rfl⟩, rfl⟩) fun w => Calls.mono (nil16_c x s) fun e w' ⟨h, q⟩ => ⟨h, by subst q; exact Below.refl _ _⟩
theorem nil23_r (x : Int) : RunsP Try.prog 23 [.v (.pointer none), .v (.int .i64 x)] (fun v => v = .tup [.v (.int .u8 0), .v (.string ⟨#[]⟩), .v (.int .i64 1)]) :=
  runsP_same (by kernel_rfl) (plain_cons (plain_cons plain_nil)) (fun G => ⟨_, rfl, _, _, rfl, ⟨rfl, rfl⟩, _, _, rfl, ⟨rfl, rfl⟩, _, _, rfl, ⟨rfl, rfl⟩, rfl⟩) fun w => Calls.mono (nil23_c x) fun e w' ⟨h, q⟩ => ⟨h, by subst q; exact Below.refl _ _⟩
theorem nil15_r (s : ByteArray) : RunsP Try.prog 15 [.v (.pointer none), .v (.string s)] (fun v => v = .tup [.v (.int .i64 0), .v (.bool false)]) :=
  runsP_same (by kernel_rfl) (plain_cons (plain_cons plain_nil)) (fun G => ⟨_, rfl, _, _, rfl, ⟨rfl, rfl⟩, _, _, rfl, ⟨rfl, rfl⟩, rfl⟩) fun w => Calls.mono (nil15_c s) fun e w' ⟨h, q⟩ => ⟨h, q.below⟩

theorem flat_single : ∀ l : List Bool, (l.flatMap fun b => [Value.bool b]) = boolsV l
  | [] => rfl
  | a :: l => by simp only [List.flatMap_cons, flat_single l]; rfl

/-- New. -/
def NewR (files : List AFile) (fails : List Bool) (σ : List AObj) (v : AV) (σ' : List AObj) : Prop :=
  (NewOk files ∧ v = .tup [.ptr σ.length 0 0, .d (.v (.int .i64 0))] ∧ σ' = σ ++ [wo ⟨files, fails, [], []⟩]) ∨
  (¬ NewOk files ∧ v = .d (.tup [.v (.pointer none), .v (.int .i64 2)]) ∧ σ' = σ)

theorem new_r (files : List AFile) (fails : List Bool) (hb : fails.length ≤ 100000) : Runs Try.prog 12 [.d (filesD files), .d (boolsD fails)] σ (NewR files fails σ) := by
  refine ⟨by kernel_rfl, fun B R x w vs ⟨u, us, e, h1, u2, us2, e2, h2, h3⟩ hh hca => ?_⟩
  have h3 : us2 = [] := h3
  subst e e2 h3
  have r1 : rd w 2 u files.length (files.flatMap fCells) := by
    have h1 : DRep x.F (filesD files) u := h1
    have := rd_of_drep (sz := 2) (rs := files.map fCells) (v := u) (F := x.F) (w := w) (by rw [List.map_map]; exact h1) (by intro r hr; obtain ⟨a, _, rfl⟩ := List.mem_map.1 hr; rfl) hh.hF
    rw [List.length_map, ← List.flatMap_def] at this
    exact this
  have r2 : rd w 1 u2 fails.length (boolsV fails) := by
    have h2 : DRep x.F (boolsD fails) u2 := h2
    have := rd_of_drep (sz := 1) (rs := fails.map fun b => [.bool b]) (v := u2) (F := x.F) (w := w) (by rw [List.map_map]; exact h2) (by intro r hr; obtain ⟨a, _, rfl⟩ := List.mem_map.1 hr; rfl) hh.hF
    rw [List.length_map, ← List.flatMap_def] at this
    have e : (fails.flatMap fun b => [Value.bool b]) = boolsV fails := flat_single fails
    rw [e] at this
    exact this
  refine Calls.mono (new_c St.whole r1 r2 hb) fun e w' h => ?_
  rcases h with ⟨ok, q, he, hs⟩ | ⟨no, he, hs⟩
  · subst he
    have hh' := hh.new_st (Q := fun b => worldAt b ⟨files, fails, [], []⟩) hs
    refine ⟨_, .tup [.ptr σ.length 0 0, .d (.v (.int .i64 0))], _, _, rfl, x.push_ext _, ⟨_, rfl, _, _, rfl, ?_, _, _, rfl, ⟨rfl, rfl⟩, rfl⟩, hh', hca.st hs, .inl ⟨ok, rfl, rfl⟩⟩
    refine ⟨by simp [Ctx.push, hh.n], Nat.zero_le _, _, rfl, fun _ => ?_⟩
    rw [← hh.n]
    simp [Ctx.push]
  · subst he
    exact ⟨_, .d (.tup [.v (.pointer none), .v (.int .i64 2)]), x, σ, rfl, .refl x, ⟨_, rfl, _, _, rfl, ⟨rfl, rfl⟩, _, _, rfl, ⟨rfl, rfl⟩, rfl⟩, hh.same_st hs, hca.st hs, .inr ⟨no, rfl, rfl⟩⟩
end
end Go.Proofs.Ytlpgekodoiioaaa
