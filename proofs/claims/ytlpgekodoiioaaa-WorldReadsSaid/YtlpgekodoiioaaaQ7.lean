/- WorldReads (usufructlaw22): a file that is read to its end tells its lines, one behind the other; put together with a 10 behind each they are the file, but for the last 10, if it has none. The statement as given, for every input, with no further condition. -/
import Derived.Test.YtlpgekodoiioaaaS7
import Derived.Test.YtlpgekodoiioaaaWArgs
import Derived.Test.YtlpgekodoiioaaaLd
set_option linter.unusedVariables false
set_option linter.unusedSimpArgs false
namespace Go.Proofs.Ytlpgekodoiioaaa.worldReads
open Go.ChangeShapes Go.WideShapes Go.ChangeAt Go.RowKit

theorem own : ownKnob Try.prog.godebug = none := by kernel_rfl
theorem laidOut : laidOutB Try.prog = true := by kernel_rfl

set_option maxRecDepth 100000 in
theorem lifted (os : Os) (started : os.Started) (H : Type) (enc : TypeId × Value → H) :
    ReturnsInHanded {} Try.checked os 7 .any (Rows.worldReadsSpec.pre6 enc Try.prog Try.f7 Rows.worldReadsRow.domain false) (Rows.worldReadsSpec.post enc Try.prog Try.f7 false true false false) := by
  refine returnsInHanded_of_change (C := Try.checked) own started (by kernel_rfl) Try.func7
    (ChangeSpec.witness6 (enc := enc) (C := Try.checked) false ⟨#[], #[.string ⟨#[]⟩], []⟩ 8 (by kernel_rfl) (by kernel_rfl) (by kernel_rfl) (by kernel_rfl)) ?_
  intro W base args ds gs before hval0 hW hcnd _
  have hW' := hW
  obtain ⟨p, q, hA0, hV, rfl, hfz, hnd⟩ := hW
  have hA : DataW.TrodAll enc Try.prog W 0 (fun _ => true) true Try.f7.params.toList args.toList ds p := hA0
  rw [Try.params7] at hA
  obtain ⟨hR, hlen⟩ := trodAll_reads hA
  obtain ⟨rfl, rfl⟩ := trodVars_none hV
  match ds, hlen with
  | [d0], _ =>
  have hval : ∀ (j : Nat) t v, Try.f7.params[j]? = some t → args[j]? = some v → Value.okWide Try.prog W .any base t v := hval0
  clear hA0 hA hV hlen hval0
  obtain ⟨l, hl⟩ : ∃ l, args.toList = l := ⟨_, rfl⟩
  have ha : args = l.toArray := by rw [← hl]
  subst ha
  rw [hl] at hR
  clear hl
  obtain ⟨v0, _, rfl, ⟨n0, h0⟩, hnil⟩ := hR
  have hnil : _ = [] := hnil
  subst hnil
  obtain ⟨x0, rfl⟩ := okWide_string Try.underlying9 (hval 0 9 v0 rfl rfl)
  obtain ⟨z0, e0, w0⟩ := h0.string Try.underlying9
  simp only [Value.cells, List.cons.injEq, and_true, Value.string.injEq] at e0
  subst e0
  refine (RunsP.law (Runs.pure (args := [.v (.string x0)]) ((reads_c x0 w0).mono fun v _ h => ⟨_, h, rfl⟩)) ⟨_, _, rfl, ⟨rfl, rfl⟩, rfl⟩).mono fun e W' ⟨he, hb⟩ => ?_
  subst he
  exact ⟨_, rfl, law_post laidOut (by kernel_rfl) rfl (by kernel_rfl) Try.underlying4 rfl hW' hb⟩

theorem over : Rows.worldReadsRow.holds Try.pinned (OpenSpec.ofChange Rows.worldReadsSpec) :=
  OpenClaim.holds_of_wide 7 Try.f7 rfl rfl rfl rfl rfl rfl rfl ⟨rfl, rfl, rfl, rfl, rfl⟩ rfl rfl rfl rfl rfl (by kernel_rfl) Try.func7 (by kernel_rfl)
    (of_decide_eq_true (by kernel_rfl)) (by unfold Func.isWrapper; first | (rw [if_pos (by decide +kernel)]; kernel_rfl) | (rw [if_neg (by decide +kernel)]; exact ⟨rfl, rfl⟩))
    (fun os started H enc _ => lifted os started H enc)

/-- ████ THE STATEMENT ████ -/
theorem proved : Rows.WorldReadsSaid := over
#print axioms proved
end Go.Proofs.Ytlpgekodoiioaaa.worldReads
