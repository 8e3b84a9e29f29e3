/- WorldTells (usufructlaw22): the files are what the trace says, written again from the files that were; what a handle read is its file's text, line by line. The statement as given, for every input, with no further condition. -/
import Derived.Test.YtlpgekodoiioaaaS8M
import Derived.Test.YtlpgekodoiioaaaWArgs
import Derived.Test.YtlpgekodoiioaaaLd
set_option linter.unusedVariables false
set_option linter.unusedSimpArgs false
namespace Go.Proofs.Ytlpgekodoiioaaa.worldTells
open Go.ChangeShapes Go.WideShapes Go.ChangeAt Go.RowKit

theorem own : ownKnob Try.prog.godebug = none := by kernel_rfl
theorem laidOut : laidOutB Try.prog = true := by kernel_rfl

set_option maxRecDepth 100000 in
theorem lifted (os : Os) (started : os.Started) (H : Type) (enc : TypeId × Value → H) :
    ReturnsInHanded {} Try.checked os 8 .any (Rows.worldTellsSpec.pre6 enc Try.prog Try.f8 Rows.worldTellsRow.domain false) (Rows.worldTellsSpec.post enc Try.prog Try.f8 false true false false) := by
  refine returnsInHanded_of_change (C := Try.checked) own started (by kernel_rfl) Try.func8
    (ChangeSpec.witness6 (enc := enc) (C := Try.checked) false ⟨#[], #[.slice none 0 0, .slice none 0 0, .slice none 0 0], []⟩ 8 (by kernel_rfl) (by kernel_rfl) (by kernel_rfl) (by kernel_rfl)) ?_
  intro W base args ds gs before hval0 hW hcnd _
  have hW' := hW
  obtain ⟨p, q, hA0, hV, rfl, hfz, hnd⟩ := hW
  have hA : DataW.TrodAll enc Try.prog W 0 (fun _ => true) true Try.f8.params.toList args.toList ds p := hA0
  rw [Try.params8] at hA
  obtain ⟨hR, hlen⟩ := trodAll_reads hA
  obtain ⟨rfl, rfl⟩ := trodVars_none hV
  match ds, hlen with
  | [d0, d1, d2], _ =>
  have hval : ∀ (j : Nat) t v, Try.f8.params[j]? = some t → args[j]? = some v → Value.okWide Try.prog W .any base t v := hval0
  clear hA0 hA hV hlen hval0
  obtain ⟨l, hl⟩ : ∃ l, args.toList = l := ⟨_, rfl⟩
  have ha : args = l.toArray := by rw [← hl]
  subst ha
  rw [hl] at hR
  clear hl
  obtain ⟨v0, _, rfl, ⟨n0, h0⟩, ⟨v1, _, rfl, ⟨n1, h1⟩, ⟨v2, _, rfl, ⟨n2, h2⟩, hnil⟩⟩⟩ := hR
  have hnil : _ = [] := hnil
  subst hnil
  obtain ⟨a0, b0, c0, rfl⟩ := okWide_slice Try.underlying22 (hval 0 22 v0 rfl rfl)
  obtain ⟨a1, b1, c1, rfl⟩ := okWide_slice Try.underlying23 (hval 1 23 v1 rfl rfl)
  obtain ⟨a2, b2, c2, rfl⟩ := okWide_slice Try.underlying24 (hval 2 24 v2 rfl rfl)
  obtain ⟨u0, files, e0, r0, l0, z0⟩ := reads_files h0
  simp only [Value.cells, List.cons.injEq, and_true] at e0
  subst e0
  obtain ⟨u1, fails, e1, r1, l1⟩ := reads_bools h1
  simp only [Value.cells, List.cons.injEq, and_true] at e1
  subst e1
  obtain ⟨u2, script, e2, r2, l2, z2⟩ := reads_dos h2
  simp only [Value.cells, List.cons.injEq, and_true] at e2
  subst e2
  refine (RunsP.law (Runs.pure (args := [filesD files, boolsD fails, dosD script]) ((tells_c files fails script (by unfold maxLen at l0; omega) (by unfold maxLen at l2; omega) z2).mono fun v _ h => ⟨_, h, rfl⟩)) ⟨_, _, rfl, r0, _, _, rfl, r1, _, _, rfl, r2, rfl⟩).mono fun e W' ⟨he, hb⟩ => ?_
  subst he
  exact ⟨_, rfl, law_post laidOut (by kernel_rfl) rfl (by kernel_rfl) Try.underlying4 rfl hW' hb⟩

theorem over : Rows.worldTellsRow.holds Try.pinned (OpenSpec.ofChange Rows.worldTellsSpec) :=
  OpenClaim.holds_of_wide 8 Try.f8 rfl rfl rfl rfl rfl rfl rfl ⟨rfl, rfl, rfl, rfl, rfl⟩ rfl rfl rfl rfl rfl (by kernel_rfl) Try.func8 (by kernel_rfl)
    (of_decide_eq_true (by kernel_rfl)) (by unfold Func.isWrapper; first | (rw [if_pos (by decide +kernel)]; kernel_rfl) | (rw [if_neg (by decide +kernel)]; exact ⟨rfl, rfl⟩))
    (fun os started H enc _ => lifted os started H enc)

/-- ████ THE STATEMENT ████ -/
theorem proved : Rows.WorldTellsSaid := over
#print axioms proved
end Go.Proofs.Ytlpgekodoiioaaa.worldTells
