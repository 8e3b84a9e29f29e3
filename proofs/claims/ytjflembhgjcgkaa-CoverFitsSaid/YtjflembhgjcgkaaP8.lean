/- CoverFits (usufructlaw15): whether any value fits any pattern, whether any two patterns are apart, is the document's. The statement as given, for every input, with no further condition. -/
import Derived.Test.YtjflembhgjcgkaaC26
import Derived.Test.YtjflembhgjcgkaaC29
import Derived.Test.YtjflembhgjcgkaaCArgs
import Derived.Test.YtjflembhgjcgkaaLd
set_option linter.unusedVariables false
set_option linter.unusedSimpArgs false
namespace Go.Proofs.Ytjflembhgjcgkaa.coverFits
open Go.ChangeShapes Go.WideShapes Go.ChangeAt Go.RowKit

theorem own : ownKnob Try.prog.godebug = none := by kernel_rfl
theorem laidOut : laidOutB Try.prog = true := by kernel_rfl

set_option maxRecDepth 100000 in
theorem lifted (os : Os) (started : os.Started) (H : Type) (enc : TypeId × Value → H) :
    ReturnsInHanded {} Try.checked os 8 .any (Rows.coverFitsSpec.pre6 enc Try.prog Try.f8 Rows.coverFitsRow.domain false) (Rows.coverFitsSpec.post enc Try.prog Try.f8 false true false false) := by
  refine returnsInHanded_of_change (C := Try.checked) own started (by kernel_rfl) Try.func8
    (ChangeSpec.witness6 (enc := enc) (C := Try.checked) false ⟨#[], #[.agg #[.int .u8 0, .int .i64 0, .int .i64 0, .string ⟨#[]⟩, .int .i64 0, .int .i64 0, .int .i64 0, .slice none 0 0], .agg #[.int .u8 0, .int .i64 0, .int .i64 0, .string ⟨#[]⟩, .int .i64 0, .int .i64 0, .int .i64 0, .slice none 0 0], .agg #[.int .u8 0, .int .i64 0, .string ⟨#[]⟩, .slice none 0 0]], []⟩ 8 (by kernel_rfl) (by kernel_rfl) (by kernel_rfl) (by kernel_rfl)) ?_
  intro W base args ds gs before hval0 hW hcnd _
  have hW' := hW
  obtain ⟨p, q, hA0, hV, rfl, hfz, hnd⟩ := hW
  have hA : DataW.TrodAll enc Try.prog W 0 (fun _ => true) true Try.f8.params.toList args.toList ds p := hA0
  rw [Try.params8] at hA
  obtain ⟨hR, hlen⟩ := trodAll_reads hA
  obtain ⟨rfl, rfl⟩ := trodVars_none hV
  match ds, hlen with
  | [d0, d1, d2], _ =>
  have hval : ∀ (j : Nat) t v, Try.f8.params[j]? = some t → args[j]? = some v → Value.okWide Try.prog W .any base t v := hval0
  clear hA0 hA hV hlen hval0
  obtain ⟨l, hl⟩ : ∃ l, args.toList = l := ⟨_, rfl⟩
  have ha : args = l.toArray := by rw [← hl]
  subst ha
  rw [hl] at hR
  clear hl
  obtain ⟨v0, _, rfl, ⟨n0, h0⟩, ⟨v1, _, rfl, ⟨n1, h1⟩, ⟨v2, _, rfl, ⟨n2, h2⟩, hnil⟩⟩⟩ := hR
  have hnil : _ = [] := hnil
  subst hnil
  obtain ⟨c0, rfl, k0⟩ := okWide_struct Try.underlying41 (hval 0 41 v0 rfl rfl)
  obtain ⟨c1, rfl, k1⟩ := okWide_struct Try.underlying41 (hval 1 41 v1 rfl rfl)
  obtain ⟨c2, rfl, k2⟩ := okWide_struct Try.underlying60 (hval 2 60 v2 rfl rfl)
  obtain ⟨p0, r0, o0, q0⟩ := reads_pat _ h0
  obtain ⟨p1, r1, o1, q1⟩ := reads_pat _ h1
  obtain ⟨p2, r2, o2, q2⟩ := reads_val _ h2
  refine (RunsP.law (coverFits_c known_c p0 p1 p2 q0 q1 q2) ⟨_, _, rfl, ⟨_, rfl, r0, o0⟩, _, _, rfl, ⟨_, rfl, r1, o1⟩, _, _, rfl, ⟨_, rfl, r2, o2⟩, rfl⟩).mono fun e W' ⟨he, hb⟩ => ?_
  subst he
  exact ⟨_, rfl, law_post laidOut (by kernel_rfl) rfl (by kernel_rfl) Try.underlying4 rfl hW' hb⟩

theorem over : Rows.coverFitsRow.holds Try.pinned (OpenSpec.ofChange Rows.coverFitsSpec) :=
  OpenClaim.holds_of_wide 8 Try.f8 rfl rfl rfl rfl rfl rfl rfl ⟨rfl, rfl, rfl, rfl, rfl⟩ rfl rfl rfl rfl rfl (by kernel_rfl) Try.func8 (by kernel_rfl)
    (of_decide_eq_true (by kernel_rfl)) (by unfold Func.isWrapper; first | (rw [if_pos (by decide +kernel)]; kernel_rfl) | (rw [if_neg (by decide +kernel)]; exact ⟨rfl, rfl⟩))
    (fun os started H enc _ => lifted os started H enc)

/-- ████ THE STATEMENT ████ -/
theorem proved : Rows.CoverFitsSaid := over
#print axioms proved
end Go.Proofs.Ytjflembhgjcgkaa.coverFits
