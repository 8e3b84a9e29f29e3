/- CellPlays (usufructlaw24): over one script, package cell and the document's answer the same at each word, and the heaps and the worlds stay alike. The statement as given, for every input, with no further condition. -/
import Derived.Test.YtciciaikajdenaaTPR12T33x3
import Derived.Test.YtciciaikajdenaaTPR12XLdLzx3
set_option linter.unusedVariables false
set_option linter.unusedSimpArgs false
namespace Go.Proofs.Ytciciaikajdenaa.cellPlays
open Go.ChangeShapes Go.WideShapes Go.ChangeAt Go.RowKit

theorem weights_left {H : Type} {P : Program} : ∀ (ts us : List TypeId) (ds gs : List (DataW H)) (k : Nat), k ∈ DataW.weightsEach P ts ds → k ∈ DataW.weightsEach P (ts ++ us) (ds ++ gs)
  | [], _, _, _, _, h => by simp [DataW.weightsEach] at h
  | _ :: _, _, [], _, _, h => by simp [DataW.weightsEach] at h
  | t :: ts, us, d :: ds, gs, k, h => by
    simp only [List.cons_append, DataW.weightsEach, List.mem_append] at h ⊢
    rcases h with h | h
    · exact .inl h
    · exact .inr (weights_left ts us ds gs k h)
theorem own : ownKnob Try.prog.godebug = none := by kernel_rfl
theorem laidOut : laidOutB Try.prog = true := by kernel_rfl

set_option maxRecDepth 100000 in
theorem lifted (os : Os) (started : os.Started) (H : Type) (enc : TypeId × Value → H) :
    ReturnsInHanded {} Try.checked os 12 .any (Rows.cellPlaysSpec.pre6 enc Try.prog Try.f12 Rows.cellPlaysRow.domain false) (Rows.cellPlaysSpec.post enc Try.prog Try.f12 false true false false) := by
  refine returnsInHanded_of_change_sized (C := Try.checked) own started (by kernel_rfl) Try.func12
    (ChangeSpec.witness6 (enc := enc) (C := Try.checked) false ⟨#[], #[.int .i64 0, .slice none 0 0], []⟩ 8 (by kernel_rfl) (by kernel_rfl) (by kernel_rfl) (by kernel_rfl)) ?_
  intro W base args ds gs before hval0 hW hcnd hsz0 _
  have hW' := hW
  obtain ⟨p, q, hA0, hV, rfl, hfz, hnd⟩ := hW
  have hA : DataW.TrodAll enc Try.prog W 0 (fun _ => true) true Try.f12.params.toList args.toList ds p := hA0
  rw [Try.params12] at hA
  have hsz : (DataW.weightsEach Try.prog (Try.f12.params.toList ++ Rows.cellPlaysSpec.plain.varTypes Try.prog) (ds ++ gs)).all (· ≤ reachBytes) = true := hsz0
  clear hsz0
  rw [Try.params12] at hsz
  obtain ⟨hR, hlen⟩ := trodAll_readsZ hA fun k hk => of_decide_eq_true (List.all_eq_true.1 hsz k (weights_left _ _ _ _ k hk))
  clear hsz
  obtain ⟨rfl, rfl⟩ := trodVars_none hV
  match ds, hlen with
  | [d0, d1], _ =>
  have hval : ∀ (j : Nat) t v, Try.f12.params[j]? = some t → args[j]? = some v → Value.okWide Try.prog W .any base t v := hval0
  clear hA0 hA hV hlen hval0
  obtain ⟨l, hl⟩ : ∃ l, args.toList = l := ⟨_, rfl⟩
  have ha : args = l.toArray := by rw [← hl]
  subst ha
  rw [hl] at hR
  clear hl
  obtain ⟨v0, _, rfl, ⟨n0, h0⟩, ⟨v1, _, rfl, ⟨n1, h1⟩, hnil⟩⟩ := hR
  have hnil : _ = [] := hnil
  subst hnil
  obtain ⟨x0, rfl⟩ := okWide_int Try.underlying3 (hval 0 3 v0 rfl rfl)
  obtain ⟨a1, b1, c1, rfl⟩ := okWide_slice Try.underlying81 (hval 1 81 v1 rfl rfl)
  obtain ⟨z0, e0, w0⟩ := h0.int Try.underlying3
  simp only [Value.cells, List.cons.injEq, and_true, Value.int.injEq, true_and] at e0
  subst e0
  obtain ⟨y1, l1, e1, r1, z1, q1⟩ := reads_dosZ h1
  simp only [Value.cells, List.cons.injEq, and_true] at e1
  subst e1
  refine (RunsP.law (cellPlays_c l1 x0 z1 q1) ⟨_, _, rfl, ⟨rfl, rfl⟩, _, _, rfl, r1, rfl⟩).mono fun e W' ⟨he, hb⟩ => ?_
  subst he
  exact ⟨_, rfl, law_post laidOut (by kernel_rfl) rfl (by kernel_rfl) Try.underlying4 rfl hW' hb⟩

theorem over : Rows.cellPlaysRow.holds Try.pinned (OpenSpec.ofChange Rows.cellPlaysSpec) :=
  OpenClaim.holds_of_wide 12 Try.f12 rfl rfl rfl rfl rfl rfl rfl ⟨rfl, rfl, rfl, rfl, rfl⟩ rfl rfl rfl rfl rfl (by kernel_rfl) Try.func12 (by kernel_rfl)
    (of_decide_eq_true (by kernel_rfl)) (by unfold Func.isWrapper; first | (rw [if_pos (by decide +kernel)]; kernel_rfl) | (rw [if_neg (by decide +kernel)]; exact ⟨rfl, rfl⟩))
    (fun os started H enc _ => lifted os started H enc)

/-- ████ THE STATEMENT ████ -/
theorem proved : Rows.CellPlaysSaid := over
#print axioms proved
end Go.Proofs.Ytciciaikajdenaa.cellPlays
