/- WorldTells: the walk. -/
import Derived.Test.YtlpgekodoiioaaaT1
import Derived.Test.YtlpgekodoiioaaaT2
set_option linter.unusedSimpArgs false
set_option linter.unusedVariables false
namespace Go.Proofs.Ytlpgekodoiioaaa
open Go.RowKit

theorem map_ok : Try.prog.underlying 65 = some (.map 9 9) := by kernel_rfl
theorem z9 : ∃ u, (∀ w : World, (zeroValue 9).run Try.prog w = .ok u w) ∧ ∀ x : Ctx, ARep x (.d (.v (.string emptyB))) u := by
  have h : (Try.prog.info? 9).map (fun i => i.zero) = some (some (.string ⟨#[]⟩)) := by kernel_rfl
  cases hi : Try.prog.info? 9 with
  | none => rw [hi] at h; cases h
  | some i =>
    rw [hi] at h
    injection h with h
    exact ⟨.string emptyB, fun w => by simp [zeroValue, typeInfo, hi, h, emptyB], fun x => ⟨rfl, rfl⟩⟩

/-- The texts, as a map's entries. -/
def avM (M : List (ByteArray × ByteArray)) : List (ByteArray × AV) := M.map fun p => (p.1, .d (.v (.string p.2)))
theorem av_get (k : ByteArray) : ∀ M : List (ByteArray × ByteArray), getA k (avM M) = (getA k M).map fun t => .d (.v (.string t))
  | [] => rfl
  | p :: M => by
    rw [show avM (p :: M) = (p.1, .d (.v (.string p.2))) :: avM M from rfl]
    unfold getA
    by_cases e : k = p.1
    · rw [if_pos e, if_pos e]; rfl
    · rw [if_neg e, if_neg e]; exact av_get k M
theorem av_put (k t : ByteArray) : ∀ M : List (ByteArray × ByteArray), putA k (AV.d (.v (.string t))) (avM M) = avM (putA k t M)
  | [] => rfl
  | p :: M => by
    rw [show avM (p :: M) = (p.1, .d (.v (.string p.2))) :: avM M from rfl]
    unfold putA
    by_cases e : k = p.1
    · rw [if_pos e, if_pos e]; rfl
    · rw [if_neg e, if_neg e]
      show _ = (p.1, _) :: avM (putA k t M)
      rw [av_put k t M]
theorem put_new {k t : ByteArray} : ∀ {l : List AFile}, (∀ g ∈ l, g.name ≠ k) → putA k t (filesM l) = filesM (l ++ [⟨k, t⟩])
  | [], _ => rfl
  | a :: l, h => by
    rw [show filesM (a :: l) = (a.name, a.text) :: filesM l from rfl]
    unfold putA
    rw [if_neg (fun e => h a (List.mem_cons_self ..) e.symm), put_new fun g hg => h g (List.mem_cons_of_mem _ hg)]
    rfl
theorem av_getD {k t : ByteArray} {M : List (ByteArray × ByteArray)} (h : getA k M = some t) : (getA k (avM M)).getD (.d (.v (.string emptyB))) = .d (.v (.string t)) ∧ (getA k (avM M)).isSome = true := by
  rw [av_get, h]; exact ⟨rfl, rfl⟩
theorem av_any (k : ByteArray) (M : List (ByteArray × ByteArray)) : ∃ t b, (getA k (avM M)).getD (.d (.v (.string emptyB))) = .d (.v (.string t)) ∧ (getA k (avM M)).isSome = b := by
  rw [av_get]
  cases getA k M with
  | none => exact ⟨_, _, rfl, rfl⟩
  | some t => exact ⟨_, _, rfl, rfl⟩
def strR (s : ByteArray) : List DV := [.v (.string s)]
def mo (M : List (ByteArray × ByteArray)) : AObj := .map (entsV Value.string (avM M))
theorem row_of {α : Type} {f : α → List DV} {l : List α} {i : Nat} {x : α} (h : l[i]? = some x) : (l.map f)[i]? = some (f x) := by rw [List.getElem?_map, h]; rfl

/-- The second loop's body. -/
noncomputable def body2 : Option Code := match Try.f8.body with
  | some c => match findBlock 2 c with
    | some (.block _ (.loop x)) => some x
    | _ => none
  | none => none
/-- What holds at a round's head. -/
def TI (files : List AFile) (W : AW) (locA locM locN locP k : Nat) (vs : List AV) (σ : List AObj) : Prop :=
  ∃ (vN vP lp : Nat) (M : List (ByteArray × ByteArray)) (N : List ByteArray) (P : List Nat), vs = [.d (filesD files), .d (.v (.bool false)), .ptr locA 0 0, .mp locM, .own locN vN 1 0 N.length, .own locP vP 1 0 lp, .d (traceD W.trace), .d (.v (.int .i64 ((W.trace.map opD).length : Int))), .d (.v (.int .i64 (k : Int)))] ∧ σ[locA]? = some (wo W) ∧ σ[locM]? = some (mo M) ∧ σ[locN]? = some (.arr 9 1 vN (N.map strR)) ∧ σ[locP]? = some (.arr 3 1 vP (P.map natD)) ∧ Told ⟨M, N, P⟩ (W.trace.drop k) W.rs ∧ lp = P.length ∧ N.length = P.length ∧ N.length ≤ k ∧ k ≤ W.trace.length
def TQ (files : List AFile) (W : AW) (locA locM locN locP k : Nat) (e : Exit) (fr : Fr) (σ : List AObj) : Prop :=
  e = .normal ∧ ∃ vs, getO [0, 6, 7, 9, 12, 13, 58, 59, 60] fr = some vs ∧ TI files W locA locM locN locP k vs σ
end Go.Proofs.Ytlpgekodoiioaaa
