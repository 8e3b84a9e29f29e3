/- What HeapOwned keeps in memory: the table of what was put, that of what is gone, the words that were told; and 'put'. -/
import Derived.Test.YtciciaikajdenaaM1
import Derived.Test.YtciciaikajdenaaM2
import Derived.Test.YtciciaikajdenaaK2
set_option linter.unusedSimpArgs false
set_option linter.unusedVariables false
namespace Go.Proofs.Ytciciaikajdenaa
open Go.RowKit
open Classical

abbrev AEnt := AWord × (ACell × Value)
def hasL (E : List AEnt) : List (AWord × Value) := E.map fun p => (p.1, cv p.2.1 p.2.2)
def absE (E : List AEnt) : List (AWord × ACell) := E.map fun p => (p.1, p.2.1)
def entOwn (e : AEnt) : HProp := wordsOwn e.2.2 e.2.1.ws
def entW (E : List AEnt) : HProp := starL (E.map entOwn)

theorem getA_has (x : AWord) (E : List AEnt) : getA x (hasL E) = (getA x E).map fun q => cv q.1 q.2 := getA_map (fun q : ACell × Value => cv q.1 q.2) x E
theorem getA_abs (x : AWord) (E : List AEnt) : getA x (absE E) = (getA x E).map fun q => q.1 := getA_map (fun q : ACell × Value => q.1) x E

section
variable {W0 w : World} {L : List HProp}

theorem St.ent_take {E : List AEnt} {i : Nat} {e : AEnt} (h : St W0 w (entW E :: L)) (hs : E[i]? = some e) : St W0 w (wordsOwn e.2.2 e.2.1.ws :: entW (E.eraseIdx i) :: L) := by
  have h1 := St.flat (L := E.map entOwn) h
  have h2 := h1.perm (((erase_perm hs).map entOwn).append_right L)
  simp only [List.map_cons, List.cons_append] at h2
  exact (((St.unflat (L := entOwn e :: (E.eraseIdx i).map entOwn) (M := L) h2).flat).conv fun f s => starL_cons (fun _ y => y) (fun _ t => starL_unflat t) s)

theorem St.ent_join {E F : List AEnt} {e : AEnt} (h : St W0 w (entOwn e :: entW E :: L)) (p : F.Perm (e :: E)) : St W0 w (entW F :: L) := by
  have h1 : St W0 w (entOwn e :: (E.map entOwn ++ L)) := h.conv fun f s => starL_cons (fun _ y => y) (fun _ t => starL_flat t) s
  have h2 := h1.perm (M := F.map entOwn ++ L) ((p.map entOwn).symm.append_right L)
  exact St.unflat (L := F.map entOwn) h2

theorem St.ent_set {E : List AEnt} {i : Nat} {x : AWord} {c : ACell} {v : Value} (h : St W0 w (wordsOwn v c.ws :: entW (E.eraseIdx i) :: L)) (hi : i < E.length) : St W0 w (entW (E.set i (x, (c, v))) :: L) :=
  St.ent_join (e := (x, (c, v))) h (set_perm hi)

theorem St.ent_snoc {E : List AEnt} {x : AWord} {c : ACell} {v : Value} (h : St W0 w (wordsOwn v c.ws :: entW E :: L)) : St W0 w (entW (E ++ [(x, (c, v))]) :: L) :=
  St.ent_join (e := (x, (c, v))) h (List.perm_append_comm (l₁ := E) (l₂ := [(x, (c, v))]))

theorem St.ent_nil (h : St W0 w L) : St W0 w (entW [] :: L) :=
  h.conv fun f s => ⟨fun _ => none, f, trivial, s, fun _ => .inl rfl, (fun _ _ e => by cases e), Le.refl _⟩

theorem St.ent_rd {E : List AEnt} {i : Nat} {e : AEnt} (h : St W0 w (entW E :: L)) (hs : E[i]? = some e) : rd w 4 e.2.2 e.2.1.ws.length (flatW e.2.1.ws) :=
  St.own_rd (h.ent_take hs)

theorem getA_get {x : AWord} {E : List AEnt} {q : ACell × Value} (h : getA x E = some q) : ∃ j, E[j]? = some (x, q) ∧ delA x E = E.eraseIdx j ∧ ∀ v, putA x v E = E.set j (x, v) := by
  rcases lookA_spec x E 0 with ⟨_, h2, _⟩ | ⟨j, p, _, h4, h5, h2, h3, h6⟩
  · rw [h2] at h; cases h
  · rw [h2] at h
    cases h
    exact ⟨j, by rw [h4, h5], h3, h6⟩

theorem St.ent_del {E : List AEnt} (x : AWord) (h : St W0 w (entW E :: L)) : St W0 w (entW (delA x E) :: L) := by
  cases hg : getA x E with
  | none =>
    rcases lookA_spec x E 0 with ⟨_, _, h3, _⟩ | ⟨j, p, _, _, _, h2, _⟩
    · rw [h3]; exact h
    · rw [h2] at hg; cases hg
  | some q =>
    obtain ⟨j, h1, h2, _⟩ := getA_get hg
    rw [h2]
    exact (h.ent_take h1).tail

theorem St.ent_form {E : List AEnt} (h : St W0 w (entW E :: L)) {x : AWord} {q : ACell × Value} (hg : getA x E = some q) : ∃ a cap, q.2 = .slice a q.1.ws.length cap := by
  obtain ⟨j, h1, _, _⟩ := getA_get hg
  exact rd_form (h.ent_rd h1)
end

theorem zero_run {P : Program} {t : TypeId} {i : TypeInfo} {z : Value} (hi : P.info? t = some i) (hz : i.zero = some z) (w : World) : (zeroValue t).run P w = .ok z w := by
  simp [zeroValue, typeInfo, hi, hz]

theorem info34 : (Try.prog.info? 34).map (fun i => (i.zero, i.size, i.bytes)) = some (some (.agg #[.int .u8 0, .int .i64 0, .slice none 0 0]), 3, 40) := by kernel_rfl
theorem info4 : (Try.prog.info? 4).map (fun i => (i.zero, i.size, i.bytes)) = some (some (.bool false), 1, 1) := by kernel_rfl
theorem zero34 (w : World) : (zeroValue 34).run Try.prog w = .ok (.agg #[.int .u8 0, .int .i64 0, .slice none 0 0]) w := by
  obtain ⟨i, hi, hz, _⟩ := info_parts info34; exact zero_run hi hz w
theorem zero4 (w : World) : (zeroValue 4).run Try.prog w = .ok (.bool false) w := by
  obtain ⟨i, hi, hz, _⟩ := info_parts info4; exact zero_run hi hz w

/-- All that HeapOwned keeps. -/
def ownL (b7 b8 b9 r1 r2 : Nat) (lv : Value) (D E : List AEnt) (Gs : List (AWord × Value)) (ws : List AWord) : List HProp :=
  [cellsB b7 #[.map (some r1)] 58, cellsB b8 #[.map (some r2)] 59, cellsB b9 #[lv] 32, mapB wv r1 (hasL D), mapB wv r2 Gs, wordsOwn lv ws, entW E]

end Go.Proofs.Ytciciaikajdenaa
