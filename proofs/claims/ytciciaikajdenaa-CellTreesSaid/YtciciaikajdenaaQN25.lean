/- N25: are two words the same? -/
import Derived.WideKeyRuns
import Derived.Laws.StructEq
import Derived.Test.YtciciaikajdenaaQN21
import Derived.Test.YtciciaikajdenaaQAf
set_option linter.unusedSimpArgs false
set_option linter.unusedVariables false
namespace Go.Proofs.Ytciciaikajdenaa
open Go.RowKit

section
open Classical
theorem bytesEq25 (a b : ByteArray) : (a == b) = true ↔ a = b := by
  obtain ⟨x⟩ := a
  obtain ⟨y⟩ := b
  constructor
  · intro h
    have e : x = y := by simpa using (show (x == y) = true from h)
    rw [e]
  · intro h
    cases h
    show (x == x) = true
    simp
theorem AWord.eq25 (x y : AWord) : x = y ↔ x.k = y.k ∧ x.n = y.n ∧ x.s = y.s ∧ x.g = y.g := by
  cases x; cases y; simp
def wordFields25 : List Field := [{ name := "Kind", type := 5, offset := 0, embedded := false, tag := "", pkgPath := "", byteOffset := 0 }, { name := "N", type := 2, offset := 1, embedded := false, tag := "", pkgPath := "", byteOffset := 8 },
  { name := "S", type := 9, offset := 2, embedded := false, tag := "", pkgPath := "", byteOffset := 16 }, { name := "Gen", type := 3, offset := 3, embedded := false, tag := "", pkgPath := "", byteOffset := 32 }]
theorem word_fields25 : (Try.prog.fieldsOf 36).toList = wordFields25 := by kernel_rfl
theorem word_under25 : Try.prog.underlying 36 = some (.struct (Try.prog.fieldsOf 36)) := by kernel_rfl
theorem word_stood25 : Try.prog.stoodInHeld 36 = false := by kernel_rfl
theorem plainK5 : Try.prog.plainKey 5 = true := by kernel_rfl
theorem plainK2 : Try.prog.plainKey 2 = true := by kernel_rfl
theorem plainK9 : Try.prog.plainKey 9 = true := by kernel_rfl
theorem plainK3 : Try.prog.plainKey 3 = true := by kernel_rfl
theorem part_word25 (x : AWord) (w : World) :
    (part 5 #[.int .u8 x.k, .int .i64 x.n, .string x.s, .int .i64 x.g] 0).run Try.prog w = .ok (.int .u8 x.k) w ∧ (part 2 #[.int .u8 x.k, .int .i64 x.n, .string x.s, .int .i64 x.g] 1).run Try.prog w = .ok (.int .i64 x.n) w ∧
    (part 9 #[.int .u8 x.k, .int .i64 x.n, .string x.s, .int .i64 x.g] 2).run Try.prog w = .ok (.string x.s) w ∧ (part 3 #[.int .u8 x.k, .int .i64 x.n, .string x.s, .int .i64 x.g] 3).run Try.prog w = .ok (.int .i64 x.g) w :=
  ⟨run_part_plain w plainK5 rfl, run_part_plain w plainK2 rfl, run_part_plain w plainK9 rfl, run_part_plain w plainK3 rfl⟩
theorem word_eq25 (x y : AWord) (w : World) : (Op.equalIn 10000 36 (wv x) (wv y)).run Try.prog w = .ok (decide (x = y)) w := by
  unfold wv
  show (Op.equalIn (9999 + 1) 36 _ _).run Try.prog w = _
  rw [run_equalIn_struct w 9999 36 _ _ word_under25 word_stood25, word_fields25]
  obtain ⟨p0, p1, p2, p3⟩ := part_word25 x w
  obtain ⟨r0, r1, r2, r3⟩ := part_word25 y w
  have e0 := run_equalIn_int (P := Try.prog) w 9998 5 .u8 .u8 x.k y.k Try.underlying5
  have e1 := run_equalIn_int (P := Try.prog) w 9998 2 .i64 .i64 x.n y.n Try.underlying2
  have e2 := run_equalIn_string (P := Try.prog) w 9998 9 x.s y.s Try.underlying9
  have e3 := run_equalIn_int (P := Try.prog) w 9998 3 .i64 .i64 x.g y.g Try.underlying3
  simp only [wordFields25, Op.eqFields, ne_eq, String.reduceEq, not_false_eq_true, if_true, Sem.run_bind, p0, p1, p2, p3, r0, r1, r2, r3, Result.andThen_ok, e0, e1, e2, e3, Sem.run_ite, Sem.run_pure, Bool.not_eq_true']
  rw [← beq_toListBytes]
  have hs : (x.s == y.s) = decide (x.s = y.s) := by
    by_cases h2 : x.s = y.s
    · rw [(bytesEq25 _ _).2 h2]; simp [h2]
    · cases q : x.s == y.s
      · simp [h2]
      · exact absurd ((bytesEq25 _ _).1 q) h2
  rw [hs]
  by_cases h0 : x.k = y.k <;> by_cases h1 : x.n = y.n <;> by_cases h2 : x.s = y.s <;> by_cases h3 : x.g = y.g <;> simp [h0, h1, h2, h3, AWord.eq25]
end
def wordVs (x : AWord) : List Value := [.int .u8 x.k, .int .i64 x.n, .string x.s, .int .i64 x.g]
theorem word_dec (x y : AWord) (w : World) (r : Bool) (h : r = true ↔ x = y) : (Op.equalIn 10000 36 (.agg (wordVs x).toArray) (.agg (wordVs y).toArray)).run Try.prog w = .ok r w := by
  have := word_eq25 x y w
  rw [show (Value.agg (wordVs x).toArray) = wv x from rfl, show (Value.agg (wordVs y).toArray) = wv y from rfl, this]
  by_cases e : x = y
  · rw [h.2 e]; simp [e]
  · cases r
    · simp [e]
    · exact absurd (h.1 rfl) e
section
variable {nt : Nat} {ops : Array Oper} {dr : Bool} {dos ends : List Nat} {i d ty : Nat} {pos : String} {aft : Array Edge} {gd : Option (Nat × Bool)} {l : Trr} {Q : Exit → Fr → List AObj → Prop} {fr : Fr} {σ : List AObj}
theorem s_wEq_t {t' : TypeId} {a b : Operand} (x y : AWord) (hp : dr = dr) (hg : guardB ops fr gd = some true) (ht : Nat.blt d nt = true) (ha : aget fr a = .d (.agg (wordD x))) (hb : aget fr b = .d (.agg (wordD y))) (he : x = y) (h : AL Try.prog nt ops dr dos ends l Q ((d, .d (.v (.bool true))) :: fr) σ) : ALo Try.prog nt ops dr dos ends i ⟨some d, .binOp .eql 36 a b t', ty, pos, aft, gd⟩ l Q fr σ :=
  ⟨fun ho => s_read ho hp hg ht (rd_aggEq (xs := wordVs x) (ys := wordVs y) (r := true) rfl (by kernel_rfl) ha hb (fun w => word_dec x y w true (by simp [he]))) h⟩
theorem s_wEq_f {t' : TypeId} {a b : Operand} (x y : AWord) (hp : dr = dr) (hg : guardB ops fr gd = some true) (ht : Nat.blt d nt = true) (ha : aget fr a = .d (.agg (wordD x))) (hb : aget fr b = .d (.agg (wordD y))) (he : x ≠ y) (h : AL Try.prog nt ops dr dos ends l Q ((d, .d (.v (.bool false))) :: fr) σ) : ALo Try.prog nt ops dr dos ends i ⟨some d, .binOp .eql 36 a b t', ty, pos, aft, gd⟩ l Q fr σ :=
  ⟨fun ho => s_read ho hp hg ht (rd_aggEq (xs := wordVs x) (ys := wordVs y) (r := false) rfl (by kernel_rfl) ha hb (fun w => word_dec x y w false (by simp [he]))) h⟩
theorem s_wNe_f {t' : TypeId} {a b : Operand} (x y : AWord) (hp : dr = dr) (hg : guardB ops fr gd = some true) (ht : Nat.blt d nt = true) (ha : aget fr a = .d (.agg (wordD x))) (hb : aget fr b = .d (.agg (wordD y))) (he : x = y) (h : AL Try.prog nt ops dr dos ends l Q ((d, .d (.v (.bool false))) :: fr) σ) : ALo Try.prog nt ops dr dos ends i ⟨some d, .binOp .neq 36 a b t', ty, pos, aft, gd⟩ l Q fr σ :=
  ⟨fun ho => s_read ho hp hg ht (rd_aggNe (xs := wordVs x) (ys := wordVs y) (r := true) rfl (by kernel_rfl) ha hb (fun w => word_dec x y w true (by simp [he]))) h⟩
theorem s_wNe_t {t' : TypeId} {a b : Operand} (x y : AWord) (hp : dr = dr) (hg : guardB ops fr gd = some true) (ht : Nat.blt d nt = true) (ha : aget fr a = .d (.agg (wordD x))) (hb : aget fr b = .d (.agg (wordD y))) (he : x ≠ y) (h : AL Try.prog nt ops dr dos ends l Q ((d, .d (.v (.bool true))) :: fr) σ) : ALo Try.prog nt ops dr dos ends i ⟨some d, .binOp .neq 36 a b t', ty, pos, aft, gd⟩ l Q fr σ :=
  ⟨fun ho => s_read ho hp hg ht (rd_aggNe (xs := wordVs x) (ys := wordVs y) (r := false) rfl (by kernel_rfl) ha hb (fun w => word_dec x y w false (by simp [he]))) h⟩
end
end Go.Proofs.Ytciciaikajdenaa
