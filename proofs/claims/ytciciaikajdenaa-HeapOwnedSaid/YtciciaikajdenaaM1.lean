/- Words as keys of a map. -/
import Derived.Test.YtciciaikajdenaaW4
import Derived.Test.YtciciaikajdenaaW19
import Derived.Test.YtciciaikajdenaaMaps
import Derived.WideKeyRuns
import Derived.Laws.StructEq
import Derived.MapKept
import Derived.ChangeKeysEq
set_option linter.unusedSimpArgs false
set_option linter.unusedVariables false
namespace Go.Proofs.Ytciciaikajdenaa
open Go.RowKit
open Classical

theorem bytesEq (a b : ByteArray) : (a == b) = true ↔ a = b := by
  obtain ⟨x⟩ := a
  obtain ⟨y⟩ := b
  constructor
  · intro h
    have e : x = y := by simpa using (show (x == y) = true from h)
    rw [e]
  · intro h
    cases h
    show (x == x) = true
    simp

theorem AWord.eq_iff (x y : AWord) : x = y ↔ x.k = y.k ∧ x.n = y.n ∧ x.s = y.s ∧ x.g = y.g := by
  cases x; cases y; simp

def wordFields : List Field := [{ name := "Kind", type := 5, offset := 0, embedded := false, tag := "", pkgPath := "", byteOffset := 0 }, { name := "N", type := 2, offset := 1, embedded := false, tag := "", pkgPath := "", byteOffset := 8 },
  { name := "S", type := 9, offset := 2, embedded := false, tag := "", pkgPath := "", byteOffset := 16 }, { name := "Gen", type := 3, offset := 3, embedded := false, tag := "", pkgPath := "", byteOffset := 32 }]

theorem word_fields : (Try.prog.fieldsOf 36).toList = wordFields := by kernel_rfl
theorem word_under : Try.prog.underlying 36 = some (.struct (Try.prog.fieldsOf 36)) := by kernel_rfl
theorem word_stood : Try.prog.stoodInHeld 36 = false := by kernel_rfl
theorem plain5 : Try.prog.plainKey 5 = true := by kernel_rfl
theorem plain2 : Try.prog.plainKey 2 = true := by kernel_rfl
theorem plain9 : Try.prog.plainKey 9 = true := by kernel_rfl
theorem plain3 : Try.prog.plainKey 3 = true := by kernel_rfl

theorem part_word (x : AWord) (w : World) :
    (part 5 #[.int .u8 x.k, .int .i64 x.n, .string x.s, .int .i64 x.g] 0).run Try.prog w = .ok (.int .u8 x.k) w ∧ (part 2 #[.int .u8 x.k, .int .i64 x.n, .string x.s, .int .i64 x.g] 1).run Try.prog w = .ok (.int .i64 x.n) w ∧
    (part 9 #[.int .u8 x.k, .int .i64 x.n, .string x.s, .int .i64 x.g] 2).run Try.prog w = .ok (.string x.s) w ∧ (part 3 #[.int .u8 x.k, .int .i64 x.n, .string x.s, .int .i64 x.g] 3).run Try.prog w = .ok (.int .i64 x.g) w :=
  ⟨run_part_plain w plain5 rfl, run_part_plain w plain2 rfl, run_part_plain w plain9 rfl, run_part_plain w plain3 rfl⟩

theorem word_eq (x y : AWord) (w : World) : (Op.equal 36 (wv x) (wv y)).run Try.prog w = .ok (decide (x = y)) w := by
  unfold wv
  show (Op.equalIn (9999 + 1) 36 _ _).run Try.prog w = _
  rw [run_equalIn_struct w 9999 36 _ _ word_under word_stood, word_fields]
  obtain ⟨p0, p1, p2, p3⟩ := part_word x w
  obtain ⟨r0, r1, r2, r3⟩ := part_word y w
  have e0 := run_equalIn_int (P := Try.prog) w 9998 5 .u8 .u8 x.k y.k Try.underlying5
  have e1 := run_equalIn_int (P := Try.prog) w 9998 2 .i64 .i64 x.n y.n Try.underlying2
  have e2 := run_equalIn_string (P := Try.prog) w 9998 9 x.s y.s Try.underlying9
  have e3 := run_equalIn_int (P := Try.prog) w 9998 3 .i64 .i64 x.g y.g Try.underlying3
  simp only [wordFields, Op.eqFields, ne_eq, String.reduceEq, not_false_eq_true, if_true, Sem.run_bind, p0, p1, p2, p3, r0, r1, r2, r3, Result.andThen_ok, e0, e1, e2, e3, Sem.run_ite, Sem.run_pure, Bool.not_eq_true']
  rw [← beq_toListBytes]
  have hs : (x.s == y.s) = decide (x.s = y.s) := by
    by_cases h2 : x.s = y.s
    · rw [(bytesEq _ _).2 h2]; simp [h2]
    · cases q : x.s == y.s
      · simp [h2]
      · exact absurd ((bytesEq _ _).1 q) h2
  rw [hs]
  by_cases h0 : x.k = y.k <;> by_cases h1 : x.n = y.n <;> by_cases h2 : x.s = y.s <;> by_cases h3 : x.g = y.g <;> simp [h0, h1, h2, h3, AWord.eq_iff]

theorem word_chk (b : Bool) (x : AWord) (w : World) : (Instr.checkKey b 10000 36 (wv x)).run Try.prog w = .ok () w := by
  unfold wv
  show (Instr.checkKey b (9999 + 1) 36 _).run Try.prog w = _
  obtain ⟨p0, p1, p2, p3⟩ := part_word x w
  have c0 : (Instr.checkKey b 9999 5 (.int .u8 x.k)).run Try.prog w = .ok () w := by
    show (Instr.checkKey b (9998 + 1) 5 _).run Try.prog w = _
    unfold Instr.checkKey
    simp only [Sem.run_bind, run_underlying Try.underlying5, Result.andThen_ok, Sem.run_pure]
  have c1 : (Instr.checkKey b 9999 2 (.int .i64 x.n)).run Try.prog w = .ok () w := by
    show (Instr.checkKey b (9998 + 1) 2 _).run Try.prog w = _
    unfold Instr.checkKey
    simp only [Sem.run_bind, run_underlying Try.underlying2, Result.andThen_ok, Sem.run_pure]
  have c2 : (Instr.checkKey b 9999 9 (.string x.s)).run Try.prog w = .ok () w := by
    show (Instr.checkKey b (9998 + 1) 9 _).run Try.prog w = _
    unfold Instr.checkKey
    simp only [Sem.run_bind, run_underlying Try.underlying9, Result.andThen_ok, Sem.run_pure]
  have c3 : (Instr.checkKey b 9999 3 (.int .i64 x.g)).run Try.prog w = .ok () w := by
    show (Instr.checkKey b (9998 + 1) 3 _).run Try.prog w = _
    unfold Instr.checkKey
    simp only [Sem.run_bind, run_underlying Try.underlying3, Result.andThen_ok, Sem.run_pure]
  unfold Instr.checkKey
  simp only [Sem.run_bind, run_underlying word_under, Result.andThen_ok]
  rw [← Array.forIn_toList, word_fields]
  simp only [wordFields, List.forIn_cons, List.forIn_nil, ne_eq, String.reduceEq, not_false_eq_true, if_true, Sem.run_bind, p0, p1, p2, p3, Result.andThen_ok, c0, c1, c2, c3, Sem.run_ite, Sem.run_pure]

theorem word_bits (x : AWord) : Instr.sameBits 10000 (wv x) (wv x) = true := by
  unfold wv
  have hb : (x.s == x.s) = true := (bytesEq _ _).2 rfl
  simp [Instr.sameBits, hb]

theorem word_law : KeyLaw Try.prog 36 wv where
  find x arr es w e := by
    rw [run_findKey_eq w (by kernel_rfl) (wv x) arr]
    exact findAsking_run word_eq x arr es 0 w e
  chk b x w := word_chk b x w
  bits x := word_bits x

end Go.Proofs.Ytciciaikajdenaa
