/- The chapter's rows, as data. No program in sight. -/
import Derived.Test.YtlpgekodoiioaaaWLaw
import Derived.Lib.Bytealg
set_option linter.unusedSimpArgs false
set_option linter.unusedVariables false
namespace Go.Proofs.Ytlpgekodoiioaaa

def bA : ByteArray := ⟨#[97]⟩
def bB : ByteArray := ⟨#[98]⟩
def bX : ByteArray := ⟨#[120]⟩
def bY : ByteArray := ⟨#[121]⟩
def bZ : ByteArray := ⟨#[122]⟩
def bXY : ByteArray := ⟨#[120, 10, 121]⟩
def bXYZ : ByteArray := ⟨#[120, 10, 121, 122]⟩

def k0 : AW := ⟨[⟨bA, bXY⟩], [false, false, false, true], [], []⟩
def t1 : AOp := ⟨1, 0, bA, emptyB, true⟩
def t2 : AOp := ⟨2, 0, emptyB, bX, true⟩
def t3 : AOp := ⟨2, 0, emptyB, bY, true⟩
def t4 : AOp := ⟨2, 0, emptyB, emptyB, false⟩
def t5 : AOp := ⟨2, 0, emptyB, emptyB, true⟩
def t6 : AOp := ⟨3, 0, emptyB, bZ, true⟩
def t7 : AOp := ⟨2, 0, emptyB, bZ, true⟩
def t8 : AOp := ⟨4, 0, emptyB, emptyB, true⟩
def t9 : AOp := ⟨1, -1, bB, emptyB, false⟩
def k1 : AW := ⟨[⟨bA, bXY⟩], [false, false, true], [⟨0, 0, false⟩], [t1]⟩
def k2 : AW := ⟨[⟨bA, bXY⟩], [false, true], [⟨0, 2, false⟩], [t1, t2]⟩
def k3 : AW := ⟨[⟨bA, bXY⟩], [true], [⟨0, 3, false⟩], [t1, t2, t3]⟩
def k4 : AW := ⟨[⟨bA, bXY⟩], [], [⟨0, 3, false⟩], [t1, t2, t3, t4]⟩
def k5 : AW := ⟨[⟨bA, bXY⟩], [], [⟨0, 3, false⟩], [t1, t2, t3, t4, t5]⟩
def k6 : AW := ⟨[⟨bA, bXYZ⟩], [], [⟨0, 3, false⟩], [t1, t2, t3, t4, t5, t6]⟩
def k7 : AW := ⟨[⟨bA, bXYZ⟩], [], [⟨0, 4, false⟩], [t1, t2, t3, t4, t5, t6, t7]⟩
def k8 : AW := ⟨[⟨bA, bXYZ⟩], [], [⟨0, 4, true⟩], [t1, t2, t3, t4, t5, t6, t7, t8]⟩
def k9 : AW := ⟨[⟨bA, bXYZ⟩], [], [⟨0, 4, true⟩], [t1, t2, t3, t4, t5, t6, t7, t8, t9]⟩

theorem tl_a : bXY.toList = [120, 10, 121] := by rw [Go.Lib.toList_data]; rfl
theorem tl_b : bXYZ.toList = [120, 10, 121, 122] := by rw [Go.Lib.toList_data]; rfl

theorem r1 : k0.open_ bA = ((0, true), k1) := by
  unfold AW.open_ nameIdx
  rfl
theorem r2 : k1.read 0 = ((1, bX, 0), k2) := by
  unfold AW.read
  simp only [show k1.wrong 0 = 0 from rfl, show (k1.file (k1.handle (0:Int).toNat).file).text = bXY from rfl, tl_a]
  rfl
theorem r3 : k2.read 0 = ((1, bY, 0), k3) := by
  unfold AW.read
  simp only [show k2.wrong 0 = 0 from rfl, show (k2.file (k2.handle (0:Int).toNat).file).text = bXY from rfl, tl_a]
  rfl
theorem r4 : k3.read 0 = ((3, emptyB, 0), k4) := by
  unfold AW.read
  simp only [show k3.wrong 0 = 0 from rfl, show (k3.file (k3.handle (0:Int).toNat).file).text = bXY from rfl, tl_a]
  rfl
theorem r5 : k4.read 0 = ((2, emptyB, 0), k5) := by
  unfold AW.read
  simp only [show k4.wrong 0 = 0 from rfl, show (k4.file (k4.handle (0:Int).toNat).file).text = bXY from rfl, tl_a]
  rfl
theorem r6 : k5.write 0 bZ = ((true, 0), k6) := by
  have e : bXY ++ bZ = bXYZ := by decide
  unfold AW.write
  simp only [show k5.wrong 0 = 0 from rfl, show k5.handle (0:Int).toNat = ⟨0, 3, false⟩ from rfl, show k5.file 0 = ⟨bA, bXY⟩ from rfl, e]
  rfl
theorem r7 : k6.read 0 = ((1, bZ, 0), k7) := by
  unfold AW.read
  simp only [show k6.wrong 0 = 0 from rfl, show (k6.file (k6.handle (0:Int).toNat).file).text = bXYZ from rfl, tl_b]
  rfl
theorem r8 : k7.close 0 = ((true, 0), k8) := rfl
theorem r9 : k8.read 0 = ((0, emptyB, 220), k8) := by
  unfold AW.read
  simp only [show k8.wrong 0 = 220 from rfl]
  rfl
theorem r10 : k8.open_ bB = ((0, false), k9) := by
  unfold AW.open_ nameIdx
  rfl
theorem r11 : k9.read 7 = ((0, emptyB, 4), k9) := by
  unfold AW.read
  simp only [show k9.wrong 7 = 4 from rfl]
  rfl
theorem new_k0 : NewOk k0.files := ⟨by decide, fun k f h => by
  match k, h with
  | 0, h => injection h with h; subst h; exact ⟨by decide, fun g hg => by simp at hg⟩
  | k + 1, h => simp [k0] at h⟩
end Go.Proofs.Ytlpgekodoiioaaa
