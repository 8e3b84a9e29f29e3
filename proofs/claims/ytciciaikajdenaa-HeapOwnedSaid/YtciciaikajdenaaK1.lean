/- The heaps that 'known' goes through. -/
import Derived.Test.YtciciaikajdenaaHModel
set_option linter.unusedSimpArgs false
namespace Go.Proofs.Ytciciaikajdenaa

theorem toList_nil : (⟨#[]⟩ : ByteArray).toList = [] := (toList_nil_iff_emptyBytes _).2 rfl

def kA : ACell := ⟨1, 7, [⟨1, 1, ⟨#[]⟩, 0⟩]⟩
def kArr : ACell := ⟨3, 0, []⟩
def kFun : ACell := ⟨2, 2, []⟩
def kH0 : AHeap := AHeap.new 2
def kH1 : AHeap := ⟨2, 1, [⟨kA, 0, true⟩], []⟩
def kH2 : AHeap := ⟨2, 2, [⟨kA, 0, true⟩, ⟨kA, 0, true⟩], []⟩
def kH3 : AHeap := ⟨2, 2, [⟨.zero, 1, false⟩, ⟨kA, 0, true⟩], [0]⟩
def kH4 : AHeap := ⟨2, 2, [⟨kArr, 1, true⟩, ⟨kA, 0, true⟩], []⟩
def kH5 : AHeap := ⟨2, 2, [⟨kArr, 1, true⟩, ⟨kFun, 1, true⟩], []⟩

theorem kA_ok : kA.ok = true := by simp [ACell.ok, ACell.headOk, kA, AWord.ok, toList_nil]
theorem kArr_ok : kArr.ok = true := by simp [ACell.ok, ACell.headOk, kArr]
theorem kFun_ok : kFun.ok = true := by simp [ACell.ok, ACell.headOk, kFun]
theorem cellWord_ok (n g : Int) (hn : 0 ≤ n) (hg : 0 ≤ g) : (cellWord n g).ok = true := by simp [AWord.ok, cellWord, toList_nil, hn, hg]

theorem k01 : kH0.alloc kA = ((cellWord 0 0, 0), kH1) := by simp [AHeap.alloc, kA_ok, kH0, AHeap.new, AHeap.live, AHeap.give, kH1]; rfl
theorem k12 : kH1.alloc kA = ((cellWord 1 0, 0), kH2) := by simp [AHeap.alloc, kA_ok, kH1, AHeap.live, AHeap.give, kH2]; rfl
theorem k2f : kH2.alloc kA = ((.zero, 7), kH2) := by simp [AHeap.alloc, kA_ok, kH2, AHeap.live]
theorem k2find : kH2.find (cellWord 0 0) = (0, 0) := by
  unfold AHeap.find
  rw [cellWord_ok 0 0 (by decide) (by decide)]
  simp [cellWord, kH2]
theorem k23 : kH2.drop (cellWord 0 0) = ((kA, 0), kH3) := by
  unfold AHeap.drop
  rw [k2find]
  simp [kH2, kH3, AHeap.slot, AHeap.freed]
theorem k3find : kH3.find (cellWord 0 0) = (230, 0) := by
  unfold AHeap.find
  rw [cellWord_ok 0 0 (by decide) (by decide)]
  simp [cellWord, kH3]
theorem k3get : kH3.get (cellWord 0 0) = (.zero, 230) := by unfold AHeap.get; rw [k3find]; rfl
theorem k34 : kH3.alloc kArr = ((cellWord 0 1, 0), kH4) := by simp [AHeap.alloc, kArr_ok, kH3, AHeap.live, AHeap.give, kH4, AHeap.slot]
theorem k4find0 : kH4.find (cellWord 0 0) = (230, 0) := by
  unfold AHeap.find
  rw [cellWord_ok 0 0 (by decide) (by decide)]
  simp [cellWord, kH4]
theorem k4get : kH4.get (cellWord 0 0) = (.zero, 230) := by unfold AHeap.get; rw [k4find0]; rfl
theorem k4find : kH4.find (cellWord 1 0) = (0, 1) := by
  unfold AHeap.find
  rw [cellWord_ok 1 0 (by decide) (by decide)]
  simp [cellWord, kH4]
theorem k45 : kH4.renew (cellWord 1 0) kFun = ((cellWord 1 1, 0), kH5) := by
  unfold AHeap.renew
  rw [k4find, kFun_ok]
  simp [kH4, kH5, AHeap.slot, AHeap.renewed, cellWord]
theorem k5find : kH5.find (cellWord 1 1) = (0, 1) := by
  unfold AHeap.find
  rw [cellWord_ok 1 1 (by decide) (by decide)]
  simp [cellWord, kH5]
theorem k5set (x : AWord) : kH5.set (cellWord 1 1) 0 x = ((.zero, 5), kH5) := by
  unfold AHeap.set
  rw [k5find]
  simp [kH5, AHeap.slot, kFun]
theorem k5find2 : kH5.find (cellWord 2 0) = (4, 0) := by
  unfold AHeap.find
  rw [cellWord_ok 2 0 (by decide) (by decide)]
  simp [cellWord, kH5]
theorem k5get : kH5.get (cellWord 2 0) = (.zero, 4) := by unfold AHeap.get; rw [k5find2]; rfl
theorem k5live : kH5.live = 2 := by simp [AHeap.live, kH5]

theorem k0ok : kH0.Ok 10 := AHeap.new_ok 2 (by decide) (by decide) 10
theorem k1ok : kH1.Ok 10 := by
  have := k0ok.give (by decide) (c := kA) (by decide) (by simp [AHeap.live, kH0, AHeap.new])
  have e : (kH0.give kA).2 = kH1 := by simp [AHeap.give, kH0, AHeap.new, kH1, AHeap.live]; rfl
  rwa [e] at this
theorem k2ok : kH2.Ok 10 := by
  have := k1ok.give (by decide) (c := kA) (by decide) (by simp [AHeap.live, kH1])
  have e : (kH1.give kA).2 = kH2 := by simp [AHeap.give, kH1, kH2, AHeap.live]; rfl
  rwa [e] at this
theorem k3ok : kH3.Ok 11 := by
  have := k2ok.freed (i := 0) (by simp [kH2]) (by simp [kH2, AHeap.slot])
  have e : kH2.freed 0 = kH3 := by simp [AHeap.freed, kH2, kH3, AHeap.slot]
  rwa [e] at this
theorem k4ok : kH4.Ok 11 := by
  have := k3ok.give (by decide) (c := kArr) (by decide) (by simp [AHeap.live, kH3])
  have e : (kH3.give kArr).2 = kH4 := by simp [AHeap.give, kH3, kH4, AHeap.live, AHeap.slot]
  rwa [e] at this
theorem k5ok : kH5.Ok 12 := by
  have := k4ok.renewed (i := 1) (by simp [kH4]) (by simp [kH4, AHeap.slot]) (c := kFun) (by decide)
  have e : kH4.renewed 1 kFun = kH5 := by simp [AHeap.renewed, kH4, kH5, AHeap.slot]
  rwa [e] at this

end Go.Proofs.Ytciciaikajdenaa
