/- Set. -/
import Derived.Test.YtciciaikajdenaaW7
namespace Go.Proofs.Ytciciaikajdenaa
open Go.RowKit

theorem flat_set_same {α : Type} {f : α → List Value} : ∀ {l : List α} {i : Nat} {x y : α}, l[i]? = some x → f y = f x → (l.set i y).flatMap f = l.flatMap f
  | [], i, x, y, h, _ => by simp at h
  | a :: l, 0, x, y, h, e => by simp at h; subst h; simp [e]
  | a :: l, i + 1, x, y, h, e => by simp [flat_set_same (l := l) (i := i) (by simpa using h) e]

theorem slots_map_set {sv : List (ASlot × Value)} {H : AHeap} (e : sv.map Prod.fst = H.slots) (i : Nat) (s : ASlot) (v : Value) : (sv.set i (s, v)).map Prod.fst = H.slots.set i s := by
  rw [List.map_set, e]

def SetCPost (W0 : World) (L : List HProp) (p : Nat) (r : (AWord × Int) × AHeap) (e : Ending) (w' : World) : Prop :=
  e = .returned (.tuple #[wv r.1.1, .int .i64 r.1.2]) ∧ St W0 w' (heapAt p r.2 :: L)

theorem AHeap.Ok.max {H : AHeap} {B : Int} (ok : H.Ok B) : H.slots.length ≤ maxLen := by have := ok.few; have := ok.room1; unfold maxLen; omega

/-- The end of Set, whatever the closure did. -/
def SetMid (W0 : World) (n : Nat) (L : List HProp) (p : Nat) (i : Int) (x y : AWord) (r : (AWord × Int) × AHeap) (e : Ending) (w' : World) : Prop :=
  e = .returned (.int .i64 r.1.2) ∧ St W0 w' (cellsB (n + 4) #[.int .u8 r.1.1.k, .int .i64 r.1.1.n, .string r.1.1.s, .int .i64 r.1.1.g] 36 :: cellsB (n + 3) #[.int .u8 0, .int .i64 0, .string ⟨#[]⟩, .int .i64 0] 36 ::
    cellsB (n + 2) #[.int .u8 y.k, .int .i64 y.n, .string y.s, .int .i64 y.g] 36 :: cellsB (n + 1) #[.int .i64 i] 3 :: cellsB n #[.int .u8 x.k, .int .i64 x.n, .string x.s, .int .i64 x.g] 36 :: heapAt p r.2 :: L)

def setWorld (w : World) (i : Int) (x y : AWord) : World := ((((w.alloc (.cells #[Value.int .u8 x.k, .int .i64 x.n, .string x.s, .int .i64 x.g] 36)).alloc (.cells #[Value.int .i64 i] 3)).alloc (.cells #[Value.int .u8 y.k, .int .i64 y.n, .string y.s, .int .i64 y.g] 36)).alloc (.cells #[Value.int .u8 0, .int .i64 0, .string ⟨#[]⟩, .int .i64 0] 36)).alloc (.cells #[Value.int .u8 0, .int .i64 0, .string ⟨#[]⟩, .int .i64 0] 36)

theorem set_mid {W0 w : World} {L : List HProp} {p : Nat} {H : AHeap} {B : Int} (h : St W0 w (heapAt p H :: L)) (ok : H.Ok B) (x : AWord) (i : Int) (y : AWord) :
    Calls Try.prog 76 #[.pointer (some ⟨p, 0, none⟩), wv x, .func (.func 80) #[] #[.pointer (some ⟨w.heap.size + 1, 0, none⟩), .pointer (some ⟨w.heap.size + 2, 0, none⟩), .pointer (some ⟨w.heap.size + 4, 0, none⟩)]] (setWorld w i x y)
      fun e w' => SetMid W0 w.heap.size L p i x y (H.set x i y) e w' := by
  have s0 := ((((h.allocC #[Value.int .u8 x.k, .int .i64 x.n, .string x.s, .int .i64 x.g] 36).allocC #[Value.int .i64 i] 3).allocC #[Value.int .u8 y.k, .int .i64 y.n, .string y.s, .int .i64 y.g] 36).allocC #[Value.int .u8 0, .int .i64 0, .string ⟨#[]⟩, .int .i64 0] 36).allocC #[Value.int .u8 0, .int .i64 0, .string ⟨#[]⟩, .int .i64 0] 36
  simp only [World.size_alloc, Nat.add_assoc, Nat.reduceAdd] at s0
  by_cases hk : (H.find x).1 = 0
  · obtain ⟨j, hj⟩ : ∃ j, H.find x = (0, j) := ⟨(H.find x).2, Prod.ext hk rfl⟩
    obtain ⟨vs, vf, sv, e, hO⟩ := (s0.pull 5).heap_open
    have hz := AHeap.find_zero hk
    rw [hj] at hz
    simp only at hz
    have hlt := hz.2.2.2.2.1
    obtain ⟨v, hs⟩ := sv_get e hlt
    obtain ⟨b, cap, rest, rfl, c1, c2, c3, s⟩ := hO.heap_slots (by rw [sv_len e]; exact Nat.lt_of_le_of_lt (Nat.zero_le _) hlt)
    -- [b, p, own, slotsW, old, res, y, i, x, L]
    have order : ∀ w', Below (setWorld w i x y).heap.size (setWorld w i x y) w' → St W0 w' (cellsB (w.heap.size + 1) #[.int .i64 i] 3 :: cellsB (w.heap.size + 2) #[.int .u8 y.k, .int .i64 y.n, .string y.s, .int .i64 y.g] 36 :: cellsB (w.heap.size + 4) #[.int .u8 0, .int .i64 0, .string ⟨#[]⟩, .int .i64 0] 36 :: cellsB b (sv.flatMap slotCells ++ rest).toArray 124 :: slotsW sv :: cellsB p #[.int .i64 H.room, .int .i64 H.most, .slice (some ⟨b, 0, none⟩) sv.length cap, vf] 109 :: ownS 3 1 vf H.free.length (intsV H.free) :: cellsB (w.heap.size + 3) #[.int .u8 0, .int .i64 0, .string ⟨#[]⟩, .int .i64 0] 36 :: cellsB w.heap.size #[.int .u8 x.k, .int .i64 x.n, .string x.s, .int .i64 x.g] 36 :: L) := by
      intro w' hb
      have t := s.mono hb
      -- b first, then slotsW behind, then the boxes
      exact ((((t.pull 3).pull 1).pull 4).pull 6).pull 7
    have back : ∀ {w' : World} {sv' : List (ASlot × Value)} {H' : AHeap} {old : AWord}, sv'.map Prod.fst = H'.slots → sv'.length = sv.length → sv'.flatMap slotCells = sv.flatMap slotCells → H'.room = H.room → H'.most = H.most → H'.free = H.free →
        St W0 w' (cellsB (w.heap.size + 1) #[.int .i64 i] 3 :: cellsB (w.heap.size + 2) #[.int .u8 y.k, .int .i64 y.n, .string y.s, .int .i64 y.g] 36 :: cellsB (w.heap.size + 4) #[.int .u8 old.k, .int .i64 old.n, .string old.s, .int .i64 old.g] 36 :: cellsB b (sv.flatMap slotCells ++ rest).toArray 124 :: slotsW sv' :: cellsB p #[.int .i64 H.room, .int .i64 H.most, .slice (some ⟨b, 0, none⟩) sv.length cap, vf] 109 :: ownS 3 1 vf H.free.length (intsV H.free) :: cellsB (w.heap.size + 3) #[.int .u8 0, .int .i64 0, .string ⟨#[]⟩, .int .i64 0] 36 :: cellsB w.heap.size #[.int .u8 x.k, .int .i64 x.n, .string x.s, .int .i64 x.g] 36 :: L) →
        St W0 w' (cellsB (w.heap.size + 4) #[.int .u8 old.k, .int .i64 old.n, .string old.s, .int .i64 old.g] 36 :: cellsB (w.heap.size + 3) #[.int .u8 0, .int .i64 0, .string ⟨#[]⟩, .int .i64 0] 36 :: cellsB (w.heap.size + 2) #[.int .u8 y.k, .int .i64 y.n, .string y.s, .int .i64 y.g] 36 :: cellsB (w.heap.size + 1) #[.int .i64 i] 3 :: cellsB w.heap.size #[.int .u8 x.k, .int .i64 x.n, .string x.s, .int .i64 x.g] 36 :: heapAt p H' :: L) := by
      intro w' sv' H' old e1 e2 e3 e4 e5 e6 T
      rw [← e3, ← e2, ← e4, ← e5, ← e6] at T
      have T2 := St.heap_back e1 (by rw [e2]; exact c1) c2 (by rw [e2]; exact c3) ((((T.pull 4).pull 6).pull 6).pull 6)
      exact ((((T2.pull 5).pull 2).pull 3).pull 5).pull 5
    have hf : ∀ w', Below (setWorld w i x y).heap.size (setWorld w i x y) w' → Calls Try.prog 115 #[.pointer (some ⟨p, 0, none⟩), wv x] w' fun e w'' => e = .returned (.tuple #[.pointer (some ⟨b, j * 5, none⟩), .int .i64 0]) ∧ Below w'.heap.size w' w'' :=
      fun w' hb => find_good e x hj ok.max (s.mono hb)
    by_cases hr : i < 0 ∨ ((H.slot j).c.ws.length : Int) ≤ i
    · have hg : H.set x i y = ((.zero, 5), H) := by unfold AHeap.set; rw [hj]; simp only [ne_eq, not_true_eq_false, if_false, hr, if_true]
      rw [hg]
      refine (at_good80 hf (fun w' hb => set1_range (order w' hb) hs hr)).mono ?_
      rintro e' w' ⟨_, rfl, rfl, T⟩
      exact ⟨rfl, back (old := .zero) e rfl rfl rfl rfl rfl T⟩
    · have hr' := hr
      simp only [not_or, Int.not_lt, Int.not_le] at hr'
      cases hy : y.ok
      · have hg : H.set x i y = ((.zero, 2), H) := by unfold AHeap.set; rw [hj]; simp only [ne_eq, not_true_eq_false, if_false, hr, hy, if_true]
        rw [hg]
        refine (at_good80 hf (fun w' hb => set1_arg (order w' hb) hs hr'.1 hr'.2 hy)).mono ?_
        rintro e' w' ⟨_, rfl, rfl, T⟩
        exact ⟨rfl, back (old := .zero) e rfl rfl rfl rfl rfl T⟩
      · have hg : H.set x i y = (((H.slot j).c.ws.getD i.toNat .zero, 0), { H with slots := H.slots.set j { H.slot j with c := (H.slot j).c.put i.toNat y } }) := by
          unfold AHeap.set; rw [hj]; simp only [ne_eq, not_true_eq_false, if_false, hr, hy, Bool.true_eq_false]
        rw [hg]
        refine (at_good80 hf (fun w' hb => set1_ok (order w' hb) hs hr'.1 hr'.2 hy)).mono ?_
        rintro e' w' ⟨_, rfl, rfl, T⟩
        exact ⟨rfl, back (slots_map_set e j _ v) (by simp) (flat_set_same hs rfl) rfl rfl rfl T⟩
  · obtain ⟨k, hk'⟩ : ∃ k, (H.find x).1 = k := ⟨_, rfl⟩
    have k0 : k ≠ 0 := fun q => hk (hk'.trans q)
    have hg : H.set x i y = ((.zero, k), H) := by unfold AHeap.set; rw [if_pos hk, hk']
    rw [hg]
    refine (at_bad (w := setWorld w i x y) (x := x) (beq_eq_false_iff_ne.2 k0) _ (fun w' hb => find_bad ((s0.pull 5).mono hb) x hk' k0 ok.max)).mono ?_
    rintro e w' ⟨rfl, hb⟩
    exact ⟨rfl, s0.mono hb⟩

set_option maxRecDepth 100000 in
theorem set_c {W0 w : World} {L : List HProp} {p : Nat} {H : AHeap} {B : Int} (h : St W0 w (heapAt p H :: L)) (ok : H.Ok B) (x : AWord) (i : Int) (y : AWord) :
    Calls Try.prog 27 #[.pointer (some ⟨p, 0, none⟩), wv x, .int .i64 i, wv y] w fun e w' => SetCPost W0 L p (H.set x i y) e w' := by
  have M := Lib.hid (set_mid h ok x i y)
  unfold SetCPost
  generalize H.set x i y = r at *
  clear h ok
  unfold wv setWorld at *
  go_enter Try.func27, Try.ntmps27
  go_wp2_with (go_at_call 76; refine M.out.mono ?_; rintro e2 w2 ⟨rfl, S⟩; have d0 := S.cell; have d1 := (S.pull 1).cell; have f1 := (S.pull 1).free; have SS := Lib.hid S; clear S)
  simp only [Nat.add_assoc, Nat.reduceAdd]
  have S2 := ((((SS.out.pull 1).set 0 (.int .u8 r.1.1.k)).set 1 (.int .i64 r.1.1.n)).set 2 (.string r.1.1.s)).set 3 (.int .i64 r.1.1.g)
  have d2 := S2.cell
  refine bodyPost_ret (v := .tuple #[.agg #[.int .u8 r.1.1.k, .int .i64 r.1.1.n, .string r.1.1.s, .int .i64 r.1.1.g], .int .i64 r.1.2]) (by simp [results, Try.results27, go_sem, d2]) rfl ⟨rfl, ?_⟩
  exact S2.tail.tail.tail.tail.tail

end Go.Proofs.Ytciciaikajdenaa
