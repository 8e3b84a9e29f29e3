/- Scripts: what comes in, and how heavy it is. -/
import Derived.Test.YtciciaikajdenaaK2
import Derived.Lib.MinMax
set_option linter.unusedSimpArgs false
set_option linter.unusedVariables false
namespace Go.Proofs.Ytciciaikajdenaa
open Go.RowKit

structure ADo where
  kind : Int
  n : Int
  i : Int
  c : ACell
  x : AWord
  w : AWord
  raw : Bool

def dCells (p : ADo × Value) : List Value := [.int .i64 p.1.kind, .int .i64 p.1.n, .int .i64 p.1.i, .int .u8 p.1.c.k, .int .i64 p.1.c.n, p.2, .int .u8 p.1.x.k, .int .i64 p.1.x.n, .string p.1.x.s, .int .i64 p.1.x.g, .int .u8 p.1.w.k, .int .i64 p.1.w.n, .string p.1.w.s, .int .i64 p.1.w.g, .bool p.1.raw]
theorem dCells_len (p : ADo × Value) : (dCells p).length = 15 := rfl

/-- A script that can be read. -/
structure DosIn (w : World) (v : Value) (l : List (ADo × Value)) : Prop where
  row : rd w 15 v l.length (l.flatMap dCells)
  max : l.length ≤ maxLen
  each : ∀ p ∈ l, rd w 4 p.2 p.1.c.ws.length (flatW p.1.c.ws) ∧ p.1.c.ws.length ≤ maxLen

theorem DosIn.mono {w w' : World} {v : Value} {l : List (ADo × Value)} (h : DosIn w v l) (b : Below w.heap.size w w') : DosIn w' v l :=
  ⟨h.row.mono b, h.max, fun p hp => ⟨(h.each p hp).1.mono b, (h.each p hp).2⟩⟩

theorem rd_do {w : World} {b off n cap : Nat} {l : List (ADo × Value)} (h : rd w 15 (.slice (some ⟨b, off, none⟩) n cap) l.length (l.flatMap dCells)) {i : Nat} {p : ADo × Value} (hp : l[i]? = some p) :
    w.cell? ⟨b, off + i * 15, none⟩ = some (.int .i64 p.1.kind) ∧ w.cell? ⟨b, off + i * 15 + 1, none⟩ = some (.int .i64 p.1.n) ∧ w.cell? ⟨b, off + i * 15 + 2, none⟩ = some (.int .i64 p.1.i) ∧
    w.cell? ⟨b, off + i * 15 + 3, none⟩ = some (.int .u8 p.1.c.k) ∧ w.cell? ⟨b, off + i * 15 + 4, none⟩ = some (.int .i64 p.1.c.n) ∧ w.cell? ⟨b, off + i * 15 + 5, none⟩ = some p.2 ∧
    w.cell? ⟨b, off + i * 15 + 6, none⟩ = some (.int .u8 p.1.x.k) ∧ w.cell? ⟨b, off + i * 15 + 7, none⟩ = some (.int .i64 p.1.x.n) ∧ w.cell? ⟨b, off + i * 15 + 8, none⟩ = some (.string p.1.x.s) ∧ w.cell? ⟨b, off + i * 15 + 9, none⟩ = some (.int .i64 p.1.x.g) ∧
    w.cell? ⟨b, off + i * 15 + 10, none⟩ = some (.int .u8 p.1.w.k) ∧ w.cell? ⟨b, off + i * 15 + 11, none⟩ = some (.int .i64 p.1.w.n) ∧ w.cell? ⟨b, off + i * 15 + 12, none⟩ = some (.string p.1.w.s) ∧ w.cell? ⟨b, off + i * 15 + 13, none⟩ = some (.int .i64 p.1.w.g) ∧
    w.cell? ⟨b, off + i * 15 + 14, none⟩ = some (.bool p.1.raw) := by
  obtain ⟨_, h⟩ := h
  rcases h with ⟨_, h⟩ | ⟨b', off', cap', e, _, _, hr⟩
  · have := (List.getElem?_eq_some_iff.1 hp).1; omega
  · cases e
    have key : ∀ j u, j < 15 → (dCells p)[j]? = some u → w.cell? ⟨b, off + i * 15 + j, none⟩ = some u := by
      intro j u hj hu
      have := hr (i * 15 + j) u (by rw [flat_get dCells_len l i j p hp hj]; exact hu)
      rwa [← Nat.add_assoc] at this
    exact ⟨key 0 _ (by decide) rfl, key 1 _ (by decide) rfl, key 2 _ (by decide) rfl, key 3 _ (by decide) rfl, key 4 _ (by decide) rfl, key 5 _ (by decide) rfl, key 6 _ (by decide) rfl, key 7 _ (by decide) rfl, key 8 _ (by decide) rfl, key 9 _ (by decide) rfl, key 10 _ (by decide) rfl, key 11 _ (by decide) rfl, key 12 _ (by decide) rfl, key 13 _ (by decide) rfl, key 14 _ (by decide) rfl⟩

/-- A script that is gone through. -/
def Light (l : List (ADo × Value)) : Prop := l.length ≤ 400 ∧ ∀ p ∈ l, p.1.c.ws.length ≤ 20000

def HeavyPost (l : List (ADo × Value)) (w : World) (e : Ending) (w' : World) : Prop := ∃ b, e = .returned (.bool b) ∧ (b = false → Light l) ∧ Below w.heap.size w w'

def HeavyRel (l : List (ADo × Value)) (w : World) (n i : Value) (wr : World) : Prop :=
  ∃ (k : Nat) (s : Int), k ≤ l.length ∧ i = .int .i64 k ∧ n = .int .i64 s ∧ 0 ≤ s ∧ s ≤ 20000 ∧ (∀ p ∈ l.take k, p.1.c.ws.length ≤ 20000) ∧ St w wr []

def HeavyRel2 (p : ADo × Value) (w : World) (b5 m : Nat) (n i : Value) (wr : World) : Prop :=
  ∃ (k : Nat) (s : Int), k ≤ m ∧ i = .int .i64 k ∧ n = .int .i64 s ∧ (min (p.1.c.ws.length : Int) 65536) ≤ s ∧ s ≤ 100000 + k * 4096 ∧ St w wr [cellsB b5 (dCells p).toArray 38]

set_option maxRecDepth 100000 in
set_option maxHeartbeats 2000000 in
theorem heavy_c (v : Value) (l : List (ADo × Value)) (w : World) (h : DosIn w v l) :
    Calls Try.prog 14 #[v] w fun e w' => HeavyPost l w e w' := by
  obtain ⟨a, cap, rfl⟩ := rd_form h.row
  have hmax := h.max
  unfold maxLen at hmax
  have H := Lib.hid h
  clear h
  go_enter Try.func14, Try.ntmps14
  go_wp2
  go_loopw [3, 10] (fun n i wr => HeavyRel l w n i wr) (fun _ i _ => l.length - (intOf i).toNat)
  case atStart => exact ⟨0, 0, Nat.zero_le _, rfl, rfl, by decide, by decide, by simp, St.refl w⟩
  case round =>
    obtain ⟨k, s, hk, rfl, rfl, hs0, hs1, hall, S⟩ := hrel
    by_cases hlt : k < l.length
    · obtain ⟨⟨d, vp⟩, hp⟩ : ∃ p, l[k]? = some p := ⟨_, List.getElem?_eq_getElem hlt⟩
      have hE := H.out.each _ (List.mem_of_getElem? hp)
      simp only at hE
      obtain ⟨b, off, rfl⟩ := rd_some H.out.row (by omega)
      obtain ⟨va, vcap, rfl⟩ := rd_form hE.1
      obtain ⟨q0, q1, q2, q3, q4, q5, q6, q7, q8, q9, q10, q11, q12, q13, q14⟩ := rd_do (H.out.row.st S) hp
      simp only at q0 q1 q2 q3 q4 q5 q6 q7 q8 q9 q10 q11 q12 q13 q14
      have S1 := S.allocC (dCells (d, .slice va d.c.ws.length vcap)).toArray 38
      have HS := Lib.hid S1
      have HE := Lib.hid hE
      have HP := Lib.hid hp
      have hws := hE.2
      unfold maxLen at hws
      have HALL := Lib.hid hall
      obtain ⟨m, hm, hm1, hm2⟩ : ∃ m : Nat, min (d.c.ws.length : Int) 100 = m ∧ m ≤ d.c.ws.length ∧ m ≤ 100 := ⟨min d.c.ws.length 100, by omega, by omega, by omega⟩
      obtain ⟨q, hq, hq1⟩ : ∃ q : Nat, min (d.c.ws.length : Int) 65536 = q ∧ q ≤ 65536 := ⟨min d.c.ws.length 65536, by omega, by omega⟩
      have hmc : m ≤ vcap := by
        rcases hE.1.2 with ⟨_, e⟩ | ⟨_, _, _, e, h, _⟩
        · omega
        · injection e with _ _ e; omega
      clear S S1 hE hp hall
      go_wp2_with fail
      generalize wr.heap.size = b5 at HS ⊢
      go_loopw [3, 32] (fun n i wr => HeavyRel2 (d, .slice va d.c.ws.length vcap) w b5 m n i wr) (fun _ i _ => m - (intOf i).toNat)
      case atStart => exact ⟨0, _, Nat.zero_le _, rfl, rfl, by simp only; omega, by omega, HS.out⟩
      case round =>
        obtain ⟨j, s', hj, rfl, rfl, hs2, hs3, S⟩ := hrel
        simp only at hs2
        have hs4 : 0 ≤ s' := by omega
        by_cases hjm : j < m
        · obtain ⟨x, hx⟩ : ∃ x, d.c.ws[j]? = some x := ⟨_, List.getElem?_eq_getElem (by omega)⟩
          have hr := HE.out.1
          obtain ⟨ba, oa, rfl⟩ := rd_some hr (by omega)
          obtain ⟨f0, f1, f2, f3⟩ := rd_word (hr.st (H.out.row.1 |> fun _ => S)) hx
          obtain ⟨z, hz, hz0, hz1⟩ : ∃ z : Int, min (x.s.size : Int) 65536 = z ∧ 0 ≤ z ∧ z ≤ 65536 := ⟨_, rfl, by omega, by omega⟩
          have HS2 := Lib.hid (S.alloc (.cells #[Value.int .u8 x.k, .int .i64 x.n, .string x.s, .int .i64 x.g] 36)).tail
          clear S HS hr q0 q1 q2 q3 q4 q5 q6 q7 q8 q9 q10 q11 q12 q13 q14
          have hd : z.tdiv 16 = z / 16 := Int.tdiv_eq_ediv_of_nonneg hz0
          go_wp2_with fail
          exact ⟨⟨j + 1, s' + z / 16, by omega, by go_num, rfl, by simp only; omega, by omega, HS2.out⟩, by simp [intOf]; omega⟩
        · have HS2 := Lib.hid S.tail
          clear S HS q0 q1 q2 q3 q4 q5 q6 q7 q8 q9 q10 q11 q12 q13 q14
          by_cases hbig : 20000 < s'
          · go_wp2_with fail
            go_ret
            exact ⟨true, rfl, (fun h => by cases h), HS2.out.below⟩
          · go_wp2_with fail
            refine ⟨⟨k + 1, s', by omega, by go_num, rfl, hs4, by omega, ?_, HS2.out⟩, by simp [intOf]; omega⟩
            intro p hp
            rw [List.take_add_one, HP.out] at hp
            rcases List.mem_append.1 hp with h | h
            · exact HALL.out p h
            · simp at h
              subst h
              simp only
              omega
    · have HS := Lib.hid S
      have HALL := Lib.hid hall
      clear S hall
      go_wp2_with fail
      go_ret
      refine ⟨_, rfl, ?_, HS.out.below⟩
      intro h
      refine ⟨by simp at h; omega, fun p hp => HALL.out p ?_⟩
      rw [List.take_of_length_le (by omega)]
      exact hp

end Go.Proofs.Ytciciaikajdenaa
