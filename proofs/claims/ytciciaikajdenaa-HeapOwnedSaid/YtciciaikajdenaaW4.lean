/- New, copied. -/
import Derived.Test.YtciciaikajdenaaW3
namespace Go.Proofs.Ytciciaikajdenaa
open Go.RowKit

def NewPost (room : Int) (w : World) (e : Ending) (w' : World) : Prop :=
  ∃ p, e = .returned (.tuple #[.pointer (some ⟨p, 0, none⟩), .int .i64 0]) ∧ St w w' [heapAt p (AHeap.new room)]

theorem new_ok (room : Int) (w : World) (h0 : 0 ≤ room) (h1 : room ≤ 100000) : Calls Try.prog 15 #[.int .i64 room] w (NewPost room w) := by
  go_enter Try.func15, Try.ntmps15
  go_wp2
  go_ret2
  refine ⟨_, rfl, ?_⟩
  have s := (St.refl w).allocC #[Value.int .i64 room, .int .i64 0, .slice none 0 0, .slice none 0 0] 109
  refine St.heap_close (L := []) (sv := []) (vs := .slice none 0 0) (vf := .slice none 0 0) rfl ?_
  exact ((((s.slots_nil.push 1).own_nil (T := 3) (sz := 1)).push 1).own_nil (T := 124) (sz := 5)).push 1

theorem new_bad (room : Int) (w : World) (h : room < 0 ∨ 100000 < room) : Calls Try.prog 15 #[.int .i64 room] w fun e w' => e = .returned (.tuple #[.pointer none, .int .i64 2]) ∧ w' = w := by
  rcases h with h | h
  · go_enter Try.func15, Try.ntmps15
    go_wp2
    go_ret2
    exact ⟨rfl, rfl⟩
  · have h' : ¬ room < 0 := by omega
    go_enter Try.func15, Try.ntmps15
    go_wp2
    go_ret2
    exact ⟨rfl, rfl⟩

theorem info36 : (Try.prog.info? 36).map (fun i => (i.zero, i.size, i.bytes)) = some (some (.agg #[.int .u8 0, .int .i64 0, .string ⟨#[]⟩, .int .i64 0]), 4, 40) := by kernel_rfl

def wordsOwn (v : Value) (ws : List AWord) : HProp := ownS 36 4 v ws.length (flatW ws)

def CopiedPost (c : ACell) (w : World) (e : Ending) (w' : World) : Prop := ∃ v, e = .returned (cv c v) ∧ St w w' [wordsOwn v c.ws]

theorem one_flatW (ws : List AWord) : ∀ u ∈ flatW ws, u.oneCell' = true := by
  intro u hu
  unfold flatW at hu
  obtain ⟨x, _, hx⟩ := List.mem_flatMap.1 hu
  simp [wcells] at hx
  rcases hx with rfl | rfl | rfl | rfl <;> rfl


set_option maxRecDepth 100000 in
set_option maxHeartbeats 400000 in
theorem copied_some (c : ACell) (a : Option Addr) (cap : Nat) (w : World) (hm : c.ws.length ≤ 1000000) (h : rd w 4 (.slice a c.ws.length cap) c.ws.length (flatW c.ws)) :
    Calls Try.prog 82 #[cv c (.slice a c.ws.length cap)] w fun e w' => CopiedPost c w e w' := by
  have s0 := ((St.refl w).allocC #[Value.int .u8 c.k, .int .i64 c.n, .slice a c.ws.length cap] 34).allocC #[Value.int .u8 0, .int .i64 0, .slice none 0 0] 34
  simp only [World.size_alloc] at s0
  obtain ⟨i, hi, hz0, hz1, hz2⟩ := info_parts info36
  have A := Lib.hid fun o rest ops Q x => wpList_append_st (P := Try.prog) (o := o) (rest := rest) (ops := ops) (Q := Q) (a := x) (s0.own_nil (T := 36) (sz := 4)) (h.st s0) (one_flatW _) hi hz0 hz1 hz2 rfl (by unfold maxLen; omega) (by omega) Try.underlying32
  clear s0 h hi hz0 hz1 hz2
  unfold cv
  go_enter Try.func82, Try.ntmps82
  go_wp2_with (at_builtin; refine A.out _ _ _ _ _ _ _ rfl rfl rfl rfl ?_; intro v' w1 S1 _; obtain ⟨a', cap', rfl, hcap⟩ := S1.own_form; have c1 := (S1.pull 2).cell; have f1 := (S1.pull 2).free; have c2 := (S1.pull 1).cell; have f2 := (S1.pull 1).free; simp only [Nat.zero_add, List.nil_append] at hcap S1; have S2 := Lib.hid S1; clear S1)
  have S3 := ((((((((S2.out.own_cut).pull 2).set 2 (.slice a' c.ws.length cap')).set 2 (.slice a' c.ws.length c.ws.length)).pull 2).set 0 (.int .u8 c.k)).set 1 (.int .i64 c.n)).set 2 (.slice a' c.ws.length c.ws.length))
  have c3 := S3.cell
  refine bodyPost_ret (v := cv c (.slice a' c.ws.length c.ws.length)) (by simp [results, Try.results82, go_sem, c3, cv]) rfl ⟨_, rfl, ?_⟩
  exact (S3.pull 2).fst


theorem copied_c (c : ACell) (v : Value) (w : World) (hm : c.ws.length ≤ 1000000) (h : rd w 4 v c.ws.length (flatW c.ws)) :
    Calls Try.prog 82 #[cv c v] w fun e w' => CopiedPost c w e w' := by
  rcases h.2 with ⟨⟨_, _, rfl⟩, e⟩ | ⟨b, off, cap, rfl, _⟩
  · have h' := copied_some c _ _ w hm (by rw [e] at h ⊢; exact h)
    rw [e] at h'; exact h'
  · exact copied_some c _ _ w hm h

end Go.Proofs.Ytciciaikajdenaa
