/- HeapPlays: the walk. -/
import Derived.Test.YtciciaikajdenaaR9
import Derived.Test.YtciciaikajdenaaD2
import Derived.Test.YtciciaikajdenaaH6M
import Derived.Test.YtciciaikajdenaaOrd2
import Derived.Test.YtciciaikajdenaaFind
set_option linter.unusedSimpArgs false
set_option linter.unusedVariables false
namespace Go.Proofs.Ytciciaikajdenaa
open Go.RowKit

/-- While the script runs. -/
def PlayRel (w : World) (room : Int) (q m : Nat) (t5 v i : Value) (wr : World) : Prop :=
  ∃ (k p : Nat) (H : AHeap) (ws : List AWord), k ≤ m ∧ i = .int .i64 k ∧ t5 = .pointer (some ⟨p, 0, none⟩) ∧ H.Ok (10 + k) ∧ H.room = room ∧ H.live ≤ H.most ∧ ws.length ≤ k ∧ St w wr [heapAt p H, heapRAt q H, wordsOwn v ws]

/-- Behind the call that a row of the script is. -/
def PlayMid (w : World) (room : Int) (q k : Nat) (t5 v : Value) (wr : World) : Prop :=
  ∃ (p : Nat) (H : AHeap) (ws : List AWord), t5 = .pointer (some ⟨p, 0, none⟩) ∧ H.Ok (10 + (k + 1 : Nat)) ∧ H.room = room ∧ H.live ≤ H.most ∧ ws.length ≤ k + 1 ∧ St w wr [heapAt p H, heapRAt q H, wordsOwn v ws]

theorem St.keep3 {W0 w : World} {P Q R : HProp} {L : List HProp} (h : St W0 w (P :: Q :: R :: L)) : St W0 w [P, Q, R] :=
  h.conv fun _ s => starL_cons (fun _ x => x) (fun _ s => starL_cons (fun _ x => x) (fun _ s => starL_cons (fun _ x => x) (fun _ _ => trivial) s) s) s


theorem get_words {H : AHeap} {B : Int} (h : H.Ok B) {y : AWord} {c : ACell} {e : Int} (hg : H.get y = (c, e)) : c.ws.length ≤ 64 := by
  unfold AHeap.get at hg
  split at hg
  · rename_i h1
    have hz := AHeap.find_zero h1
    injection hg with h2 _
    rw [← h2]
    exact h.words _ (AHeap.slot_mem hz.2.2.2.2.1)
  · injection hg with h2 _
    rw [← h2]; exact Nat.zero_le _

theorem drop_words {H K : AHeap} {B : Int} (h : H.Ok B) {y : AWord} {c : ACell} {e : Int} (hg : H.drop y = ((c, e), K)) : c.ws.length ≤ 64 := by
  unfold AHeap.drop at hg
  split at hg
  · injection hg with h2 _
    injection h2 with h2 _
    rw [← h2]; exact Nat.zero_le _
  · rename_i h1
    have hz := AHeap.find_zero (Decidable.not_not.1 h1)
    injection hg with h2 _
    injection h2 with h2 _
    rw [← h2]
    exact h.words _ (AHeap.slot_mem hz.2.2.2.2.1)

noncomputable def block2 : Code := (Try.f3.body.bind (findBlock 2)).getD .skip

set_option maxRecDepth 1000000 in
/-- The frame behind the switch. -/
def PF (x0 x1 x2 x3 x4 x6 x7 x8 x10 x11 x12 x30 x31 x32 x33 x34 x35 x36 x37 x38 x39 x40 x41 x42 x43 x44 x45 x46 x47 x48 x49 x50 x51 x52 x53 x54 x55 x56 x57 x58 x59 x60 x61 x62 x63 x64 x65 x66 x67 x68 x69 x70 x71 x72 x73 x215 x216 x217 x218 x219 x220 x221 x222 x223 x224 x225 x226 x227 x228 x229 x230 x231 x232 x233 x234 x235 x236 x237 x238 x239 x240 x241 x242 x243 x244 x245 x246 : Value) (w : World) (room : Int) (q k : Nat) (a' : Act) (w' : World) : Prop :=
  ∃ u5 u9 u13 u14 u15 u16 u17 u18 u19 u20 u21 u22 u23 u24 u25 u26 u27 u28 u29 u74 u75 u76 u77 u78 u79 u80 u81 u82 u83 u84 u85 u86 u87 u88 u89 u90 u91 u92 u93 u94 u95 u96 u97 u98 u99 u100 u101 u102 u103 u104 u105 u106 u107 u108 u109 u110 u111 u112 u113 u114 u115 u116 u117 u118 u119 u120 u121 u122 u123 u124 u125 u126 u127 u128 u129 u130 u131 u132 u133 u134 u135 u136 u137 u138 u139 u140 u141 u142 u143 u144 u145 u146 u147 u148 u149 u150 u151 u152 u153 u154 u155 u156 u157 u158 u159 u160 u161 u162 u163 u164 u165 u166 u167 u168 u169 u170 u171 u172 u173 u174 u175 u176 u177 u178 u179 u180 u181 u182 u183 u184 u185 u186 u187 u188 u189 u190 u191 u192 u193 u194 u195 u196 u197 u198 u199 u200 u201 u202 u203 u204 u205 u206 u207 u208 u209 u210 u211 u212 u213 u214 : Value, PlayMid w room q k u5 u9 w' ∧ a' = ⟨#[x0, x1, x2, x3, x4, u5, x6, x7, x8, u9, x10, x11, x12, u13, u14, u15, u16, u17, u18, u19, u20, u21, u22, u23, u24, u25, u26, u27, u28, u29, x30, x31, x32, x33, x34, x35, x36, x37, x38, x39, x40, x41, x42, x43, x44, x45, x46, x47, x48, x49, x50, x51, x52, x53, x54, x55, x56, x57, x58, x59, x60, x61, x62, x63, x64, x65, x66, x67, x68, x69, x70, x71, x72, x73, u74, u75, u76, u77, u78, u79, u80, u81, u82, u83, u84, u85, u86, u87, u88, u89, u90, u91, u92, u93, u94, u95, u96, u97, u98, u99, u100, u101, u102, u103, u104, u105, u106, u107, u108, u109, u110, u111, u112, u113, u114, u115, u116, u117, u118, u119, u120, u121, u122, u123, u124, u125, u126, u127, u128, u129, u130, u131, u132, u133, u134, u135, u136, u137, u138, u139, u140, u141, u142, u143, u144, u145, u146, u147, u148, u149, u150, u151, u152, u153, u154, u155, u156, u157, u158, u159, u160, u161, u162, u163, u164, u165, u166, u167, u168, u169, u170, u171, u172, u173, u174, u175, u176, u177, u178, u179, u180, u181, u182, u183, u184, u185, u186, u187, u188, u189, u190, u191, u192, u193, u194, u195, u196, u197, u198, u199, u200, u201, u202, u203, u204, u205, u206, u207, u208, u209, u210, u211, u212, u213, u214, x215, x216, x217, x218, x219, x220, x221, x222, x223, x224, x225, x226, x227, x228, x229, x230, x231, x232, x233, x234, x235, x236, x237, x238, x239, x240, x241, x242, x243, x244, x245, x246], []⟩

set_option maxRecDepth 1000000 in
set_option maxHeartbeats 40000000 in
theorem play_switch (l : List (ADo × Value)) (w w8 : World) (room : Int) (q k p b11 b12 : Nat) (d : ADo) (va : Option Addr) (vcap : Nat) (vw : Option Addr) (wcap : Nat) (ws : List AWord) (H : AHeap) (y : AWord)
    (hl400 : l.length ≤ 400) (hlt : k < l.length) (hwl4 : ws.length ≤ 1000000) (hlen : d.c.ws.length ≤ maxLen) (HK : Hid (H.Ok (10 + k) ∧ H.room = room ∧ H.live ≤ H.most ∧ ws.length ≤ k))
    (HE1 : Hid (∀ (w' : World) (L : List HProp), St w w' L → rd w' 4 (.slice va d.c.ws.length vcap) d.c.ws.length (flatW d.c.ws)))
    (HS : Hid (St w w8 [cellsB b12 #[Value.int .u8 y.k, .int .i64 y.n, .string y.s, .int .i64 y.g] 36, cellsB b11 (dCells (d, .slice va d.c.ws.length vcap)).toArray 38, heapAt p H, heapRAt q H, wordsOwn (.slice vw ws.length wcap) ws]))
    (x0 x1 x2 x3 x4 x6 x8 x10 x13 x14 x15 x16 x17 x18 x19 x20 x21 x22 x23 x24 x25 x26 x27 x28 x29 x30 x31 x32 x33 x34 x35 x36 x37 x38 x39 x40 x41 x42 x43 x44 x45 x46 x47 x48 x49 x50 x51 x52 x53 x54 x55 x56 x57 x58 x59 x60 x61 x62 x63 x64 x65 x66 x67 x68 x69 x70 x71 x72 x74 x75 x76 x77 x78 x79 x80 x81 x82 x83 x84 x85 x86 x87 x88 x89 x90 x91 x92 x93 x94 x95 x96 x97 x98 x99 x100 x101 x102 x103 x104 x105 x106 x107 x108 x109 x110 x111 x112 x113 x114 x115 x116 x117 x118 x119 x120 x121 x122 x123 x124 x125 x126 x127 x128 x129 x130 x131 x132 x133 x134 x135 x136 x137 x138 x139 x140 x141 x142 x143 x144 x145 x146 x147 x148 x149 x150 x151 x152 x153 x154 x155 x156 x157 x158 x159 x160 x161 x162 x163 x164 x165 x166 x167 x168 x169 x170 x171 x172 x173 x174 x175 x176 x177 x178 x179 x180 x181 x182 x183 x184 x185 x186 x187 x188 x189 x190 x191 x192 x193 x194 x195 x196 x197 x198 x199 x200 x201 x202 x203 x204 x205 x206 x207 x208 x209 x210 x211 x212 x213 x214 x215 x216 x217 x218 x219 x220 x221 x222 x223 x224 x225 x226 x227 x228 x229 x230 x231 x232 x233 x234 x235 x236 x237 x238 x239 x240 x241 x242 x243 x244 x245 x246 : Value) :
    ∀ (J K' : Act → World → Prop), (∀ a' w', PF x0 x1 x2 x3 x4 x6 (.pointer (some ⟨q, 0, none⟩)) x8 x10 (.pointer (some ⟨b11, 0, none⟩)) (.pointer (some ⟨b12, 0, none⟩)) x30 x31 x32 x33 x34 x35 x36 x37 x38 x39 x40 x41 x42 x43 x44 x45 x46 x47 x48 x49 x50 x51 x52 x53 x54 x55 x56 x57 x58 x59 x60 x61 x62 x63 x64 x65 x66 x67 x68 x69 x70 x71 x72 (.int .i64 d.kind) x215 x216 x217 x218 x219 x220 x221 x222 x223 x224 x225 x226 x227 x228 x229 x230 x231 x232 x233 x234 x235 x236 x237 x238 x239 x240 x241 x242 x243 x244 x245 x246 w room q k a' w' → J a' w') → (∀ a' w', Met J a' w' → K' a' w') → ∀ Q' : Exit → Act → World → Prop, (∀ c d v a w, Q' (.panic c) (a.put d v) w → Q' (.panic c) a w) →
      Code.wp Try.prog block2 (Exit.then K' Q') ⟨#[x0, x1, x2, x3, x4, .pointer (some ⟨p, 0, none⟩), x6, .pointer (some ⟨q, 0, none⟩), x8, .slice vw ws.length wcap, x10, .pointer (some ⟨b11, 0, none⟩), .pointer (some ⟨b12, 0, none⟩), x13, x14, x15, x16, x17, x18, x19, x20, x21, x22, x23, x24, x25, x26, x27, x28, x29, x30, x31, x32, x33, x34, x35, x36, x37, x38, x39, x40, x41, x42, x43, x44, x45, x46, x47, x48, x49, x50, x51, x52, x53, x54, x55, x56, x57, x58, x59, x60, x61, x62, x63, x64, x65, x66, x67, x68, x69, x70, x71, x72, .int .i64 d.kind, x74, x75, x76, x77, x78, x79, x80, x81, x82, x83, x84, x85, x86, x87, x88, x89, x90, x91, x92, x93, x94, x95, x96, x97, x98, x99, x100, x101, x102, x103, x104, x105, x106, x107, x108, x109, x110, x111, x112, x113, x114, x115, x116, x117, x118, x119, x120, x121, x122, x123, x124, x125, x126, x127, x128, x129, x130, x131, x132, x133, x134, x135, x136, x137, x138, x139, x140, x141, x142, x143, x144, x145, x146, x147, x148, x149, x150, x151, x152, x153, x154, x155, x156, x157, x158, x159, x160, x161, x162, x163, x164, x165, x166, x167, x168, x169, x170, x171, x172, x173, x174, x175, x176, x177, x178, x179, x180, x181, x182, x183, x184, x185, x186, x187, x188, x189, x190, x191, x192, x193, x194, x195, x196, x197, x198, x199, x200, x201, x202, x203, x204, x205, x206, x207, x208, x209, x210, x211, x212, x213, x214, x215, x216, x217, x218, x219, x220, x221, x222, x223, x224, x225, x226, x227, x228, x229, x230, x231, x232, x233, x234, x235, x236, x237, x238, x239, x240, x241, x242, x243, x244, x245, x246], []⟩ w8 := by
  intro J K' hJ hK' Q' hQp
  conv => arg 2; whnf
  have hS := HS.out
  simp only [dCells] at hS
  replace HS := Lib.hid hS
  clear hS
  have S := HS.out
  clear HS
  have d11 := (S.pull 1).cell
  have d12 := S.cell
  have HS := Lib.hid S
  clear S
  by_cases k0 : d.kind = 0
  · have kb : (d.kind == 0) = true := by simp [k0]
    clear k0
    obtain ⟨r, hr⟩ : ∃ r, H.alloc d.c = r := ⟨_, rfl⟩
    have kp := alloc_keeps HK.out.1 (by omega) HK.out.2.2.1 d.c
    rw [hr] at kp
    obtain ⟨⟨x, ee⟩, H5⟩ := r
    have KP := Lib.hid kp
    have HR := Lib.hid hr
    clear kp hr
    go_wp2_with fail
    have ac := alloc_c (HS.out.pull 2) HK.out.1 d.c (.slice va d.c.ws.length vcap) (fun w' q => HE1.out _ _ q) hlen
    rw [HR.out] at ac
    refine ac.mono ?_
    clear ac
    rintro e w10 ⟨rfl, S⟩
    simp only [wv] at S ⊢
    have S := S.allocC #[Value.int .u8 x.k, .int .i64 x.n, .string x.s, .int .i64 x.g] 36
    clear HS d11 d12
    have d12 := (S.pull 2).cell
    have d11 := (S.pull 3).cell
    have HS := Lib.hid S
    clear S
    go_wp2_with fail
    generalize w10.heap.size = b13 at HS d11 d12 ⊢
    have ac := allocR_c (HS.out.pull 4) HK.out.1 (by omega) d.c (.slice va d.c.ws.length vcap) (fun w' q => HE1.out _ _ q) hlen
    rw [HR.out] at ac
    refine ac.mono ?_
    clear ac
    rintro e w11 ⟨rfl, S⟩
    simp only [wv] at S ⊢
    -- [heapR, b13, heap, b12, b11, words]
    have S := S.allocC #[Value.int .u8 x.k, .int .i64 x.n, .string x.s, .int .i64 x.g] 36
    clear HS d11 d12
    have d15 := S.cell
    have d13 := (S.pull 2).cell
    have HS := Lib.hid S
    clear S
    go_upto_region 24 with fail
    obtain ⟨ii, hi1, hz0, hz1, hz2⟩ := info_parts info36
    have S1 := HS.out.allocC #[Value.int .u8 x.k, .int .i64 x.n, .string x.s, .int .i64 x.g] 36
    simp only [World.size_alloc] at S1
    have hwl5 : ws.length ≤ 400 := by have := HK.out.2.2.2; omega
    have A := Lib.hid fun o rest ops Q x' => wpList_append_st (P := Try.prog) (o := o) (rest := rest) (ops := ops) (Q := Q) (a := x') (S1.pull 7) (rd_cells (sz := 4) (n := 1) (cap := 1) S1 (Nat.le_refl _) rfl) (one_flatW [x]) hi1 hz0 hz1 hz2 rfl (by unfold maxLen; omega) (by omega) Try.underlying32
    clear S1 hi1 hz0 hz1 hz2 hwl5
    go_wp2_with (at_builtin; refine A.out _ _ _ _ _ _ _ rfl rfl rfl rfl ?_; intro v' w1 S1 _; have S1 := Lib.hid S1)
    go_meet
    case rel =>
      -- [words, box, b15, heapR, b13, heap, b12, b11]
      have S2 := ((S1.out.pull 3).pull 5).keep3
      refine ⟨p, H5, ws ++ [x], rfl, KP.out.ok.mono (by omega), by rw [KP.out.room]; exact HK.out.2.1, KP.out.le, by have := HK.out.2.2.2; simp; omega, ?_⟩
      unfold wordsOwn
      rw [List.length_append, show flatW (ws ++ [x]) = flatW ws ++ flatW [x] from List.flatMap_append]
      exact S2
  · have kb0 : (d.kind == 0) = false := by simp [k0]
    have K0 := Lib.hid k0
    clear k0
    by_cases k1 : d.kind = 1
    · have kb1 : (d.kind == 1) = true := by simp [k1]
      have kb3 : (d.kind == 3) = false := by simp [k1]
      clear k1
      obtain ⟨gc, hgc⟩ : ∃ g, H.get y = g := ⟨_, rfl⟩
      obtain ⟨c1, e1⟩ := gc
      have HG := Lib.hid hgc
      have hcl : c1.ws.length ≤ 64 := get_words HK.out.1 hgc
      clear hgc
      go_wp2_with fail
      have ac := get_c (HS.out.pull 2) HK.out.1 y
      unfold GetPost at ac
      rw [HG.out] at ac
      refine ac.mono ?_
      clear ac
      rintro e w10 ⟨v1, rfl, S⟩
      obtain ⟨a1, cp1, rfl, _⟩ := St.own_form S
      simp only at S ⊢
      -- [v1, heap, b12, b11, heapR, words]
      have S := S.allocC #[Value.int .u8 c1.k, .int .i64 c1.n, .slice a1 c1.ws.length cp1] 34
      clear HS d11 d12
      have d12 := (S.pull 3).cell
      have d11 := (S.pull 4).cell
      have HS := Lib.hid S
      clear S
      go_wp2_with fail
      generalize w10.heap.size = b17 at HS d11 d12 ⊢
      -- [b17, v1, heap, b12, b11, heapR, words]
      have ac := getR_c (HS.out.pull 5) HK.out.1 y
      unfold GetPostR at ac
      rw [HG.out] at ac
      refine ac.mono ?_
      clear ac
      rintro e w11 ⟨v2, rfl, S⟩
      obtain ⟨a2, cp2, rfl, _⟩ := St.own_form S
      simp only at S ⊢
      -- [v2, heapR, b17, v1, heap, b12, b11, words]
      have S := S.allocC #[Value.int .u8 c1.k, .int .i64 c1.n, .slice a2 c1.ws.length cp2] 34
      clear HS d11 d12
      have d17 := (S.pull 3).cell
      have f17 := (S.pull 3).free
      have d19 := S.cell
      have d12 := (S.pull 6).cell
      have d11 := (S.pull 7).cell
      have HS := Lib.hid S
      clear S
      -- [b19, v2, heapR, b17, v1, heap, b12, b11, words]
      go_wp2_with fail
      refine (same_c c1 _ _ _ (HS.out.pull 4).own_rd (HS.out.pull 1).own_rd (by unfold maxLen; omega)).mono ?_
      rintro e w14 ⟨rfl, hb⟩
      have S := ((((HS.out.mono hb).pull 8).pull 3).pull 6).keep3
      clear HS hb d17 f17 d19 d12 d11
      have HS := Lib.hid S
      clear S
      go_wp2_with fail
      go_meet
      case rel =>
        exact ⟨p, H, ws, rfl, HK.out.1.mono (by omega), HK.out.2.1, HK.out.2.2.1, by have := HK.out.2.2.2; omega, HS.out⟩
    · have kb1 : (d.kind == 1) = false := by simp [k1]
      have K1 := Lib.hid k1
      clear k1
      by_cases k3 : d.kind = 3
      · have kb3 : (d.kind == 3) = true := by simp [k3]
        clear k3
        obtain ⟨gc, hgc⟩ : ∃ g, H.get y = g := ⟨_, rfl⟩
        obtain ⟨c1, e1⟩ := gc
        have HG := Lib.hid hgc
        have hcl : c1.ws.length ≤ 64 := get_words HK.out.1 hgc
        clear hgc
        go_wp2_with fail
        have ac := get_c (HS.out.pull 2) HK.out.1 y
        unfold GetPost at ac
        rw [HG.out] at ac
        refine ac.mono ?_
        clear ac
        rintro e w10 ⟨v1, rfl, S⟩
        obtain ⟨a1, cp1, rfl, _⟩ := St.own_form S
        simp only at S ⊢
        -- [v1, heap, b12, b11, heapR, words]
        have S := S.allocC #[Value.int .u8 c1.k, .int .i64 c1.n, .slice a1 c1.ws.length cp1] 34
        clear HS d11 d12
        have d12 := (S.pull 3).cell
        have d11 := (S.pull 4).cell
        have HS := Lib.hid S
        clear S
        go_wp2_with fail
        generalize w10.heap.size = b17 at HS d11 d12 ⊢
        -- [b17, v1, heap, b12, b11, heapR, words]
        have ac := getR_c (HS.out.pull 5) HK.out.1 y
        unfold GetPostR at ac
        rw [HG.out] at ac
        refine ac.mono ?_
        clear ac
        rintro e w11 ⟨v2, rfl, S⟩
        obtain ⟨a2, cp2, rfl, _⟩ := St.own_form S
        simp only at S ⊢
        -- [v2, heapR, b17, v1, heap, b12, b11, words]
        have S := S.allocC #[Value.int .u8 c1.k, .int .i64 c1.n, .slice a2 c1.ws.length cp2] 34
        clear HS d11 d12
        have d17 := (S.pull 3).cell
        have f17 := (S.pull 3).free
        have d19 := S.cell
        have d12 := (S.pull 6).cell
        have d11 := (S.pull 7).cell
        have HS := Lib.hid S
        clear S
        -- [b19, v2, heapR, b17, v1, heap, b12, b11, words]
        obtain ⟨r, hr⟩ : ∃ r, H.drop y = r := ⟨_, rfl⟩
        have kp := drop_keeps HK.out.1 HK.out.2.2.1 y
        rw [hr] at kp
        obtain ⟨⟨c3, e3⟩, H5⟩ := r
        have hcl3 : c3.ws.length ≤ 64 := drop_words HK.out.1 hr
        have KP := Lib.hid kp
        have HR := Lib.hid hr
        clear kp hr
        go_wp2_with fail
        generalize w11.heap.size = b19 at HS d19 d17 f17 d12 d11 ⊢
        have ac := drop_c (HS.out.pull 5) HK.out.1 (by omega) y
        unfold DropPost at ac
        rw [HR.out] at ac
        refine ac.mono ?_
        clear ac
        rintro e w12 ⟨v3, rfl, S⟩
        obtain ⟨a3, cp3, rfl, _⟩ := St.own_form S
        simp only at S ⊢
        -- [v3, heap, b19, v2, heapR, b17, v1, b12, b11, words]
        clear HS d11 d12 d17 f17 d19
        have d17 := (S.pull 5).cell
        have f17 := (S.pull 5).free
        have d12 := (S.pull 7).cell
        have HS := Lib.hid S
        clear S
        go_upto_region 31 with fail
        have S := (((HS.out.pull 5).set 0 (.int .u8 c3.k)).set 1 (.int .i64 c3.n)).set 2 (.slice a3 c3.ws.length cp3)
        simp only [List.setIfInBounds_toArray, List.set_cons_zero, List.set_cons_succ] at S
        -- [b17, v3, heap, b19, v2, heapR, v1, b12, b11, words]
        refine abs_wp S ?_
        clear S HS d17 f17 d12
        intro w16 S
        have d12 := (S.pull 7).cell
        have HS := Lib.hid S
        clear S
        go_wp2_with fail
        have ac := dropR_c (HS.out.pull 5) HK.out.1 (by omega) y
        unfold DropPostR at ac
        rw [HR.out] at ac
        refine ac.mono ?_
        clear ac HS d12
        rintro e w13 ⟨v4, rfl, S⟩
        obtain ⟨a4, cp4, rfl, _⟩ := St.own_form S
        simp only at S ⊢
        -- [v4, heapR, b17, v3, heap, b19, v2, v1, b12, b11, words]
        have d17 := (S.pull 2).cell
        have d19 := (S.pull 5).cell
        have f19 := (S.pull 5).free
        have HS := Lib.hid S
        clear S
        go_upto_region 32 with fail
        have S := (((HS.out.pull 5).set 0 (.int .u8 c3.k)).set 1 (.int .i64 c3.n)).set 2 (.slice a4 c3.ws.length cp4)
        simp only [List.setIfInBounds_toArray, List.set_cons_zero, List.set_cons_succ] at S
        -- [b19, v4, heapR, b17, v3, heap, v2, v1, b12, b11, words]
        refine abs_wp S ?_
        clear S HS d17 d19 f19
        intro w15 S
        have d19 := S.cell
        have d17 := (S.pull 3).cell
        have HS := Lib.hid S
        clear S
        go_wp2_with fail
        refine (same_c c3 _ _ _ (HS.out.pull 4).own_rd (HS.out.pull 1).own_rd (by unfold maxLen; omega)).mono ?_
        rintro e w14 ⟨rfl, hb⟩
        have S := ((((HS.out.mono hb).pull 10).pull 3).pull 6).keep3
        clear HS hb d17 d19
        have HS := Lib.hid S
        clear S
        go_wp2_with fail
        go_meet
        case rel =>
          exact ⟨p, H5, ws, rfl, KP.out.ok.mono (by omega), by rw [KP.out.room]; exact HK.out.2.1, KP.out.le, by have := HK.out.2.2.2; omega, HS.out⟩
      · have kb3 : (d.kind == 3) = false := by simp [k3]
        have K3 := Lib.hid k3
        clear k3
        by_cases k2 : d.kind = 2
        · have kb2 : (d.kind == 2) = true := by simp [k2]
          clear k2
          obtain ⟨r, hr⟩ : ∃ r, H.set y d.i d.x = r := ⟨_, rfl⟩
          have kp := set_keeps HK.out.1 HK.out.2.2.1 y d.i d.x
          rw [hr] at kp
          obtain ⟨⟨x, ee⟩, H5⟩ := r
          have KP := Lib.hid kp
          have HR := Lib.hid hr
          clear kp hr
          go_wp2_with fail
          have ac := set_c (HS.out.pull 2) HK.out.1 y d.i d.x
          rw [HR.out] at ac
          refine ac.mono ?_
          clear ac
          rintro e w10 ⟨rfl, S⟩
          simp only [wv] at S ⊢
          have S := S.allocC #[Value.int .u8 x.k, .int .i64 x.n, .string x.s, .int .i64 x.g] 36
          clear HS d11 d12
          have d12 := (S.pull 2).cell
          have d11 := (S.pull 3).cell
          have HS := Lib.hid S
          clear S
          go_wp2_with fail
          generalize w10.heap.size = b13 at HS d11 d12 ⊢
          have ac := setR_c (HS.out.pull 4) HK.out.1 y d.i d.x
          rw [HR.out] at ac
          refine ac.mono ?_
          clear ac
          rintro e w11 ⟨rfl, S⟩
          simp only [wv] at S ⊢
          -- [heapR, b13, heap, b12, b11, words]
          have S := S.allocC #[Value.int .u8 x.k, .int .i64 x.n, .string x.s, .int .i64 x.g] 36
          clear HS d11 d12
          have d15 := S.cell
          have d13 := (S.pull 2).cell
          have HS := Lib.hid S
          clear S
          go_wp2_with fail
          go_meet
          case rel =>
            -- [b15, heapR, b13, heap, b12, b11, words]
            have S2 := ((HS.out.pull 6).pull 2).pull 4
            exact ⟨p, H5, ws, rfl, KP.out.ok.mono (by omega), by rw [KP.out.room]; exact HK.out.2.1, KP.out.le, by have := HK.out.2.2.2; omega, S2.keep3⟩
        · have kb2 : (d.kind == 2) = false := by simp [k2]
          have K2 := Lib.hid k2
          clear k2
          by_cases k4 : d.kind = 4
          · have kb4 : (d.kind == 4) = true := by simp [k4]
            clear k4
            obtain ⟨r, hr⟩ : ∃ r, H.renew y d.c = r := ⟨_, rfl⟩
            have kp := renew_keeps HK.out.1 HK.out.2.2.1 y d.c
            rw [hr] at kp
            obtain ⟨⟨x, ee⟩, H5⟩ := r
            have KP := Lib.hid kp
            have HR := Lib.hid hr
            clear kp hr
            go_wp2_with fail
            have ac := renew_c (HS.out.pull 2) HK.out.1 (by omega) y d.c (.slice va d.c.ws.length vcap) (fun w' q => HE1.out _ _ q) hlen
            rw [HR.out] at ac
            refine ac.mono ?_
            clear ac
            rintro e w10 ⟨rfl, S⟩
            simp only [wv] at S ⊢
            have S := S.allocC #[Value.int .u8 x.k, .int .i64 x.n, .string x.s, .int .i64 x.g] 36
            clear HS d11 d12
            have d12 := (S.pull 2).cell
            have d11 := (S.pull 3).cell
            have HS := Lib.hid S
            clear S
            go_wp2_with fail
            generalize w10.heap.size = b13 at HS d11 d12 ⊢
            have ac := renewR_c (HS.out.pull 4) HK.out.1 (by omega) y d.c (.slice va d.c.ws.length vcap) (fun w' q => HE1.out _ _ q) hlen
            rw [HR.out] at ac
            refine ac.mono ?_
            clear ac
            rintro e w11 ⟨rfl, S⟩
            simp only [wv] at S ⊢
            -- [heapR, b13, heap, b12, b11, words]
            have S := S.allocC #[Value.int .u8 x.k, .int .i64 x.n, .string x.s, .int .i64 x.g] 36
            clear HS d11 d12
            have d15 := S.cell
            have d13 := (S.pull 2).cell
            have HS := Lib.hid S
            clear S
            go_upto_region 44 with fail
            obtain ⟨ii, hi1, hz0, hz1, hz2⟩ := info_parts info36
            have S1 := HS.out.allocC #[Value.int .u8 x.k, .int .i64 x.n, .string x.s, .int .i64 x.g] 36
            simp only [World.size_alloc] at S1
            have hwl5 : ws.length ≤ 400 := by have := HK.out.2.2.2; omega
            have A := Lib.hid fun o rest ops Q x' => wpList_append_st (P := Try.prog) (o := o) (rest := rest) (ops := ops) (Q := Q) (a := x') (S1.pull 7) (rd_cells (sz := 4) (n := 1) (cap := 1) S1 (Nat.le_refl _) rfl) (one_flatW [x]) hi1 hz0 hz1 hz2 rfl (by unfold maxLen; omega) (by omega) Try.underlying32
            clear S1 hi1 hz0 hz1 hz2 hwl5
            go_wp2_with (at_builtin; refine A.out _ _ _ _ _ _ _ rfl rfl rfl rfl ?_; intro v' w1 S1 _; have S1 := Lib.hid S1)
            go_meet
            case rel =>
              -- [words, box, b15, heapR, b13, heap, b12, b11]
              have S2 := ((S1.out.pull 3).pull 5).keep3
              refine ⟨p, H5, ws ++ [x], rfl, KP.out.ok.mono (by omega), by rw [KP.out.room]; exact HK.out.2.1, KP.out.le, by have := HK.out.2.2.2; simp; omega, ?_⟩
              unfold wordsOwn
              rw [List.length_append, show flatW (ws ++ [x]) = flatW ws ++ flatW [x] from List.flatMap_append]
              exact S2
          · have kb4 : (d.kind == 4) = false := by simp [k4]
            have K4 := Lib.hid k4
            clear k4
            by_cases k5 : d.kind = 5
            · have kb5 : (d.kind == 5) = true := by simp [k5]
              clear k5
              go_upto_region 48 with (go_at_call 31; refine (copy_c (HS.out.pull 2) HK.out.1).mono ?_; rintro e w10 ⟨p2, rfl, S4⟩; have S := HS.out.chain S4; clear HS S4 d11 d12; have HS := Lib.hid S; clear S)
              simp only [List.cons_append, List.nil_append] at HS
              -- [heap', b12, b11, heap, heapR, words]
              go_upto_region 50 with fail
              refine wp_region_st HS.out [0, 1, 2, 3] (fun w' => ∀ o, w'.cell? ⟨b12, o, none⟩ = #[Value.int .u8 y.k, .int .i64 y.n, .string y.s, .int .i64 y.g][o]?) [1] [2, 3] [] (by kernel_rfl) (by kernel_rfl) (fun c d v a w h => hQp c d v a w h) ?_
              clear HS
              intro w11 S
              have HF := Lib.hid (S.pull 1).cell
              iterate 2
                (first
                  | refine walk_load rfl rfl rfl HF.out rfl (by rintro w' g0; go_simp; with_reducible rfl) ?_
                  | refine walk_pure rfl rfl rfl rfl (by intro w'; go_simp; with_reducible rfl) ?_)
                simp only [List.getElem_toArray, List.getElem_cons_zero, List.getElem_cons_succ, Act.put, List.setIfInBounds_toArray, List.set_cons_zero, List.set_cons_succ]
              refine walk_do rfl rfl rfl (fun K hK => ?_)
              go_simp
              refine (number_c 99 _).mono ?_
              rintro e w12 ⟨rfl, hb⟩
              have S := S.mono hb
              clear hb HF
              have HF := Lib.hid (S.pull 1).cell
              refine hK _ _ (fun _ => HF.out) ?_
              clear hK K
              try simp only [List.getElem_toArray, List.getElem_cons_zero, List.getElem_cons_succ, Act.put, List.setIfInBounds_toArray, List.set_cons_zero, List.set_cons_succ]
              refine walk_do rfl rfl rfl (fun K hK => ?_)
              go_simp
              refine (set_c (S.pull 3) HK.out.1 y 0 ⟨1, 99, ⟨#[]⟩, 0⟩).mono ?_
              rintro e w13 ⟨rfl, S⟩
              have kp := set_keeps HK.out.1 HK.out.2.2.1 y 0 ⟨1, 99, ⟨#[]⟩, 0⟩
              generalize H.set y 0 ⟨1, 99, ⟨#[]⟩, 0⟩ = r at S kp ⊢
              have KP := Lib.hid kp
              clear HF kp
              -- [old, heap', b12, b11, heapR, words]
              have HF := Lib.hid (S.pull 2).cell
              refine hK _ _ (fun _ => HF.out) (walk_nil ?_)
              clear hK K HF
              have d12 := (S.pull 2).cell
              have HS := Lib.hid S
              clear S
              go_wp2_with fail
              refine (drop_c HS.out KP.out.ok (by omega) y).mono ?_
              rintro e w14 ⟨v6, rfl, S⟩
              -- [v6, old', heap', b12, b11, heapR, words]
              have S := (((S.pull 6).pull 6).pull 4).keep3
              clear HS d12
              have HS := Lib.hid S
              clear S
              go_wp2_with fail
              go_meet
              case rel =>
                exact ⟨p2, H, ws, rfl, HK.out.1.mono (by omega), HK.out.2.1, HK.out.2.2.1, by have := HK.out.2.2.2; omega, HS.out⟩
            · have kb5 : (d.kind == 5) = false := by simp [k5]
              have K5 := Lib.hid k5
              clear k5
              go_wp2_with fail
              go_meet
              case rel =>
                exact ⟨p, H, ws, rfl, HK.out.1.mono (by omega), HK.out.2.1, HK.out.2.2.1, by have := HK.out.2.2.2; omega, HS.out.tail.tail⟩

set_option maxRecDepth 100000 in
set_option maxHeartbeats 40000000 in
theorem plays_c (room : Int) (v : Value) (l : List (ADo × Value)) (w : World) (h : DosIn w v l) :
    Calls Try.prog 3 #[.int .i64 room, v] w fun e w' => KnownPost w e w' := by
  obtain ⟨a, cap, rfl⟩ := rd_form h.row
  have hmax := h.max
  unfold maxLen at hmax
  have HD := Lib.hid h
  clear h
  go_enter Try.func3, Try.ntmps3
  go_wp2_with (go_at_call 13; refine (known_c _).mono ?_; rintro e w1 ⟨rfl, hb⟩)
  refine (heavy_c _ l w1 (HD.out.mono hb)).mono ?_
  rintro e w2 ⟨b, rfl, hlight, hb2⟩
  have hb3 := hb.trans (hb2.mono hb.size)
  have HB := Lib.hid hb3
  clear hb hb2 hb3
  cases b with
  | true =>
    go_wp2_with fail
    go_ret
    exact ⟨rfl, HB.out⟩
  | false =>
    obtain ⟨hl400, hws⟩ := hlight rfl
    clear hlight
    have HWS := Lib.hid hws
    clear hws
    go_wp2_with fail
    by_cases hroom : room < 0 ∨ 100000 < room
    · refine (new_bad room w2 hroom).mono ?_
      rintro e w3 ⟨rfl, rfl⟩
      go_wp2_with fail
      refine (newR_bad room w3 hroom).mono ?_
      rintro e w4 ⟨rfl, rfl⟩
      go_wp2_with fail
      go_ret
      exact ⟨rfl, HB.out⟩
    · refine (new_ok room w2 (by omega) (by omega)).mono ?_
      rintro e w3 ⟨p, rfl, S⟩
      have S := ((St.refl w).mono HB.out).chain S
      have HS := Lib.hid S
      clear S
      go_wp2_with fail
      refine (newR_ok room w3 (by omega) (by omega)).mono ?_
      rintro e w4 ⟨q, rfl, S⟩
      have S := HS.out.chain S
      clear HS
      have HS := Lib.hid S
      clear S
      go_wp2_with fail
      go_loopw [5, 9, 58] (fun t5 v i wr => PlayRel w room q l.length t5 v i wr) (fun _ _ i _ => l.length - (intOf i).toNat)
      case atStart =>
        refine ⟨0, p, AHeap.new room, [], Nat.zero_le _, rfl, rfl, AHeap.new_ok _ (by omega) (by omega) _, rfl, by simp [AHeap.new, AHeap.live], Nat.le_refl _, ?_⟩
        have S := (HS.out.pull 1).own_nil (T := 36) (sz := 4)
        exact S.push 2
      case round =>
        obtain ⟨k, p, H, ws, hk, rfl, rfl, ok, hrm, hlm, hwl, S⟩ := hrel
        clear HS
        obtain ⟨vw, wcap, rfl, _⟩ := (S.pull 2).own_form
        by_cases hlt : k < l.length
        · obtain ⟨⟨d, vp⟩, hp⟩ : ∃ p, l[k]? = some p := ⟨_, List.getElem?_eq_getElem hlt⟩
          have hE := HD.out.each _ (List.mem_of_getElem? hp)
          simp only at hE
          obtain ⟨b, off, rfl⟩ := rd_some HD.out.row (by omega)
          obtain ⟨va, vcap, rfl⟩ := rd_form hE.1
          obtain ⟨q0, q1, q2, q3, q4, q5, q6, q7, q8, q9, q10, q11, q12, q13, q14⟩ := rd_do (HD.out.row.st S) hp
          simp only at q0 q1 q2 q3 q4 q5 q6 q7 q8 q9 q10 q11 q12 q13 q14
          have S1 := S.allocC (dCells (d, .slice va d.c.ws.length vcap)).toArray 38
          have HS := Lib.hid S1
          have HE := Lib.hid hE
          have HK := Lib.hid (And.intro ok (And.intro hrm (And.intro hlm hwl)))
          have hwl4 : ws.length ≤ 1000000 := by omega
          clear S S1 hE hp ok hrm hlm hwl
          -- the word that is meant
          go_upto_region 15 with fail
          generalize wr.heap.size = b11 at HS ⊢
          clear q0 q1 q2 q3 q4 q5 q6 q7 q8 q9 q10 q11 q12 q13 q14
          refine abs_wp HS.out ?_
          clear HS
          intro w5 S
          have d11 := S.cell
          simp only [dCells] at d11
          have HS := Lib.hid S
          clear S
          go_wp2_with fail
          refine (meant_x ws vw wcap d va d.c.ws.length vcap _ (HS.out.pull 3).own_rd hwl4).mono ?_
          rintro e w6 ⟨rfl, hb⟩
          have S := HS.out.mono hb
          clear HS hb d11
          generalize hmw : meantW ws d = y at S ⊢
          clear hmw
          have S := S.allocC #[Value.int .u8 y.k, .int .i64 y.n, .string y.s, .int .i64 y.g] 36
          have HS := Lib.hid S
          clear S
          simp only [wv]
          -- May
          go_upto_region 16 with fail
          generalize w6.heap.size = b12 at HS ⊢
          -- [b12, b11, heap, heapR, words]
          have hE1 := fun (w' : World) (L : List HProp) (q : St w w' L) => HE.out.1.st q
          have HE1 := Lib.hid hE1
          clear hE1
          have hlen : d.c.ws.length ≤ maxLen := HE.out.2
          refine wp_region_st HS.out [0, 1, 3, 4, 2, 5, 6] (fun w' => ∀ o, w'.cell? ⟨b11, o, none⟩ = (dCells (d, .slice va d.c.ws.length vcap)).toArray[o]?) [1, 4] [2, 5] [] (by kernel_rfl) (by kernel_rfl) (fun c d v a w h => by cases d <;> exact h) ?_
          clear HS
          intro w7 S
          simp only [dCells] at S ⊢
          have HF := Lib.hid (S.pull 1).cell
          iterate 4
            (first
              | refine walk_load rfl rfl rfl HF.out rfl (by rintro w' g0; go_simp; with_reducible rfl) ?_
              | refine walk_pure rfl rfl rfl rfl (by intro w'; go_simp; with_reducible rfl) ?_)
            simp only [List.getElem_toArray, List.getElem_cons_zero, List.getElem_cons_succ, Act.put, List.setIfInBounds_toArray, List.set_cons_zero, List.set_cons_succ]
          refine walk_do rfl rfl rfl (fun K hK => ?_)
          go_simp
          refine (may_c d.c (.slice va d.c.ws.length vcap) w7 (HE1.out _ _ S) hlen).mono ?_
          rintro e w' ⟨rfl, hb⟩
          have S := S.mono hb
          clear hb HF
          have HF := Lib.hid (S.pull 1).cell
          refine hK _ _ (fun _ => HF.out) ?_
          clear hK K
          try simp only [List.getElem_toArray, List.getElem_cons_zero, List.getElem_cons_succ, Act.put, List.setIfInBounds_toArray, List.set_cons_zero, List.set_cons_succ]
          refine walk_do rfl rfl rfl (fun K hK => ?_)
          go_simp
          refine (may_r d.c (.slice va d.c.ws.length vcap) w' (HE1.out _ _ S) hlen).mono ?_
          rintro e w8 ⟨rfl, hb⟩
          have S := S.mono hb
          clear hb HF
          have HF := Lib.hid (S.pull 1).cell
          refine hK _ _ (fun _ => HF.out) ?_
          clear hK K
          try simp only [List.getElem_toArray, List.getElem_cons_zero, List.getElem_cons_succ, Act.put, List.setIfInBounds_toArray, List.set_cons_zero, List.set_cons_succ]
          refine walk_pure rfl rfl rfl rfl (by intro w'; go_simp; with_reducible rfl) ?_
          try simp only [List.getElem_toArray, List.getElem_cons_zero, List.getElem_cons_succ, Act.put, List.setIfInBounds_toArray, List.set_cons_zero, List.set_cons_succ]
          refine walk_nil ?_
          clear HF
          have d11 := (S.pull 1).cell
          have HS := Lib.hid S
          clear S
          go_upto_block 2 with fail
          refine cut_by (fun J K' hJ hK' => play_switch l w _ room q k p b11 b12 d va vcap vw wcap ws H y hl400 hlt hwl4 hlen HK HE1 HS _ _ _ _ _ _ _ _ _ _ _ _ _ _ _ _ _ _ _ _ _ _ _ _ _ _ _ _ _ _ _ _ _ _ _ _ _ _ _ _ _ _ _ _ _ _ _ _ _ _ _ _ _ _ _ _ _ _ _ _ _ _ _ _ _ _ _ _ _ _ _ _ _ _ _ _ _ _ _ _ _ _ _ _ _ _ _ _ _ _ _ _ _ _ _ _ _ _ _ _ _ _ _ _ _ _ _ _ _ _ _ _ _ _ _ _ _ _ _ _ _ _ _ _ _ _ _ _ _ _ _ _ _ _ _ _ _ _ _ _ _ _ _ _ _ _ _ _ _ _ _ _ _ _ _ _ _ _ _ _ _ _ _ _ _ _ _ _ _ _ _ _ _ _ _ _ _ _ _ _ _ _ _ _ _ _ _ _ _ _ _ _ _ _ _ _ _ _ _ _ _ _ _ _ _ _ _ _ _ _ _ _ _ _ _ _ _ _ _ _ _ _ _ _ _ _ _ _ _ _ _ _ _ _ _ _ _ _ _ _ _ J K' hJ hK' _ (fun c d v a w h => by cases d <;> exact h)) ?_
          clear HS d11
          intro a' wc hcut
          unfold PF at hcut
          obtain ⟨u5, hcut⟩ := hcut
          obtain ⟨u9, hcut⟩ := hcut
          obtain ⟨u13, hcut⟩ := hcut
          obtain ⟨u14, hcut⟩ := hcut
          obtain ⟨u15, hcut⟩ := hcut
          obtain ⟨u16, hcut⟩ := hcut
          obtain ⟨u17, hcut⟩ := hcut
          obtain ⟨u18, hcut⟩ := hcut
          obtain ⟨u19, hcut⟩ := hcut
          obtain ⟨u20, hcut⟩ := hcut
          obtain ⟨u21, hcut⟩ := hcut
          obtain ⟨u22, hcut⟩ := hcut
          obtain ⟨u23, hcut⟩ := hcut
          obtain ⟨u24, hcut⟩ := hcut
          obtain ⟨u25, hcut⟩ := hcut
          obtain ⟨u26, hcut⟩ := hcut
          obtain ⟨u27, hcut⟩ := hcut
          obtain ⟨u28, hcut⟩ := hcut
          obtain ⟨u29, hcut⟩ := hcut
          obtain ⟨u74, hcut⟩ := hcut
          obtain ⟨u75, hcut⟩ := hcut
          obtain ⟨u76, hcut⟩ := hcut
          obtain ⟨u77, hcut⟩ := hcut
          obtain ⟨u78, hcut⟩ := hcut
          obtain ⟨u79, hcut⟩ := hcut
          obtain ⟨u80, hcut⟩ := hcut
          obtain ⟨u81, hcut⟩ := hcut
          obtain ⟨u82, hcut⟩ := hcut
          obtain ⟨u83, hcut⟩ := hcut
          obtain ⟨u84, hcut⟩ := hcut
          obtain ⟨u85, hcut⟩ := hcut
          obtain ⟨u86, hcut⟩ := hcut
          obtain ⟨u87, hcut⟩ := hcut
          obtain ⟨u88, hcut⟩ := hcut
          obtain ⟨u89, hcut⟩ := hcut
          obtain ⟨u90, hcut⟩ := hcut
          obtain ⟨u91, hcut⟩ := hcut
          obtain ⟨u92, hcut⟩ := hcut
          obtain ⟨u93, hcut⟩ := hcut
          obtain ⟨u94, hcut⟩ := hcut
          obtain ⟨u95, hcut⟩ := hcut
          obtain ⟨u96, hcut⟩ := hcut
          obtain ⟨u97, hcut⟩ := hcut
          obtain ⟨u98, hcut⟩ := hcut
          obtain ⟨u99, hcut⟩ := hcut
          obtain ⟨u100, hcut⟩ := hcut
          obtain ⟨u101, hcut⟩ := hcut
          obtain ⟨u102, hcut⟩ := hcut
          obtain ⟨u103, hcut⟩ := hcut
          obtain ⟨u104, hcut⟩ := hcut
          obtain ⟨u105, hcut⟩ := hcut
          obtain ⟨u106, hcut⟩ := hcut
          obtain ⟨u107, hcut⟩ := hcut
          obtain ⟨u108, hcut⟩ := hcut
          obtain ⟨u109, hcut⟩ := hcut
          obtain ⟨u110, hcut⟩ := hcut
          obtain ⟨u111, hcut⟩ := hcut
          obtain ⟨u112, hcut⟩ := hcut
          obtain ⟨u113, hcut⟩ := hcut
          obtain ⟨u114, hcut⟩ := hcut
          obtain ⟨u115, hcut⟩ := hcut
          obtain ⟨u116, hcut⟩ := hcut
          obtain ⟨u117, hcut⟩ := hcut
          obtain ⟨u118, hcut⟩ := hcut
          obtain ⟨u119, hcut⟩ := hcut
          obtain ⟨u120, hcut⟩ := hcut
          obtain ⟨u121, hcut⟩ := hcut
          obtain ⟨u122, hcut⟩ := hcut
          obtain ⟨u123, hcut⟩ := hcut
          obtain ⟨u124, hcut⟩ := hcut
          obtain ⟨u125, hcut⟩ := hcut
          obtain ⟨u126, hcut⟩ := hcut
          obtain ⟨u127, hcut⟩ := hcut
          obtain ⟨u128, hcut⟩ := hcut
          obtain ⟨u129, hcut⟩ := hcut
          obtain ⟨u130, hcut⟩ := hcut
          obtain ⟨u131, hcut⟩ := hcut
          obtain ⟨u132, hcut⟩ := hcut
          obtain ⟨u133, hcut⟩ := hcut
          obtain ⟨u134, hcut⟩ := hcut
          obtain ⟨u135, hcut⟩ := hcut
          obtain ⟨u136, hcut⟩ := hcut
          obtain ⟨u137, hcut⟩ := hcut
          obtain ⟨u138, hcut⟩ := hcut
          obtain ⟨u139, hcut⟩ := hcut
          obtain ⟨u140, hcut⟩ := hcut
          obtain ⟨u141, hcut⟩ := hcut
          obtain ⟨u142, hcut⟩ := hcut
          obtain ⟨u143, hcut⟩ := hcut
          obtain ⟨u144, hcut⟩ := hcut
          obtain ⟨u145, hcut⟩ := hcut
          obtain ⟨u146, hcut⟩ := hcut
          obtain ⟨u147, hcut⟩ := hcut
          obtain ⟨u148, hcut⟩ := hcut
          obtain ⟨u149, hcut⟩ := hcut
          obtain ⟨u150, hcut⟩ := hcut
          obtain ⟨u151, hcut⟩ := hcut
          obtain ⟨u152, hcut⟩ := hcut
          obtain ⟨u153, hcut⟩ := hcut
          obtain ⟨u154, hcut⟩ := hcut
          obtain ⟨u155, hcut⟩ := hcut
          obtain ⟨u156, hcut⟩ := hcut
          obtain ⟨u157, hcut⟩ := hcut
          obtain ⟨u158, hcut⟩ := hcut
          obtain ⟨u159, hcut⟩ := hcut
          obtain ⟨u160, hcut⟩ := hcut
          obtain ⟨u161, hcut⟩ := hcut
          obtain ⟨u162, hcut⟩ := hcut
          obtain ⟨u163, hcut⟩ := hcut
          obtain ⟨u164, hcut⟩ := hcut
          obtain ⟨u165, hcut⟩ := hcut
          obtain ⟨u166, hcut⟩ := hcut
          obtain ⟨u167, hcut⟩ := hcut
          obtain ⟨u168, hcut⟩ := hcut
          obtain ⟨u169, hcut⟩ := hcut
          obtain ⟨u170, hcut⟩ := hcut
          obtain ⟨u171, hcut⟩ := hcut
          obtain ⟨u172, hcut⟩ := hcut
          obtain ⟨u173, hcut⟩ := hcut
          obtain ⟨u174, hcut⟩ := hcut
          obtain ⟨u175, hcut⟩ := hcut
          obtain ⟨u176, hcut⟩ := hcut
          obtain ⟨u177, hcut⟩ := hcut
          obtain ⟨u178, hcut⟩ := hcut
          obtain ⟨u179, hcut⟩ := hcut
          obtain ⟨u180, hcut⟩ := hcut
          obtain ⟨u181, hcut⟩ := hcut
          obtain ⟨u182, hcut⟩ := hcut
          obtain ⟨u183, hcut⟩ := hcut
          obtain ⟨u184, hcut⟩ := hcut
          obtain ⟨u185, hcut⟩ := hcut
          obtain ⟨u186, hcut⟩ := hcut
          obtain ⟨u187, hcut⟩ := hcut
          obtain ⟨u188, hcut⟩ := hcut
          obtain ⟨u189, hcut⟩ := hcut
          obtain ⟨u190, hcut⟩ := hcut
          obtain ⟨u191, hcut⟩ := hcut
          obtain ⟨u192, hcut⟩ := hcut
          obtain ⟨u193, hcut⟩ := hcut
          obtain ⟨u194, hcut⟩ := hcut
          obtain ⟨u195, hcut⟩ := hcut
          obtain ⟨u196, hcut⟩ := hcut
          obtain ⟨u197, hcut⟩ := hcut
          obtain ⟨u198, hcut⟩ := hcut
          obtain ⟨u199, hcut⟩ := hcut
          obtain ⟨u200, hcut⟩ := hcut
          obtain ⟨u201, hcut⟩ := hcut
          obtain ⟨u202, hcut⟩ := hcut
          obtain ⟨u203, hcut⟩ := hcut
          obtain ⟨u204, hcut⟩ := hcut
          obtain ⟨u205, hcut⟩ := hcut
          obtain ⟨u206, hcut⟩ := hcut
          obtain ⟨u207, hcut⟩ := hcut
          obtain ⟨u208, hcut⟩ := hcut
          obtain ⟨u209, hcut⟩ := hcut
          obtain ⟨u210, hcut⟩ := hcut
          obtain ⟨u211, hcut⟩ := hcut
          obtain ⟨u212, hcut⟩ := hcut
          obtain ⟨u213, hcut⟩ := hcut
          obtain ⟨u214, hcut⟩ := hcut
          obtain ⟨hcut, rfl⟩ := hcut
          obtain ⟨p2, H2, ws2, rfl, ok, hrm, hlm, hwl, S⟩ := hcut
          obtain ⟨vw2, wcap2, rfl, _⟩ := (S.pull 2).own_form
          have hl0 : 0 ≤ H2.live := by rw [ok.live_eq]; omega
          have hl1 : H2.live ≤ 100000 := by have := ok.most1; omega
          have hr1 := ok.room1
          have hr0 := ok.room0
          have hw1 : IntKind.i64.wrap (room - H2.live) = room - H2.live := IntWalk.i64_in _ (by omega)
          have hcl : H2.cells.length ≤ 100000 := by have := cells_len ok; omega
          have hF : ∀ (w' : World) {L : List HProp}, St w w' (heapAt p2 H2 :: heapRAt q H2 :: L) → w'.cell? ⟨q, 3, none⟩ = some (.int .i64 H2.most) := by
            intro w' L S
            obtain ⟨_, _, _, dp, _⟩ := (S.pull 1).heapR_view
            simpa using dp 3
          have OK := Lib.hid ok
          have HK2 := Lib.hid (And.intro hrm (And.intro hlm hwl))
          clear ok hlm hwl hrm HK
          have HS := Lib.hid S
          clear S
          go_upto_region 52 with fail
          refine wp_region_st HS.out [0, 2, 1, 3, 4, 5, 6, 8, 9, 7, 10, 11, 12, 13, 14, 15, 17, 18, 19, 20, 16, 21, 22, 23, 24, 26, 25, 27, 28, 29, 30] (fun w' => w'.cell? ⟨q, 3, none⟩ = some (.int .i64 H2.most)) [20] [1, 3, 7, 10, 16, 25, 27, 28] [25, 27, 28] (by kernel_rfl) (by kernel_rfl) (fun c d v a w h => by cases d <;> exact h) ?_
          clear HS
          intro w5 S
          iterate 2
            refine walk_pure rfl rfl rfl rfl (by intro w'; go_simp; with_reducible rfl) ?_
            simp only [List.getElem_toArray, List.getElem_cons_zero, List.getElem_cons_succ, Act.put, List.setIfInBounds_toArray, List.set_cons_zero, List.set_cons_succ]
          refine walk_do rfl rfl rfl (fun K hK => ?_)
          go_simp
          refine (live_c S).mono ?_
          rintro e wx ⟨rfl, m1, rfl⟩
          have S := S.drewN m1
          generalize World.drewN _ m1 = wd1 at S ⊢
          refine hK _ _ (fun _ => hF _ S) ?_
          clear hK K
          try simp only [List.getElem_toArray, List.getElem_cons_zero, List.getElem_cons_succ, Act.put, List.setIfInBounds_toArray, List.set_cons_zero, List.set_cons_succ]
          refine walk_do rfl rfl rfl (fun K hK => ?_)
          go_simp
          refine (liveR_q (S.pull 1) OK.out).mono ?_
          rintro e wx ⟨rfl, m2, rfl⟩
          have S := S.drewN m2
          generalize World.drewN _ m2 = wd2 at S ⊢
          refine hK _ _ (fun _ => hF _ S) ?_
          clear hK K
          try simp only [List.getElem_toArray, List.getElem_cons_zero, List.getElem_cons_succ, Act.put, List.setIfInBounds_toArray, List.set_cons_zero, List.set_cons_succ]
          iterate 5
            refine walk_pure rfl rfl rfl rfl (by intro w'; go_simp; with_reducible rfl) ?_
            simp only [List.getElem_toArray, List.getElem_cons_zero, List.getElem_cons_succ, Act.put, List.setIfInBounds_toArray, List.set_cons_zero, List.set_cons_succ]
          refine walk_do rfl rfl rfl (fun K hK => ?_)
          go_simp
          have hc := left_c S OK.out
          rw [HK2.out.1] at hc
          refine hc.mono ?_
          clear hc
          rintro e wx ⟨rfl, m3, rfl⟩
          have S := S.drewN m3
          generalize World.drewN _ m3 = wd3 at S ⊢
          refine hK _ _ (fun _ => hF _ S) ?_
          clear hK K
          try simp only [List.getElem_toArray, List.getElem_cons_zero, List.getElem_cons_succ, Act.put, List.setIfInBounds_toArray, List.set_cons_zero, List.set_cons_succ]
          refine walk_do rfl rfl rfl (fun K hK => ?_)
          go_simp
          refine (liveR_q (S.pull 1) OK.out).mono ?_
          rintro e wx ⟨rfl, m4, rfl⟩
          have S := S.drewN m4
          generalize World.drewN _ m4 = wd4 at S ⊢
          refine hK _ _ (fun _ => hF _ S) ?_
          clear hK K
          try simp only [List.getElem_toArray, List.getElem_cons_zero, List.getElem_cons_succ, Act.put, List.setIfInBounds_toArray, List.set_cons_zero, List.set_cons_succ]
          iterate 8
            refine walk_pure rfl rfl rfl rfl (by intro w'; go_simp; with_reducible rfl) ?_
            simp only [List.getElem_toArray, List.getElem_cons_zero, List.getElem_cons_succ, Act.put, List.setIfInBounds_toArray, List.set_cons_zero, List.set_cons_succ]
          have HF := Lib.hid (hF _ S)
          refine walk_load rfl rfl rfl HF.out rfl (by rintro w' g0; go_simp; with_reducible rfl) ?_
          clear HF
          try simp only [List.getElem_toArray, List.getElem_cons_zero, List.getElem_cons_succ, Act.put, List.setIfInBounds_toArray, List.set_cons_zero, List.set_cons_succ]
          refine walk_do rfl rfl rfl (fun K hK => ?_)
          go_simp
          refine (most_c S).mono ?_
          rintro e wx ⟨rfl, rfl⟩
          refine hK _ _ (fun _ => hF _ S) ?_
          clear hK K
          try simp only [List.getElem_toArray, List.getElem_cons_zero, List.getElem_cons_succ, Act.put, List.setIfInBounds_toArray, List.set_cons_zero, List.set_cons_succ]
          iterate 5
            refine walk_pure rfl rfl rfl rfl (by intro w'; go_simp; with_reducible rfl) ?_
            simp only [List.getElem_toArray, List.getElem_cons_zero, List.getElem_cons_succ, Act.put, List.setIfInBounds_toArray, List.set_cons_zero, List.set_cons_succ]
          refine walk_do rfl rfl rfl (fun K hK => ?_)
          go_simp
          refine (cells_c S OK.out).mono ?_
          rintro e w8 ⟨vc, rfl, S8⟩
          obtain ⟨vca, vcc, rfl, _⟩ := St.own_form S8
          have S := S.chain S8
          clear S8
          simp only [List.cons_append, List.nil_append] at S
          refine hK _ _ (fun q => by cases q) ?_
          clear hK K
          try simp only [List.getElem_toArray, List.getElem_cons_zero, List.getElem_cons_succ, Act.put, List.setIfInBounds_toArray, List.set_cons_zero, List.set_cons_succ]
          refine walk_do rfl rfl rfl (fun K hK => ?_)
          go_simp
          refine (cellsR_c (S.pull 2) OK.out).mono ?_
          rintro e w9 ⟨vc2, rfl, S8⟩
          obtain ⟨vca2, vcc2, rfl, _⟩ := St.own_form S8
          have S := S.chain S8
          clear S8
          simp only [List.cons_append, List.nil_append] at S
          refine hK _ _ (fun q => by cases q) ?_
          clear hK K
          try simp only [List.getElem_toArray, List.getElem_cons_zero, List.getElem_cons_succ, Act.put, List.setIfInBounds_toArray, List.set_cons_zero, List.set_cons_succ]
          refine walk_do rfl rfl rfl (fun K hK => ?_)
          go_simp
          refine (same_words_c H2.cells _ _ _ (S.pull 1).own_rd S.own_rd (by unfold maxLen; omega)).mono ?_
          rintro e w10 ⟨rfl, hb⟩
          have S := (S.mono hb).tail.tail
          clear hb
          refine hK _ _ (fun q => by cases q) ?_
          clear hK K
          try simp only [List.getElem_toArray, List.getElem_cons_zero, List.getElem_cons_succ, Act.put, List.setIfInBounds_toArray, List.set_cons_zero, List.set_cons_succ]
          iterate 2
            refine walk_pure rfl rfl rfl rfl (by intro w'; go_simp; with_reducible rfl) ?_
            simp only [List.getElem_toArray, List.getElem_cons_zero, List.getElem_cons_succ, Act.put, List.setIfInBounds_toArray, List.set_cons_zero, List.set_cons_succ]
          refine walk_nil ?_
          have HS := Lib.hid S
          clear S
          go_wp2_with fail
          exact ⟨⟨k + 1, p2, H2, ws2, by omega, by go_num, rfl, OK.out, HK2.out.1, HK2.out.2.1, HK2.out.2.2, HS.out⟩, by simp [intOf]; omega⟩
        · have HS := Lib.hid S
          clear S
          go_wp2_with fail
          go_ret
          exact ⟨rfl, HS.out.below⟩

end Go.Proofs.Ytciciaikajdenaa

