/- HeapOwned's switch: one theorem a kind of call. -/
import Derived.Test.YtciciaikajdenaaM5
import Derived.Test.YtciciaikajdenaaD2
import Derived.Test.YtciciaikajdenaaH6M
import Derived.Test.YtciciaikajdenaaFind
set_option linter.unusedSimpArgs false
set_option linter.unusedVariables false
namespace Go.Proofs.Ytciciaikajdenaa
open Go.RowKit
open Classical

noncomputable def block2o : Code := (Try.f4.body.bind (findBlock 2)).getD .skip

theorem starL_take {L : List HProp} : ∀ (n : Nat) {h : Frag}, starL L h → starL (L.take n) h := by
  induction L with
  | nil => intro n h s; simpa using s
  | cons P L ih =>
    intro n h s
    cases n with
    | zero => trivial
    | succ n => exact starL_cons (fun _ x => x) (fun _ x => ih n x) s

theorem St.take {W0 w : World} {L : List HProp} (h : St W0 w L) (n : Nat) : St W0 w (L.take n) := h.conv fun _ s => starL_take n s

theorem map_set_same {α β : Type} {f : α → β} {l : List α} {i : Nat} {x y : α} (h : l[i]? = some x) (e : f y = f x) : (l.set i y).map f = l.map f := by
  rw [List.map_set]
  apply List.ext_getElem?
  intro k
  rw [List.getElem?_set]
  split
  · rename_i q
    subst q
    obtain ⟨hlt, he⟩ := List.getElem?_eq_some_iff.1 h
    simp [hlt, he, e]
  · rfl

set_option maxRecDepth 1000000 in
/-- The frame behind the switch. -/
def PFO (x0 x1 x2 x3 x4 x5 x6 x7 x8 x9 x10 x11 x12 x13 x14 x15 x26 x27 x28 x29 x30 x31 x32 x33 x34 x35 x36 x37 x38 x39 x40 x41 x42 x43 x44 x45 x46 x47 x48 x49 x50 x51 x52 x53 x54 x55 x56 x57 x58 x59 x60 x61 x62 x227 x228 x229 x230 x231 x232 x233 x234 x235 x236 x237 x238 x239 x240 x241 x242 x243 x244 x245 x246 x247 x248 x249 x250 x251 x252 x253 x254 x255 x256 x257 x258 x259 x260 x261 : Value) (w : World) (room : Int) (p b7 b8 b9 r1 r2 k : Nat) (a' : Act) (w' : World) : Prop :=
  ∃ u16 u17 u18 u19 u20 u21 u22 u23 u24 u25 u63 u64 u65 u66 u67 u68 u69 u70 u71 u72 u73 u74 u75 u76 u77 u78 u79 u80 u81 u82 u83 u84 u85 u86 u87 u88 u89 u90 u91 u92 u93 u94 u95 u96 u97 u98 u99 u100 u101 u102 u103 u104 u105 u106 u107 u108 u109 u110 u111 u112 u113 u114 u115 u116 u117 u118 u119 u120 u121 u122 u123 u124 u125 u126 u127 u128 u129 u130 u131 u132 u133 u134 u135 u136 u137 u138 u139 u140 u141 u142 u143 u144 u145 u146 u147 u148 u149 u150 u151 u152 u153 u154 u155 u156 u157 u158 u159 u160 u161 u162 u163 u164 u165 u166 u167 u168 u169 u170 u171 u172 u173 u174 u175 u176 u177 u178 u179 u180 u181 u182 u183 u184 u185 u186 u187 u188 u189 u190 u191 u192 u193 u194 u195 u196 u197 u198 u199 u200 u201 u202 u203 u204 u205 u206 u207 u208 u209 u210 u211 u212 u213 u214 u215 u216 u217 u218 u219 u220 u221 u222 u223 u224 u225 u226 : Value, OwnMid w room p b7 b8 b9 r1 r2 k w' ∧ a' = ⟨#[x0, x1, x2, x3, x4, x5, x6, x7, x8, x9, x10, x11, x12, x13, x14, x15, u16, u17, u18, u19, u20, u21, u22, u23, u24, u25, x26, x27, x28, x29, x30, x31, x32, x33, x34, x35, x36, x37, x38, x39, x40, x41, x42, x43, x44, x45, x46, x47, x48, x49, x50, x51, x52, x53, x54, x55, x56, x57, x58, x59, x60, x61, x62, u63, u64, u65, u66, u67, u68, u69, u70, u71, u72, u73, u74, u75, u76, u77, u78, u79, u80, u81, u82, u83, u84, u85, u86, u87, u88, u89, u90, u91, u92, u93, u94, u95, u96, u97, u98, u99, u100, u101, u102, u103, u104, u105, u106, u107, u108, u109, u110, u111, u112, u113, u114, u115, u116, u117, u118, u119, u120, u121, u122, u123, u124, u125, u126, u127, u128, u129, u130, u131, u132, u133, u134, u135, u136, u137, u138, u139, u140, u141, u142, u143, u144, u145, u146, u147, u148, u149, u150, u151, u152, u153, u154, u155, u156, u157, u158, u159, u160, u161, u162, u163, u164, u165, u166, u167, u168, u169, u170, u171, u172, u173, u174, u175, u176, u177, u178, u179, u180, u181, u182, u183, u184, u185, u186, u187, u188, u189, u190, u191, u192, u193, u194, u195, u196, u197, u198, u199, u200, u201, u202, u203, u204, u205, u206, u207, u208, u209, u210, u211, u212, u213, u214, u215, u216, u217, u218, u219, u220, u221, u222, u223, u224, u225, u226, x227, x228, x229, x230, x231, x232, x233, x234, x235, x236, x237, x238, x239, x240, x241, x242, x243, x244, x245, x246, x247, x248, x249, x250, x251, x252, x253, x254, x255, x256, x257, x258, x259, x260, x261], []⟩

set_option maxRecDepth 1000000 in
set_option maxHeartbeats 40000000 in
theorem owned_other (l : List (ADo × Value)) (w w8 : World) (room : Int) (k p b7 b8 b9 r1 r2 b12 b13 b14 : Nat) (d : ADo) (va : Option Addr) (vcap : Nat) (la : Option Addr) (lcap : Nat) (ws : List AWord) (H : AHeap) (E : List AEnt) (Gs : List (AWord × Value)) (y : AWord) (al : Bool) (c0 : ACell) (a0 : Option Addr) (cp0 : Nat)
    (hl400 : l.length ≤ 400) (hlt : k < l.length) (hwl : ws.length ≤ k) (hlen : d.c.ws.length ≤ maxLen) (HI : Hid (OwnInv H room (10 + k) E Gs)) (HM : Hid (Meant H E y al c0 (.slice a0 c0.ws.length cp0)))
    (HE1 : Hid (∀ (w' : World) (L : List HProp), St w w' L → rd w' 4 (.slice va d.c.ws.length vcap) d.c.ws.length (flatW d.c.ws)))
    (HS : Hid (St w w8 (cellsB b14 #[Value.int .u8 c0.k, .int .i64 c0.n, .slice a0 c0.ws.length cp0] 34 :: cellsB b13 #[Value.int .u8 y.k, .int .i64 y.n, .string y.s, .int .i64 y.g] 36 :: cellsB b12 (dCells (d, .slice va d.c.ws.length vcap)).toArray 38 :: heapAt p H :: ownL b7 b8 b9 r1 r2 (.slice la ws.length lcap) E E Gs ws)))
    (x1 x2 x3 x4 x6 x11 x16 x17 x18 x19 x20 x21 x22 x23 x24 x25 x26 x27 x28 x29 x30 x31 x32 x33 x34 x35 x36 x37 x38 x39 x40 x41 x42 x43 x44 x45 x46 x47 x48 x49 x50 x51 x52 x53 x54 x55 x56 x57 x58 x59 x60 x61 x63 x64 x65 x66 x67 x68 x69 x70 x71 x72 x73 x74 x75 x76 x77 x78 x79 x80 x81 x82 x83 x84 x85 x86 x87 x88 x89 x90 x91 x92 x93 x94 x95 x96 x97 x98 x99 x100 x101 x102 x103 x104 x105 x106 x107 x108 x109 x110 x111 x112 x113 x114 x115 x116 x117 x118 x119 x120 x121 x122 x123 x124 x125 x126 x127 x128 x129 x130 x131 x132 x133 x134 x135 x136 x137 x138 x139 x140 x141 x142 x143 x144 x145 x146 x147 x148 x149 x150 x151 x152 x153 x154 x155 x156 x157 x158 x159 x160 x161 x162 x163 x164 x165 x166 x167 x168 x169 x170 x171 x172 x173 x174 x175 x176 x177 x178 x179 x180 x181 x182 x183 x184 x185 x186 x187 x188 x189 x190 x191 x192 x193 x194 x195 x196 x197 x198 x199 x200 x201 x202 x203 x204 x205 x206 x207 x208 x209 x210 x211 x212 x213 x214 x215 x216 x217 x218 x219 x220 x221 x222 x223 x224 x225 x226 x227 x228 x229 x230 x231 x232 x233 x234 x235 x236 x237 x238 x239 x240 x241 x242 x243 x244 x245 x246 x247 x248 x249 x250 x251 x252 x253 x254 x255 x256 x257 x258 x259 x260 x261 : Value)
    (kb0 : (d.kind == 0) = false)
    (kb1 : (d.kind == 1) = false)
    (kb2 : (d.kind == 2) = false)
    (kb3 : (d.kind == 3) = false)
    (kb4 : (d.kind == 4) = false) :
    ∀ (J K' : Act → World → Prop), (∀ a' w', PFO (.int .i64 room) x1 x2 x3 x4 (.pointer (some ⟨p, 0, none⟩)) x6 (.pointer (some ⟨b7, 0, none⟩)) (.pointer (some ⟨b8, 0, none⟩)) (.pointer (some ⟨b9, 0, none⟩)) (.func (.func 40) #[] #[.pointer (some ⟨b7, 0, none⟩), .pointer (some ⟨b8, 0, none⟩), .pointer (some ⟨b9, 0, none⟩)]) x11 (.pointer (some ⟨b12, 0, none⟩)) (.pointer (some ⟨b13, 0, none⟩)) (.pointer (some ⟨b14, 0, none⟩)) (.bool al) x26 x27 x28 x29 x30 x31 x32 x33 x34 x35 x36 x37 x38 x39 x40 x41 x42 x43 x44 x45 x46 x47 x48 x49 x50 x51 x52 x53 x54 x55 x56 x57 x58 x59 x60 x61 (.int .i64 d.kind) x227 x228 x229 x230 x231 x232 x233 x234 x235 x236 x237 x238 x239 x240 x241 x242 x243 x244 x245 x246 x247 x248 x249 x250 x251 x252 x253 x254 x255 x256 x257 x258 x259 x260 x261 w room p b7 b8 b9 r1 r2 k a' w' → J a' w') → (∀ a' w', Met J a' w' → K' a' w') → ∀ Q' : Exit → Act → World → Prop, (∀ c d v a w, Q' (.panic c) (a.put d v) w → Q' (.panic c) a w) →
      Code.wp Try.prog block2o (Exit.then K' Q') ⟨#[.int .i64 room, x1, x2, x3, x4, .pointer (some ⟨p, 0, none⟩), x6, .pointer (some ⟨b7, 0, none⟩), .pointer (some ⟨b8, 0, none⟩), .pointer (some ⟨b9, 0, none⟩), .func (.func 40) #[] #[.pointer (some ⟨b7, 0, none⟩), .pointer (some ⟨b8, 0, none⟩), .pointer (some ⟨b9, 0, none⟩)], x11, .pointer (some ⟨b12, 0, none⟩), .pointer (some ⟨b13, 0, none⟩), .pointer (some ⟨b14, 0, none⟩), .bool al, x16, x17, x18, x19, x20, x21, x22, x23, x24, x25, x26, x27, x28, x29, x30, x31, x32, x33, x34, x35, x36, x37, x38, x39, x40, x41, x42, x43, x44, x45, x46, x47, x48, x49, x50, x51, x52, x53, x54, x55, x56, x57, x58, x59, x60, x61, .int .i64 d.kind, x63, x64, x65, x66, x67, x68, x69, x70, x71, x72, x73, x74, x75, x76, x77, x78, x79, x80, x81, x82, x83, x84, x85, x86, x87, x88, x89, x90, x91, x92, x93, x94, x95, x96, x97, x98, x99, x100, x101, x102, x103, x104, x105, x106, x107, x108, x109, x110, x111, x112, x113, x114, x115, x116, x117, x118, x119, x120, x121, x122, x123, x124, x125, x126, x127, x128, x129, x130, x131, x132, x133, x134, x135, x136, x137, x138, x139, x140, x141, x142, x143, x144, x145, x146, x147, x148, x149, x150, x151, x152, x153, x154, x155, x156, x157, x158, x159, x160, x161, x162, x163, x164, x165, x166, x167, x168, x169, x170, x171, x172, x173, x174, x175, x176, x177, x178, x179, x180, x181, x182, x183, x184, x185, x186, x187, x188, x189, x190, x191, x192, x193, x194, x195, x196, x197, x198, x199, x200, x201, x202, x203, x204, x205, x206, x207, x208, x209, x210, x211, x212, x213, x214, x215, x216, x217, x218, x219, x220, x221, x222, x223, x224, x225, x226, x227, x228, x229, x230, x231, x232, x233, x234, x235, x236, x237, x238, x239, x240, x241, x242, x243, x244, x245, x246, x247, x248, x249, x250, x251, x252, x253, x254, x255, x256, x257, x258, x259, x260, x261], []⟩ w8 := by
  intro J K' hJ hK' Q' hQp
  conv => arg 2; whnf
  have S := HS.out
  clear HS
  unfold ownL at S
  simp only [dCells] at S
  have d14 := S.cell
  have d13 := (S.pull 1).cell
  have d12 := (S.pull 2).cell
  have d7 := (S.pull 4).cell
  have HS := Lib.hid S
  clear S
  go_wp2_with fail
  go_meet
  case rel =>
    exact ⟨H, E, Gs, ws, .slice la ws.length lcap, HI.out.mono (by omega), by omega, HS.out.tail.tail.tail⟩

set_option maxRecDepth 1000000 in
set_option maxHeartbeats 40000000 in
theorem owned_kind1 (l : List (ADo × Value)) (w w8 : World) (room : Int) (k p b7 b8 b9 r1 r2 b12 b13 b14 : Nat) (d : ADo) (va : Option Addr) (vcap : Nat) (la : Option Addr) (lcap : Nat) (ws : List AWord) (H : AHeap) (E : List AEnt) (Gs : List (AWord × Value)) (y : AWord) (al : Bool) (c0 : ACell) (a0 : Option Addr) (cp0 : Nat)
    (hl400 : l.length ≤ 400) (hlt : k < l.length) (hwl : ws.length ≤ k) (hlen : d.c.ws.length ≤ maxLen) (HI : Hid (OwnInv H room (10 + k) E Gs)) (HM : Hid (Meant H E y al c0 (.slice a0 c0.ws.length cp0)))
    (HE1 : Hid (∀ (w' : World) (L : List HProp), St w w' L → rd w' 4 (.slice va d.c.ws.length vcap) d.c.ws.length (flatW d.c.ws)))
    (HS : Hid (St w w8 (cellsB b14 #[Value.int .u8 c0.k, .int .i64 c0.n, .slice a0 c0.ws.length cp0] 34 :: cellsB b13 #[Value.int .u8 y.k, .int .i64 y.n, .string y.s, .int .i64 y.g] 36 :: cellsB b12 (dCells (d, .slice va d.c.ws.length vcap)).toArray 38 :: heapAt p H :: ownL b7 b8 b9 r1 r2 (.slice la ws.length lcap) E E Gs ws)))
    (x1 x2 x3 x4 x6 x11 x16 x17 x18 x19 x20 x21 x22 x23 x24 x25 x26 x27 x28 x29 x30 x31 x32 x33 x34 x35 x36 x37 x38 x39 x40 x41 x42 x43 x44 x45 x46 x47 x48 x49 x50 x51 x52 x53 x54 x55 x56 x57 x58 x59 x60 x61 x63 x64 x65 x66 x67 x68 x69 x70 x71 x72 x73 x74 x75 x76 x77 x78 x79 x80 x81 x82 x83 x84 x85 x86 x87 x88 x89 x90 x91 x92 x93 x94 x95 x96 x97 x98 x99 x100 x101 x102 x103 x104 x105 x106 x107 x108 x109 x110 x111 x112 x113 x114 x115 x116 x117 x118 x119 x120 x121 x122 x123 x124 x125 x126 x127 x128 x129 x130 x131 x132 x133 x134 x135 x136 x137 x138 x139 x140 x141 x142 x143 x144 x145 x146 x147 x148 x149 x150 x151 x152 x153 x154 x155 x156 x157 x158 x159 x160 x161 x162 x163 x164 x165 x166 x167 x168 x169 x170 x171 x172 x173 x174 x175 x176 x177 x178 x179 x180 x181 x182 x183 x184 x185 x186 x187 x188 x189 x190 x191 x192 x193 x194 x195 x196 x197 x198 x199 x200 x201 x202 x203 x204 x205 x206 x207 x208 x209 x210 x211 x212 x213 x214 x215 x216 x217 x218 x219 x220 x221 x222 x223 x224 x225 x226 x227 x228 x229 x230 x231 x232 x233 x234 x235 x236 x237 x238 x239 x240 x241 x242 x243 x244 x245 x246 x247 x248 x249 x250 x251 x252 x253 x254 x255 x256 x257 x258 x259 x260 x261 : Value)
    (kb0 : (d.kind == 0) = false)
    (kb1 : (d.kind == 1) = true) :
    ∀ (J K' : Act → World → Prop), (∀ a' w', PFO (.int .i64 room) x1 x2 x3 x4 (.pointer (some ⟨p, 0, none⟩)) x6 (.pointer (some ⟨b7, 0, none⟩)) (.pointer (some ⟨b8, 0, none⟩)) (.pointer (some ⟨b9, 0, none⟩)) (.func (.func 40) #[] #[.pointer (some ⟨b7, 0, none⟩), .pointer (some ⟨b8, 0, none⟩), .pointer (some ⟨b9, 0, none⟩)]) x11 (.pointer (some ⟨b12, 0, none⟩)) (.pointer (some ⟨b13, 0, none⟩)) (.pointer (some ⟨b14, 0, none⟩)) (.bool al) x26 x27 x28 x29 x30 x31 x32 x33 x34 x35 x36 x37 x38 x39 x40 x41 x42 x43 x44 x45 x46 x47 x48 x49 x50 x51 x52 x53 x54 x55 x56 x57 x58 x59 x60 x61 (.int .i64 d.kind) x227 x228 x229 x230 x231 x232 x233 x234 x235 x236 x237 x238 x239 x240 x241 x242 x243 x244 x245 x246 x247 x248 x249 x250 x251 x252 x253 x254 x255 x256 x257 x258 x259 x260 x261 w room p b7 b8 b9 r1 r2 k a' w' → J a' w') → (∀ a' w', Met J a' w' → K' a' w') → ∀ Q' : Exit → Act → World → Prop, (∀ c d v a w, Q' (.panic c) (a.put d v) w → Q' (.panic c) a w) →
      Code.wp Try.prog block2o (Exit.then K' Q') ⟨#[.int .i64 room, x1, x2, x3, x4, .pointer (some ⟨p, 0, none⟩), x6, .pointer (some ⟨b7, 0, none⟩), .pointer (some ⟨b8, 0, none⟩), .pointer (some ⟨b9, 0, none⟩), .func (.func 40) #[] #[.pointer (some ⟨b7, 0, none⟩), .pointer (some ⟨b8, 0, none⟩), .pointer (some ⟨b9, 0, none⟩)], x11, .pointer (some ⟨b12, 0, none⟩), .pointer (some ⟨b13, 0, none⟩), .pointer (some ⟨b14, 0, none⟩), .bool al, x16, x17, x18, x19, x20, x21, x22, x23, x24, x25, x26, x27, x28, x29, x30, x31, x32, x33, x34, x35, x36, x37, x38, x39, x40, x41, x42, x43, x44, x45, x46, x47, x48, x49, x50, x51, x52, x53, x54, x55, x56, x57, x58, x59, x60, x61, .int .i64 d.kind, x63, x64, x65, x66, x67, x68, x69, x70, x71, x72, x73, x74, x75, x76, x77, x78, x79, x80, x81, x82, x83, x84, x85, x86, x87, x88, x89, x90, x91, x92, x93, x94, x95, x96, x97, x98, x99, x100, x101, x102, x103, x104, x105, x106, x107, x108, x109, x110, x111, x112, x113, x114, x115, x116, x117, x118, x119, x120, x121, x122, x123, x124, x125, x126, x127, x128, x129, x130, x131, x132, x133, x134, x135, x136, x137, x138, x139, x140, x141, x142, x143, x144, x145, x146, x147, x148, x149, x150, x151, x152, x153, x154, x155, x156, x157, x158, x159, x160, x161, x162, x163, x164, x165, x166, x167, x168, x169, x170, x171, x172, x173, x174, x175, x176, x177, x178, x179, x180, x181, x182, x183, x184, x185, x186, x187, x188, x189, x190, x191, x192, x193, x194, x195, x196, x197, x198, x199, x200, x201, x202, x203, x204, x205, x206, x207, x208, x209, x210, x211, x212, x213, x214, x215, x216, x217, x218, x219, x220, x221, x222, x223, x224, x225, x226, x227, x228, x229, x230, x231, x232, x233, x234, x235, x236, x237, x238, x239, x240, x241, x242, x243, x244, x245, x246, x247, x248, x249, x250, x251, x252, x253, x254, x255, x256, x257, x258, x259, x260, x261], []⟩ w8 := by
  intro J K' hJ hK' Q' hQp
  conv => arg 2; whnf
  have S := HS.out
  clear HS
  unfold ownL at S
  simp only [dCells] at S
  have d14 := S.cell
  have d13 := (S.pull 1).cell
  have d12 := (S.pull 2).cell
  have d7 := (S.pull 4).cell
  have HS := Lib.hid S
  clear S
  go_wp2_with fail
  have ac := get_c (HS.out.pull 3) HI.out.ok y
  unfold GetPost at ac
  cases al with
  | true =>
    obtain ⟨hge, i, hf, hci⟩ := HM.out.yes rfl
    have hg : H.get y = (c0, 0) := by unfold AHeap.get; rw [hf, ← hci]; rfl
    have hcl : c0.ws.length ≤ 64 := get_ws HI.out.ok hg
    rw [hg] at ac
    refine ac.mono ?_
    clear ac hci hf hg
    rintro e w10 ⟨v1, rfl, S⟩
    obtain ⟨a1, cp1, rfl, _⟩ := St.own_form S
    simp only at S ⊢
    -- [v1, heap, b14, b13, b12, b7, b8, b9, mD, mG, words, ent]
    have S := S.allocC #[Value.int .u8 c0.k, .int .i64 c0.n, .slice a1 c0.ws.length cp1] 34
    clear HS d14 d13 d12 d7
    have d18 := S.cell
    have d14 := (S.pull 3).cell
    have HG := Lib.hid hge
    have HS := Lib.hid S
    clear S hge
    go_wp2_with fail
    obtain ⟨j, hj, _, _⟩ := getA_get HG.out
    refine (same_c c0 _ _ _ (HS.out.pull 1).own_rd ((HS.out.pull 12).ent_rd hj) (by unfold maxLen; omega)).mono ?_
    clear hj
    rintro e w11 ⟨rfl, hb⟩
    have S := HS.out.mono hb
    clear HS hb d18 d14
    have HS := Lib.hid S
    clear S
    go_wp2_with fail
    go_meet
    case rel =>
      exact ⟨H, E, Gs, ws, .slice la ws.length lcap, HI.out.mono (by omega), by omega, (((((HS.out.tail.tail).pull 1).tail).pull 1).tail.pull 1).tail⟩
  | false =>
    obtain ⟨_, hfn, _, _⟩ := HM.out.no rfl
    obtain ⟨e1, he1, he0⟩ : ∃ e1, H.get y = (.zero, e1) ∧ (e1 == 0) = false := ⟨(H.find y).1, by unfold AHeap.get; rw [if_neg hfn], by simpa using hfn⟩
    rw [he1] at ac
    refine ac.mono ?_
    clear ac hfn he1
    rintro e w10 ⟨v1, rfl, S⟩
    obtain ⟨a1, cp1, rfl, _⟩ := St.own_form S
    simp only [ACell.zero] at S ⊢
    have S := S.allocC #[Value.int .u8 0, .int .i64 0, .slice a1 0 cp1] 34
    clear HS d14 d13 d12 d7
    have HS := Lib.hid S
    clear S
    go_wp2_with fail
    go_meet
    case rel =>
      exact ⟨H, E, Gs, ws, .slice la ws.length lcap, HI.out.mono (by omega), by omega, (((((HS.out.tail.tail).pull 1).tail).pull 1).tail.pull 1).tail⟩

set_option maxRecDepth 1000000 in
set_option maxHeartbeats 40000000 in
theorem owned_kind3 (l : List (ADo × Value)) (w w8 : World) (room : Int) (k p b7 b8 b9 r1 r2 b12 b13 b14 : Nat) (d : ADo) (va : Option Addr) (vcap : Nat) (la : Option Addr) (lcap : Nat) (ws : List AWord) (H : AHeap) (E : List AEnt) (Gs : List (AWord × Value)) (y : AWord) (al : Bool) (c0 : ACell) (a0 : Option Addr) (cp0 : Nat)
    (hl400 : l.length ≤ 400) (hlt : k < l.length) (hwl : ws.length ≤ k) (hlen : d.c.ws.length ≤ maxLen) (HI : Hid (OwnInv H room (10 + k) E Gs)) (HM : Hid (Meant H E y al c0 (.slice a0 c0.ws.length cp0)))
    (HE1 : Hid (∀ (w' : World) (L : List HProp), St w w' L → rd w' 4 (.slice va d.c.ws.length vcap) d.c.ws.length (flatW d.c.ws)))
    (HS : Hid (St w w8 (cellsB b14 #[Value.int .u8 c0.k, .int .i64 c0.n, .slice a0 c0.ws.length cp0] 34 :: cellsB b13 #[Value.int .u8 y.k, .int .i64 y.n, .string y.s, .int .i64 y.g] 36 :: cellsB b12 (dCells (d, .slice va d.c.ws.length vcap)).toArray 38 :: heapAt p H :: ownL b7 b8 b9 r1 r2 (.slice la ws.length lcap) E E Gs ws)))
    (x1 x2 x3 x4 x6 x11 x16 x17 x18 x19 x20 x21 x22 x23 x24 x25 x26 x27 x28 x29 x30 x31 x32 x33 x34 x35 x36 x37 x38 x39 x40 x41 x42 x43 x44 x45 x46 x47 x48 x49 x50 x51 x52 x53 x54 x55 x56 x57 x58 x59 x60 x61 x63 x64 x65 x66 x67 x68 x69 x70 x71 x72 x73 x74 x75 x76 x77 x78 x79 x80 x81 x82 x83 x84 x85 x86 x87 x88 x89 x90 x91 x92 x93 x94 x95 x96 x97 x98 x99 x100 x101 x102 x103 x104 x105 x106 x107 x108 x109 x110 x111 x112 x113 x114 x115 x116 x117 x118 x119 x120 x121 x122 x123 x124 x125 x126 x127 x128 x129 x130 x131 x132 x133 x134 x135 x136 x137 x138 x139 x140 x141 x142 x143 x144 x145 x146 x147 x148 x149 x150 x151 x152 x153 x154 x155 x156 x157 x158 x159 x160 x161 x162 x163 x164 x165 x166 x167 x168 x169 x170 x171 x172 x173 x174 x175 x176 x177 x178 x179 x180 x181 x182 x183 x184 x185 x186 x187 x188 x189 x190 x191 x192 x193 x194 x195 x196 x197 x198 x199 x200 x201 x202 x203 x204 x205 x206 x207 x208 x209 x210 x211 x212 x213 x214 x215 x216 x217 x218 x219 x220 x221 x222 x223 x224 x225 x226 x227 x228 x229 x230 x231 x232 x233 x234 x235 x236 x237 x238 x239 x240 x241 x242 x243 x244 x245 x246 x247 x248 x249 x250 x251 x252 x253 x254 x255 x256 x257 x258 x259 x260 x261 : Value)
    (kb0 : (d.kind == 0) = false)
    (kb1 : (d.kind == 1) = false)
    (kb2 : (d.kind == 2) = false)
    (kb3 : (d.kind == 3) = true) :
    ∀ (J K' : Act → World → Prop), (∀ a' w', PFO (.int .i64 room) x1 x2 x3 x4 (.pointer (some ⟨p, 0, none⟩)) x6 (.pointer (some ⟨b7, 0, none⟩)) (.pointer (some ⟨b8, 0, none⟩)) (.pointer (some ⟨b9, 0, none⟩)) (.func (.func 40) #[] #[.pointer (some ⟨b7, 0, none⟩), .pointer (some ⟨b8, 0, none⟩), .pointer (some ⟨b9, 0, none⟩)]) x11 (.pointer (some ⟨b12, 0, none⟩)) (.pointer (some ⟨b13, 0, none⟩)) (.pointer (some ⟨b14, 0, none⟩)) (.bool al) x26 x27 x28 x29 x30 x31 x32 x33 x34 x35 x36 x37 x38 x39 x40 x41 x42 x43 x44 x45 x46 x47 x48 x49 x50 x51 x52 x53 x54 x55 x56 x57 x58 x59 x60 x61 (.int .i64 d.kind) x227 x228 x229 x230 x231 x232 x233 x234 x235 x236 x237 x238 x239 x240 x241 x242 x243 x244 x245 x246 x247 x248 x249 x250 x251 x252 x253 x254 x255 x256 x257 x258 x259 x260 x261 w room p b7 b8 b9 r1 r2 k a' w' → J a' w') → (∀ a' w', Met J a' w' → K' a' w') → ∀ Q' : Exit → Act → World → Prop, (∀ c d v a w, Q' (.panic c) (a.put d v) w → Q' (.panic c) a w) →
      Code.wp Try.prog block2o (Exit.then K' Q') ⟨#[.int .i64 room, x1, x2, x3, x4, .pointer (some ⟨p, 0, none⟩), x6, .pointer (some ⟨b7, 0, none⟩), .pointer (some ⟨b8, 0, none⟩), .pointer (some ⟨b9, 0, none⟩), .func (.func 40) #[] #[.pointer (some ⟨b7, 0, none⟩), .pointer (some ⟨b8, 0, none⟩), .pointer (some ⟨b9, 0, none⟩)], x11, .pointer (some ⟨b12, 0, none⟩), .pointer (some ⟨b13, 0, none⟩), .pointer (some ⟨b14, 0, none⟩), .bool al, x16, x17, x18, x19, x20, x21, x22, x23, x24, x25, x26, x27, x28, x29, x30, x31, x32, x33, x34, x35, x36, x37, x38, x39, x40, x41, x42, x43, x44, x45, x46, x47, x48, x49, x50, x51, x52, x53, x54, x55, x56, x57, x58, x59, x60, x61, .int .i64 d.kind, x63, x64, x65, x66, x67, x68, x69, x70, x71, x72, x73, x74, x75, x76, x77, x78, x79, x80, x81, x82, x83, x84, x85, x86, x87, x88, x89, x90, x91, x92, x93, x94, x95, x96, x97, x98, x99, x100, x101, x102, x103, x104, x105, x106, x107, x108, x109, x110, x111, x112, x113, x114, x115, x116, x117, x118, x119, x120, x121, x122, x123, x124, x125, x126, x127, x128, x129, x130, x131, x132, x133, x134, x135, x136, x137, x138, x139, x140, x141, x142, x143, x144, x145, x146, x147, x148, x149, x150, x151, x152, x153, x154, x155, x156, x157, x158, x159, x160, x161, x162, x163, x164, x165, x166, x167, x168, x169, x170, x171, x172, x173, x174, x175, x176, x177, x178, x179, x180, x181, x182, x183, x184, x185, x186, x187, x188, x189, x190, x191, x192, x193, x194, x195, x196, x197, x198, x199, x200, x201, x202, x203, x204, x205, x206, x207, x208, x209, x210, x211, x212, x213, x214, x215, x216, x217, x218, x219, x220, x221, x222, x223, x224, x225, x226, x227, x228, x229, x230, x231, x232, x233, x234, x235, x236, x237, x238, x239, x240, x241, x242, x243, x244, x245, x246, x247, x248, x249, x250, x251, x252, x253, x254, x255, x256, x257, x258, x259, x260, x261], []⟩ w8 := by
  intro J K' hJ hK' Q' hQp
  conv => arg 2; whnf
  have S := HS.out
  clear HS
  unfold ownL at S
  simp only [dCells] at S
  have d14 := S.cell
  have d13 := (S.pull 1).cell
  have d12 := (S.pull 2).cell
  have d7 := (S.pull 4).cell
  have HS := Lib.hid S
  clear S
  go_wp2_with fail
  have ac := drop_c (HS.out.pull 3) HI.out.ok (by omega) y
  unfold DropPost at ac
  cases al with
  | true =>
    obtain ⟨hge, i, hf, hci⟩ := HM.out.yes rfl
    have hg : H.drop y = ((c0, 0), H.freed i) := by unfold AHeap.drop; rw [hf, ← hci]; simp
    have hcl : c0.ws.length ≤ 64 := drop_ws HI.out.ok hg
    have inv := HI.out.drop hf (.bool true)
    rw [hg] at ac
    refine ac.mono ?_
    clear ac hci hf hg
    rintro e w10 ⟨v1, rfl, S⟩
    obtain ⟨a1, cp1, rfl, _⟩ := St.own_form S
    simp only at S ⊢
    -- [v1, heap, b14, b13, b12, b7, b8, b9, mD, mG, words, ent]
    have S := S.allocC #[Value.int .u8 c0.k, .int .i64 c0.n, .slice a1 c0.ws.length cp1] 34
    clear HS d14 d13 d12 d7
    have d18 := S.cell
    have d14 := (S.pull 3).cell
    have HG := Lib.hid hge
    have HIV := Lib.hid inv
    have HS := Lib.hid S
    clear S hge inv
    go_wp2_with fail
    obtain ⟨j, hj, _, _⟩ := getA_get HG.out
    refine (same_c c0 _ _ _ (HS.out.pull 1).own_rd ((HS.out.pull 12).ent_rd hj) (by unfold maxLen; omega)).mono ?_
    clear hj
    rintro e w11 ⟨rfl, hb⟩
    have S := ((HS.out.mono hb).tail.tail.pull 1).tail
    clear HS hb d18 d14
    -- [heap, b13, b12, b7, b8, b9, mD, mG, words, ent]
    have d13 := (S.pull 1).cell
    have d7 := (S.pull 3).cell
    have d8 := (S.pull 4).cell
    obtain ⟨w12, hrun, S2⟩ := (S.pull 6).map_delete word_law Try.underlying58 y
    unfold wv at hrun
    -- [mD', heap, b13, b12, b7, b8, b9, mG, words, ent]
    have HS := Lib.hid S2
    clear S S2
    go_upto_region 38 with fail
    clear hrun d13 d7 d8
    have d13 := (HS.out.pull 2).cell
    have d8 := (HS.out.pull 5).cell
    obtain ⟨w13, hrun, S⟩ := (HS.out.pull 7).map_update word_law Try.underlying59 y (.bool true)
    unfold wv at hrun
    -- [mG', mD', heap, b13, b12, b7, b8, b9, words, ent]
    clear HS
    have HS := Lib.hid S
    clear S
    go_wp2_with fail
    go_meet
    case rel =>
      have S := HS.out
      rw [← hasL_del] at S
      have S := ((S.pull 9).ent_del y)
      -- [ent', mG', mD', heap, b13, b12, b7, b8, b9, words]
      have S := ((S.pull 4).tail.pull 4).tail
      -- [ent', mG', mD', heap, b7, b8, b9, words]
      exact ⟨H.freed i, delA y E, putA y (.bool true) Gs, ws, .slice la ws.length lcap, HIV.out.mono (by omega), by omega, ((((((S.pull 7).pull 2).pull 3).pull 7).pull 7).pull 7).pull 7⟩
  | false =>
    obtain ⟨_, hfn, _, _⟩ := HM.out.no rfl
    obtain ⟨e1, he1, he0⟩ : ∃ e1, H.drop y = ((.zero, e1), H) ∧ (e1 == 0) = false := ⟨(H.find y).1, by unfold AHeap.drop; rw [if_pos hfn], by simpa using hfn⟩
    rw [he1] at ac
    refine ac.mono ?_
    clear ac hfn he1
    rintro e w10 ⟨v1, rfl, S⟩
    obtain ⟨a1, cp1, rfl, _⟩ := St.own_form S
    simp only [ACell.zero] at S ⊢
    have S := S.allocC #[Value.int .u8 0, .int .i64 0, .slice a1 0 cp1] 34
    clear HS d14 d13 d12 d7
    have HS := Lib.hid S
    clear S
    go_wp2_with fail
    go_meet
    case rel =>
      exact ⟨H, E, Gs, ws, .slice la ws.length lcap, HI.out.mono (by omega), by omega, (((((HS.out.tail.tail).pull 1).tail).pull 1).tail.pull 1).tail⟩

set_option maxRecDepth 1000000 in
set_option maxHeartbeats 40000000 in
theorem owned_kind0 (l : List (ADo × Value)) (w w8 : World) (room : Int) (k p b7 b8 b9 r1 r2 b12 b13 b14 : Nat) (d : ADo) (va : Option Addr) (vcap : Nat) (la : Option Addr) (lcap : Nat) (ws : List AWord) (H : AHeap) (E : List AEnt) (Gs : List (AWord × Value)) (y : AWord) (al : Bool) (c0 : ACell) (a0 : Option Addr) (cp0 : Nat)
    (hl400 : l.length ≤ 400) (hlt : k < l.length) (hwl : ws.length ≤ k) (hlen : d.c.ws.length ≤ maxLen) (HI : Hid (OwnInv H room (10 + k) E Gs)) (HM : Hid (Meant H E y al c0 (.slice a0 c0.ws.length cp0)))
    (HE1 : Hid (∀ (w' : World) (L : List HProp), St w w' L → rd w' 4 (.slice va d.c.ws.length vcap) d.c.ws.length (flatW d.c.ws)))
    (HS : Hid (St w w8 (cellsB b14 #[Value.int .u8 c0.k, .int .i64 c0.n, .slice a0 c0.ws.length cp0] 34 :: cellsB b13 #[Value.int .u8 y.k, .int .i64 y.n, .string y.s, .int .i64 y.g] 36 :: cellsB b12 (dCells (d, .slice va d.c.ws.length vcap)).toArray 38 :: heapAt p H :: ownL b7 b8 b9 r1 r2 (.slice la ws.length lcap) E E Gs ws)))
    (x1 x2 x3 x4 x6 x11 x16 x17 x18 x19 x20 x21 x22 x23 x24 x25 x26 x27 x28 x29 x30 x31 x32 x33 x34 x35 x36 x37 x38 x39 x40 x41 x42 x43 x44 x45 x46 x47 x48 x49 x50 x51 x52 x53 x54 x55 x56 x57 x58 x59 x60 x61 x63 x64 x65 x66 x67 x68 x69 x70 x71 x72 x73 x74 x75 x76 x77 x78 x79 x80 x81 x82 x83 x84 x85 x86 x87 x88 x89 x90 x91 x92 x93 x94 x95 x96 x97 x98 x99 x100 x101 x102 x103 x104 x105 x106 x107 x108 x109 x110 x111 x112 x113 x114 x115 x116 x117 x118 x119 x120 x121 x122 x123 x124 x125 x126 x127 x128 x129 x130 x131 x132 x133 x134 x135 x136 x137 x138 x139 x140 x141 x142 x143 x144 x145 x146 x147 x148 x149 x150 x151 x152 x153 x154 x155 x156 x157 x158 x159 x160 x161 x162 x163 x164 x165 x166 x167 x168 x169 x170 x171 x172 x173 x174 x175 x176 x177 x178 x179 x180 x181 x182 x183 x184 x185 x186 x187 x188 x189 x190 x191 x192 x193 x194 x195 x196 x197 x198 x199 x200 x201 x202 x203 x204 x205 x206 x207 x208 x209 x210 x211 x212 x213 x214 x215 x216 x217 x218 x219 x220 x221 x222 x223 x224 x225 x226 x227 x228 x229 x230 x231 x232 x233 x234 x235 x236 x237 x238 x239 x240 x241 x242 x243 x244 x245 x246 x247 x248 x249 x250 x251 x252 x253 x254 x255 x256 x257 x258 x259 x260 x261 : Value)
    (kb0 : (d.kind == 0) = true) :
    ∀ (J K' : Act → World → Prop), (∀ a' w', PFO (.int .i64 room) x1 x2 x3 x4 (.pointer (some ⟨p, 0, none⟩)) x6 (.pointer (some ⟨b7, 0, none⟩)) (.pointer (some ⟨b8, 0, none⟩)) (.pointer (some ⟨b9, 0, none⟩)) (.func (.func 40) #[] #[.pointer (some ⟨b7, 0, none⟩), .pointer (some ⟨b8, 0, none⟩), .pointer (some ⟨b9, 0, none⟩)]) x11 (.pointer (some ⟨b12, 0, none⟩)) (.pointer (some ⟨b13, 0, none⟩)) (.pointer (some ⟨b14, 0, none⟩)) (.bool al) x26 x27 x28 x29 x30 x31 x32 x33 x34 x35 x36 x37 x38 x39 x40 x41 x42 x43 x44 x45 x46 x47 x48 x49 x50 x51 x52 x53 x54 x55 x56 x57 x58 x59 x60 x61 (.int .i64 d.kind) x227 x228 x229 x230 x231 x232 x233 x234 x235 x236 x237 x238 x239 x240 x241 x242 x243 x244 x245 x246 x247 x248 x249 x250 x251 x252 x253 x254 x255 x256 x257 x258 x259 x260 x261 w room p b7 b8 b9 r1 r2 k a' w' → J a' w') → (∀ a' w', Met J a' w' → K' a' w') → ∀ Q' : Exit → Act → World → Prop, (∀ c d v a w, Q' (.panic c) (a.put d v) w → Q' (.panic c) a w) →
      Code.wp Try.prog block2o (Exit.then K' Q') ⟨#[.int .i64 room, x1, x2, x3, x4, .pointer (some ⟨p, 0, none⟩), x6, .pointer (some ⟨b7, 0, none⟩), .pointer (some ⟨b8, 0, none⟩), .pointer (some ⟨b9, 0, none⟩), .func (.func 40) #[] #[.pointer (some ⟨b7, 0, none⟩), .pointer (some ⟨b8, 0, none⟩), .pointer (some ⟨b9, 0, none⟩)], x11, .pointer (some ⟨b12, 0, none⟩), .pointer (some ⟨b13, 0, none⟩), .pointer (some ⟨b14, 0, none⟩), .bool al, x16, x17, x18, x19, x20, x21, x22, x23, x24, x25, x26, x27, x28, x29, x30, x31, x32, x33, x34, x35, x36, x37, x38, x39, x40, x41, x42, x43, x44, x45, x46, x47, x48, x49, x50, x51, x52, x53, x54, x55, x56, x57, x58, x59, x60, x61, .int .i64 d.kind, x63, x64, x65, x66, x67, x68, x69, x70, x71, x72, x73, x74, x75, x76, x77, x78, x79, x80, x81, x82, x83, x84, x85, x86, x87, x88, x89, x90, x91, x92, x93, x94, x95, x96, x97, x98, x99, x100, x101, x102, x103, x104, x105, x106, x107, x108, x109, x110, x111, x112, x113, x114, x115, x116, x117, x118, x119, x120, x121, x122, x123, x124, x125, x126, x127, x128, x129, x130, x131, x132, x133, x134, x135, x136, x137, x138, x139, x140, x141, x142, x143, x144, x145, x146, x147, x148, x149, x150, x151, x152, x153, x154, x155, x156, x157, x158, x159, x160, x161, x162, x163, x164, x165, x166, x167, x168, x169, x170, x171, x172, x173, x174, x175, x176, x177, x178, x179, x180, x181, x182, x183, x184, x185, x186, x187, x188, x189, x190, x191, x192, x193, x194, x195, x196, x197, x198, x199, x200, x201, x202, x203, x204, x205, x206, x207, x208, x209, x210, x211, x212, x213, x214, x215, x216, x217, x218, x219, x220, x221, x222, x223, x224, x225, x226, x227, x228, x229, x230, x231, x232, x233, x234, x235, x236, x237, x238, x239, x240, x241, x242, x243, x244, x245, x246, x247, x248, x249, x250, x251, x252, x253, x254, x255, x256, x257, x258, x259, x260, x261], []⟩ w8 := by
  intro J K' hJ hK' Q' hQp
  conv => arg 2; whnf
  have S := HS.out
  clear HS
  unfold ownL at S
  simp only [dCells] at S
  have d14 := S.cell
  have d13 := (S.pull 1).cell
  have d12 := (S.pull 2).cell
  have d7 := (S.pull 4).cell
  have HS := Lib.hid S
  clear S
  go_wp2_with fail
  have ac := alloc_c (HS.out.pull 3) HI.out.ok d.c (.slice va d.c.ws.length vcap) (fun w' q => HE1.out _ _ q) hlen
  have hEl := HI.out.len
  have hrm := HI.out.room
  cases hok : d.c.ok with
  | false =>
    have hg : H.alloc d.c = ((.zero, 2), H) := by unfold AHeap.alloc; rw [if_pos hok]
    rw [hg] at ac
    have HOK := Lib.hid hok
    refine ac.mono ?_
    clear ac hg hok hEl hrm
    rintro e w10 ⟨rfl, S⟩
    simp only [wv, AWord.zero] at S ⊢
    have S := S.allocC #[Value.int .u8 0, .int .i64 0, .string ⟨#[]⟩, .int .i64 0] 36
    clear HS d14 d13 d12 d7
    have d12 := (S.pull 4).cell
    have d7 := (S.pull 5).cell
    have HS := Lib.hid S
    clear S
    go_wp2_with fail
    refine (may_c d.c (.slice va d.c.ws.length vcap) _ (HE1.out _ _ HS.out) hlen).mono ?_
    rintro e w11 ⟨rfl, hb⟩
    rw [HOK.out]
    have S := HS.out.mono hb
    clear HS hb
    have HS := Lib.hid S
    clear S d12 d7
    go_wp2_with fail
    go_meet
    case rel =>
      exact ⟨H, E, Gs, ws, .slice la ws.length lcap, HI.out.mono (by omega), by omega, (((((HS.out.tail).pull 1).tail).pull 1).tail.pull 1).tail⟩
  | true =>
    have HOK := Lib.hid hok
    by_cases hfull : H.room ≤ H.live
    · have hg : H.alloc d.c = ((.zero, 7), H) := by unfold AHeap.alloc; rw [if_neg (by rw [hok]; decide), if_pos hfull]
      rw [hg] at ac
      have hnl : ¬ ((E.length : Int) < room) := by omega
      refine ac.mono ?_
      clear ac hg hok hEl hrm hfull
      rintro e w10 ⟨rfl, S⟩
      simp only [wv, AWord.zero] at S ⊢
      have S := S.allocC #[Value.int .u8 0, .int .i64 0, .string ⟨#[]⟩, .int .i64 0] 36
      clear HS d14 d13 d12 d7
      have d12 := (S.pull 4).cell
      have d7 := (S.pull 5).cell
      have HS := Lib.hid S
      clear S
      go_wp2_with fail
      refine (may_c d.c (.slice va d.c.ws.length vcap) _ (HE1.out _ _ HS.out) hlen).mono ?_
      rintro e w11 ⟨rfl, hb⟩
      rw [HOK.out]
      have S := HS.out.mono hb
      clear HS hb
      clear d12 d7
      have d7 := (S.pull 5).cell
      have hln := (S.pull 8).map_len_run Try.underlying58
      rw [has_len] at hln
      have HS := Lib.hid S
      clear S
      go_wp2_with fail
      go_meet
      case rel =>
        exact ⟨H, E, Gs, ws, .slice la ws.length lcap, HI.out.mono (by omega), by omega, (((((HS.out.tail).pull 1).tail).pull 1).tail.pull 1).tail⟩
    · have hg : H.alloc d.c = (((H.give d.c).1, 0), (H.give d.c).2) := by unfold AHeap.alloc; rw [if_neg (by rw [hok]; decide), if_neg hfull]
      obtain ⟨n1, n2, inv⟩ := HI.out.alloc (by omega) hok (by omega)
      rw [hg] at ac
      have hnl : (E.length : Int) < room := by omega
      refine ac.mono ?_
      clear ac hg hok hEl hrm hfull
      rintro e w10 ⟨rfl, S⟩
      have HN := Lib.hid (And.intro n1 (And.intro n2 inv))
      clear n1 n2 inv
      generalize (H.give d.c).1 = x at *
      generalize (H.give d.c).2 = H5 at *
      simp only [wv] at S ⊢
      have S := S.allocC #[Value.int .u8 x.k, .int .i64 x.n, .string x.s, .int .i64 x.g] 36
      clear HS d14 d13 d12 d7
      have d12 := (S.pull 4).cell
      have d7 := (S.pull 5).cell
      have HS := Lib.hid S
      clear S
      go_wp2_with fail
      refine (may_c d.c (.slice va d.c.ws.length vcap) _ (HE1.out _ _ HS.out) hlen).mono ?_
      rintro e w11 ⟨rfl, hb⟩
      rw [HOK.out]
      have S := HS.out.mono hb
      clear HS hb
      clear d12 d7
      have d16 := S.cell
      have d12 := (S.pull 4).cell
      have d7 := (S.pull 5).cell
      have hln := (S.pull 8).map_len_run Try.underlying58
      rw [has_len] at hln
      have HS := Lib.hid S
      clear S
      go_wp2_with fail
      have S := ((((HS.out.push 11).push 11).push 11).push 11).push 11
      refine (put_c (L := [_, _, _, _, _]) S x d.c (.slice va d.c.ws.length vcap) HN.out.1 HN.out.2.1 (by omega) (by have := ACell.ok_len HOK.out; omega) (fun w' q => HE1.out _ _ q)).mono ?_
      clear S HS d16 d12 d7 hln
      rintro e w12 ⟨rfl, lv', v', S⟩
      have HS := Lib.hid S
      clear S
      go_wp2_with fail
      go_meet
      case rel =>
        exact ⟨H5, E ++ [(x, (d.c, v'))], Gs, ws ++ [x], lv', (HN.out.2.2 v').mono (by omega), by simp; omega, (HS.out.pull 8).take 8⟩

set_option maxRecDepth 1000000 in
set_option maxHeartbeats 40000000 in
theorem owned_kind4 (l : List (ADo × Value)) (w w8 : World) (room : Int) (k p b7 b8 b9 r1 r2 b12 b13 b14 : Nat) (d : ADo) (va : Option Addr) (vcap : Nat) (la : Option Addr) (lcap : Nat) (ws : List AWord) (H : AHeap) (E : List AEnt) (Gs : List (AWord × Value)) (y : AWord) (al : Bool) (c0 : ACell) (a0 : Option Addr) (cp0 : Nat)
    (hl400 : l.length ≤ 400) (hlt : k < l.length) (hwl : ws.length ≤ k) (hlen : d.c.ws.length ≤ maxLen) (HI : Hid (OwnInv H room (10 + k) E Gs)) (HM : Hid (Meant H E y al c0 (.slice a0 c0.ws.length cp0)))
    (HE1 : Hid (∀ (w' : World) (L : List HProp), St w w' L → rd w' 4 (.slice va d.c.ws.length vcap) d.c.ws.length (flatW d.c.ws)))
    (HS : Hid (St w w8 (cellsB b14 #[Value.int .u8 c0.k, .int .i64 c0.n, .slice a0 c0.ws.length cp0] 34 :: cellsB b13 #[Value.int .u8 y.k, .int .i64 y.n, .string y.s, .int .i64 y.g] 36 :: cellsB b12 (dCells (d, .slice va d.c.ws.length vcap)).toArray 38 :: heapAt p H :: ownL b7 b8 b9 r1 r2 (.slice la ws.length lcap) E E Gs ws)))
    (x1 x2 x3 x4 x6 x11 x16 x17 x18 x19 x20 x21 x22 x23 x24 x25 x26 x27 x28 x29 x30 x31 x32 x33 x34 x35 x36 x37 x38 x39 x40 x41 x42 x43 x44 x45 x46 x47 x48 x49 x50 x51 x52 x53 x54 x55 x56 x57 x58 x59 x60 x61 x63 x64 x65 x66 x67 x68 x69 x70 x71 x72 x73 x74 x75 x76 x77 x78 x79 x80 x81 x82 x83 x84 x85 x86 x87 x88 x89 x90 x91 x92 x93 x94 x95 x96 x97 x98 x99 x100 x101 x102 x103 x104 x105 x106 x107 x108 x109 x110 x111 x112 x113 x114 x115 x116 x117 x118 x119 x120 x121 x122 x123 x124 x125 x126 x127 x128 x129 x130 x131 x132 x133 x134 x135 x136 x137 x138 x139 x140 x141 x142 x143 x144 x145 x146 x147 x148 x149 x150 x151 x152 x153 x154 x155 x156 x157 x158 x159 x160 x161 x162 x163 x164 x165 x166 x167 x168 x169 x170 x171 x172 x173 x174 x175 x176 x177 x178 x179 x180 x181 x182 x183 x184 x185 x186 x187 x188 x189 x190 x191 x192 x193 x194 x195 x196 x197 x198 x199 x200 x201 x202 x203 x204 x205 x206 x207 x208 x209 x210 x211 x212 x213 x214 x215 x216 x217 x218 x219 x220 x221 x222 x223 x224 x225 x226 x227 x228 x229 x230 x231 x232 x233 x234 x235 x236 x237 x238 x239 x240 x241 x242 x243 x244 x245 x246 x247 x248 x249 x250 x251 x252 x253 x254 x255 x256 x257 x258 x259 x260 x261 : Value)
    (kb0 : (d.kind == 0) = false)
    (kb1 : (d.kind == 1) = false)
    (kb2 : (d.kind == 2) = false)
    (kb3 : (d.kind == 3) = false)
    (kb4 : (d.kind == 4) = true) :
    ∀ (J K' : Act → World → Prop), (∀ a' w', PFO (.int .i64 room) x1 x2 x3 x4 (.pointer (some ⟨p, 0, none⟩)) x6 (.pointer (some ⟨b7, 0, none⟩)) (.pointer (some ⟨b8, 0, none⟩)) (.pointer (some ⟨b9, 0, none⟩)) (.func (.func 40) #[] #[.pointer (some ⟨b7, 0, none⟩), .pointer (some ⟨b8, 0, none⟩), .pointer (some ⟨b9, 0, none⟩)]) x11 (.pointer (some ⟨b12, 0, none⟩)) (.pointer (some ⟨b13, 0, none⟩)) (.pointer (some ⟨b14, 0, none⟩)) (.bool al) x26 x27 x28 x29 x30 x31 x32 x33 x34 x35 x36 x37 x38 x39 x40 x41 x42 x43 x44 x45 x46 x47 x48 x49 x50 x51 x52 x53 x54 x55 x56 x57 x58 x59 x60 x61 (.int .i64 d.kind) x227 x228 x229 x230 x231 x232 x233 x234 x235 x236 x237 x238 x239 x240 x241 x242 x243 x244 x245 x246 x247 x248 x249 x250 x251 x252 x253 x254 x255 x256 x257 x258 x259 x260 x261 w room p b7 b8 b9 r1 r2 k a' w' → J a' w') → (∀ a' w', Met J a' w' → K' a' w') → ∀ Q' : Exit → Act → World → Prop, (∀ c d v a w, Q' (.panic c) (a.put d v) w → Q' (.panic c) a w) →
      Code.wp Try.prog block2o (Exit.then K' Q') ⟨#[.int .i64 room, x1, x2, x3, x4, .pointer (some ⟨p, 0, none⟩), x6, .pointer (some ⟨b7, 0, none⟩), .pointer (some ⟨b8, 0, none⟩), .pointer (some ⟨b9, 0, none⟩), .func (.func 40) #[] #[.pointer (some ⟨b7, 0, none⟩), .pointer (some ⟨b8, 0, none⟩), .pointer (some ⟨b9, 0, none⟩)], x11, .pointer (some ⟨b12, 0, none⟩), .pointer (some ⟨b13, 0, none⟩), .pointer (some ⟨b14, 0, none⟩), .bool al, x16, x17, x18, x19, x20, x21, x22, x23, x24, x25, x26, x27, x28, x29, x30, x31, x32, x33, x34, x35, x36, x37, x38, x39, x40, x41, x42, x43, x44, x45, x46, x47, x48, x49, x50, x51, x52, x53, x54, x55, x56, x57, x58, x59, x60, x61, .int .i64 d.kind, x63, x64, x65, x66, x67, x68, x69, x70, x71, x72, x73, x74, x75, x76, x77, x78, x79, x80, x81, x82, x83, x84, x85, x86, x87, x88, x89, x90, x91, x92, x93, x94, x95, x96, x97, x98, x99, x100, x101, x102, x103, x104, x105, x106, x107, x108, x109, x110, x111, x112, x113, x114, x115, x116, x117, x118, x119, x120, x121, x122, x123, x124, x125, x126, x127, x128, x129, x130, x131, x132, x133, x134, x135, x136, x137, x138, x139, x140, x141, x142, x143, x144, x145, x146, x147, x148, x149, x150, x151, x152, x153, x154, x155, x156, x157, x158, x159, x160, x161, x162, x163, x164, x165, x166, x167, x168, x169, x170, x171, x172, x173, x174, x175, x176, x177, x178, x179, x180, x181, x182, x183, x184, x185, x186, x187, x188, x189, x190, x191, x192, x193, x194, x195, x196, x197, x198, x199, x200, x201, x202, x203, x204, x205, x206, x207, x208, x209, x210, x211, x212, x213, x214, x215, x216, x217, x218, x219, x220, x221, x222, x223, x224, x225, x226, x227, x228, x229, x230, x231, x232, x233, x234, x235, x236, x237, x238, x239, x240, x241, x242, x243, x244, x245, x246, x247, x248, x249, x250, x251, x252, x253, x254, x255, x256, x257, x258, x259, x260, x261], []⟩ w8 := by
  intro J K' hJ hK' Q' hQp
  conv => arg 2; whnf
  have S := HS.out
  clear HS
  unfold ownL at S
  simp only [dCells] at S
  have d14 := S.cell
  have d13 := (S.pull 1).cell
  have d12 := (S.pull 2).cell
  have d7 := (S.pull 4).cell
  have HS := Lib.hid S
  clear S
  go_wp2_with fail
  have ac := renew_c (HS.out.pull 3) HI.out.ok (by omega) y d.c (.slice va d.c.ws.length vcap) (fun w' q => HE1.out _ _ q) hlen
  cases al with
  | false =>
    obtain ⟨_, hfn, _, _⟩ := HM.out.no rfl
    obtain ⟨e1, he1, he0⟩ : ∃ e1, H.renew y d.c = ((.zero, e1), H) ∧ (e1 == 0) = false := ⟨(H.find y).1, by unfold AHeap.renew; rw [if_pos hfn], by simpa using hfn⟩
    rw [he1] at ac
    refine ac.mono ?_
    clear ac hfn he1
    rintro e w10 ⟨rfl, S⟩
    simp only [wv, AWord.zero] at S ⊢
    have S := S.allocC #[Value.int .u8 0, .int .i64 0, .string ⟨#[]⟩, .int .i64 0] 36
    clear HS d14 d13 d12 d7
    have HS := Lib.hid S
    clear S
    go_wp2_with fail
    go_meet
    case rel =>
      exact ⟨H, E, Gs, ws, .slice la ws.length lcap, HI.out.mono (by omega), by omega, (((((HS.out.tail).pull 1).tail).pull 1).tail.pull 1).tail⟩
  | true =>
    obtain ⟨hge, i, hf, hci⟩ := HM.out.yes rfl
    cases hok : d.c.ok with
    | false =>
      have hg : H.renew y d.c = ((.zero, 2), H) := by unfold AHeap.renew; rw [hf]; simp [hok]
      rw [hg] at ac
      have HOK := Lib.hid hok
      refine ac.mono ?_
      clear ac hg hok hge hf hci
      rintro e w10 ⟨rfl, S⟩
      simp only [wv, AWord.zero] at S ⊢
      have S := S.allocC #[Value.int .u8 0, .int .i64 0, .string ⟨#[]⟩, .int .i64 0] 36
      clear HS d14 d13 d12 d7
      have d12 := (S.pull 4).cell
      have d7 := (S.pull 5).cell
      have HS := Lib.hid S
      clear S
      go_wp2_with fail
      refine (may_c d.c (.slice va d.c.ws.length vcap) _ (HE1.out _ _ HS.out) hlen).mono ?_
      rintro e w11 ⟨rfl, hb⟩
      rw [HOK.out]
      have S := HS.out.mono hb
      clear HS hb
      have HS := Lib.hid S
      clear S d12 d7
      go_wp2_with fail
      go_meet
      case rel =>
        exact ⟨H, E, Gs, ws, .slice la ws.length lcap, HI.out.mono (by omega), by omega, (((((HS.out.tail).pull 1).tail).pull 1).tail.pull 1).tail⟩
    | true =>
      have HOK := Lib.hid hok
      have hg : H.renew y d.c = ((cellWord y.n (y.g + 1), 0), H.renewed i d.c) := by unfold AHeap.renew; rw [hf]; simp [hok]
      obtain ⟨n1, n2, inv⟩ := HI.out.renew hf hok (.bool true)
      rw [hg] at ac
      refine ac.mono ?_
      clear ac hg hok hge hf hci
      rintro e w10 ⟨rfl, S⟩
      have HN := Lib.hid (And.intro n1 (And.intro n2 inv))
      clear n1 n2 inv
      have hxn : ((cellWord y.n (y.g + 1)).n != y.n) = false := by simp [cellWord]
      have HXN := Lib.hid hxn
      clear hxn
      generalize cellWord y.n (y.g + 1) = x at *
      generalize H.renewed i d.c = H5 at *
      simp only [wv] at S ⊢
      have S := S.allocC #[Value.int .u8 x.k, .int .i64 x.n, .string x.s, .int .i64 x.g] 36
      clear HS d14 d13 d12 d7
      have d12 := (S.pull 4).cell
      have HS := Lib.hid S
      clear S
      go_wp2_with fail
      refine (may_c d.c (.slice va d.c.ws.length vcap) _ (HE1.out _ _ HS.out) hlen).mono ?_
      rintro e w11 ⟨rfl, hb⟩
      rw [HOK.out]
      have S := HS.out.mono hb
      clear HS hb
      clear d12
      -- [b24, heap, b14, b13, b12, b7, b8, b9, mD, mG, words, ent]
      have d13 := (S.pull 3).cell
      have d7 := (S.pull 5).cell
      obtain ⟨w12, hrun, S2⟩ := (S.pull 8).map_delete word_law Try.underlying58 y
      unfold wv at hrun
      have HS := Lib.hid S2
      clear S S2
      go_upto_region 45 with fail
      clear hrun d13 d7
      -- [mD', b24, heap, b14, b13, b12, b7, b8, b9, mG, words, ent]
      have d13 := (HS.out.pull 4).cell
      have d8 := (HS.out.pull 7).cell
      obtain ⟨w13, hrun, S⟩ := (HS.out.pull 9).map_update word_law Try.underlying59 y (.bool true)
      unfold wv at hrun
      clear HS
      have HS := Lib.hid S
      clear S
      go_upto_region 46 with fail
      clear hrun d13 d8
      -- [mG', mD', b24, heap, b14, b13, b12, b7, b8, b9, words, ent]
      have hxn := HXN.out
      have d24 := (HS.out.pull 2).cell
      have d13 := (HS.out.pull 5).cell
      have d12 := (HS.out.pull 6).cell
      go_wp2_with fail
      have S := HS.out
      rw [← hasL_del] at S
      have S := (S.pull 11).ent_del y
      -- [ent', mG', mD', b24, heap, b14, b13, b12, b7, b8, b9, words]
      have S := (((((((((((S.pull 7).pull 7).pull 7).pull 7).pull 7).pull 5).pull 11).pull 7).pull 8).pull 11).pull 11).pull 11
      refine (put_c (L := [_, _, _, _, _]) S x d.c (.slice va d.c.ws.length vcap) HN.out.1 HN.out.2.1 (by omega) (by have := ACell.ok_len HOK.out; omega) (fun w' q => HE1.out _ _ q)).mono ?_
      clear S HS d24 d12 d13
      rintro e w12 ⟨rfl, lv', v', S⟩
      have HS := Lib.hid S
      clear S
      go_wp2_with fail
      go_meet
      case rel =>
        exact ⟨H5, delA y E ++ [(x, (d.c, v'))], putA y (.bool true) Gs, ws ++ [x], lv', (HN.out.2.2 v').mono (by omega), by simp; omega, (HS.out.pull 8).take 8⟩

set_option maxRecDepth 1000000 in
set_option maxHeartbeats 40000000 in
theorem owned_kind2 (l : List (ADo × Value)) (w w8 : World) (room : Int) (k p b7 b8 b9 r1 r2 b12 b13 b14 : Nat) (d : ADo) (va : Option Addr) (vcap : Nat) (la : Option Addr) (lcap : Nat) (ws : List AWord) (H : AHeap) (E : List AEnt) (Gs : List (AWord × Value)) (y : AWord) (al : Bool) (c0 : ACell) (a0 : Option Addr) (cp0 : Nat)
    (hl400 : l.length ≤ 400) (hlt : k < l.length) (hwl : ws.length ≤ k) (hlen : d.c.ws.length ≤ maxLen) (HI : Hid (OwnInv H room (10 + k) E Gs)) (HM : Hid (Meant H E y al c0 (.slice a0 c0.ws.length cp0)))
    (HE1 : Hid (∀ (w' : World) (L : List HProp), St w w' L → rd w' 4 (.slice va d.c.ws.length vcap) d.c.ws.length (flatW d.c.ws)))
    (HS : Hid (St w w8 (cellsB b14 #[Value.int .u8 c0.k, .int .i64 c0.n, .slice a0 c0.ws.length cp0] 34 :: cellsB b13 #[Value.int .u8 y.k, .int .i64 y.n, .string y.s, .int .i64 y.g] 36 :: cellsB b12 (dCells (d, .slice va d.c.ws.length vcap)).toArray 38 :: heapAt p H :: ownL b7 b8 b9 r1 r2 (.slice la ws.length lcap) E E Gs ws)))
    (x1 x2 x3 x4 x6 x11 x16 x17 x18 x19 x20 x21 x22 x23 x24 x25 x26 x27 x28 x29 x30 x31 x32 x33 x34 x35 x36 x37 x38 x39 x40 x41 x42 x43 x44 x45 x46 x47 x48 x49 x50 x51 x52 x53 x54 x55 x56 x57 x58 x59 x60 x61 x63 x64 x65 x66 x67 x68 x69 x70 x71 x72 x73 x74 x75 x76 x77 x78 x79 x80 x81 x82 x83 x84 x85 x86 x87 x88 x89 x90 x91 x92 x93 x94 x95 x96 x97 x98 x99 x100 x101 x102 x103 x104 x105 x106 x107 x108 x109 x110 x111 x112 x113 x114 x115 x116 x117 x118 x119 x120 x121 x122 x123 x124 x125 x126 x127 x128 x129 x130 x131 x132 x133 x134 x135 x136 x137 x138 x139 x140 x141 x142 x143 x144 x145 x146 x147 x148 x149 x150 x151 x152 x153 x154 x155 x156 x157 x158 x159 x160 x161 x162 x163 x164 x165 x166 x167 x168 x169 x170 x171 x172 x173 x174 x175 x176 x177 x178 x179 x180 x181 x182 x183 x184 x185 x186 x187 x188 x189 x190 x191 x192 x193 x194 x195 x196 x197 x198 x199 x200 x201 x202 x203 x204 x205 x206 x207 x208 x209 x210 x211 x212 x213 x214 x215 x216 x217 x218 x219 x220 x221 x222 x223 x224 x225 x226 x227 x228 x229 x230 x231 x232 x233 x234 x235 x236 x237 x238 x239 x240 x241 x242 x243 x244 x245 x246 x247 x248 x249 x250 x251 x252 x253 x254 x255 x256 x257 x258 x259 x260 x261 : Value)
    (kb0 : (d.kind == 0) = false)
    (kb1 : (d.kind == 1) = false)
    (kb2 : (d.kind == 2) = true) :
    ∀ (J K' : Act → World → Prop), (∀ a' w', PFO (.int .i64 room) x1 x2 x3 x4 (.pointer (some ⟨p, 0, none⟩)) x6 (.pointer (some ⟨b7, 0, none⟩)) (.pointer (some ⟨b8, 0, none⟩)) (.pointer (some ⟨b9, 0, none⟩)) (.func (.func 40) #[] #[.pointer (some ⟨b7, 0, none⟩), .pointer (some ⟨b8, 0, none⟩), .pointer (some ⟨b9, 0, none⟩)]) x11 (.pointer (some ⟨b12, 0, none⟩)) (.pointer (some ⟨b13, 0, none⟩)) (.pointer (some ⟨b14, 0, none⟩)) (.bool al) x26 x27 x28 x29 x30 x31 x32 x33 x34 x35 x36 x37 x38 x39 x40 x41 x42 x43 x44 x45 x46 x47 x48 x49 x50 x51 x52 x53 x54 x55 x56 x57 x58 x59 x60 x61 (.int .i64 d.kind) x227 x228 x229 x230 x231 x232 x233 x234 x235 x236 x237 x238 x239 x240 x241 x242 x243 x244 x245 x246 x247 x248 x249 x250 x251 x252 x253 x254 x255 x256 x257 x258 x259 x260 x261 w room p b7 b8 b9 r1 r2 k a' w' → J a' w') → (∀ a' w', Met J a' w' → K' a' w') → ∀ Q' : Exit → Act → World → Prop, (∀ c d v a w, Q' (.panic c) (a.put d v) w → Q' (.panic c) a w) →
      Code.wp Try.prog block2o (Exit.then K' Q') ⟨#[.int .i64 room, x1, x2, x3, x4, .pointer (some ⟨p, 0, none⟩), x6, .pointer (some ⟨b7, 0, none⟩), .pointer (some ⟨b8, 0, none⟩), .pointer (some ⟨b9, 0, none⟩), .func (.func 40) #[] #[.pointer (some ⟨b7, 0, none⟩), .pointer (some ⟨b8, 0, none⟩), .pointer (some ⟨b9, 0, none⟩)], x11, .pointer (some ⟨b12, 0, none⟩), .pointer (some ⟨b13, 0, none⟩), .pointer (some ⟨b14, 0, none⟩), .bool al, x16, x17, x18, x19, x20, x21, x22, x23, x24, x25, x26, x27, x28, x29, x30, x31, x32, x33, x34, x35, x36, x37, x38, x39, x40, x41, x42, x43, x44, x45, x46, x47, x48, x49, x50, x51, x52, x53, x54, x55, x56, x57, x58, x59, x60, x61, .int .i64 d.kind, x63, x64, x65, x66, x67, x68, x69, x70, x71, x72, x73, x74, x75, x76, x77, x78, x79, x80, x81, x82, x83, x84, x85, x86, x87, x88, x89, x90, x91, x92, x93, x94, x95, x96, x97, x98, x99, x100, x101, x102, x103, x104, x105, x106, x107, x108, x109, x110, x111, x112, x113, x114, x115, x116, x117, x118, x119, x120, x121, x122, x123, x124, x125, x126, x127, x128, x129, x130, x131, x132, x133, x134, x135, x136, x137, x138, x139, x140, x141, x142, x143, x144, x145, x146, x147, x148, x149, x150, x151, x152, x153, x154, x155, x156, x157, x158, x159, x160, x161, x162, x163, x164, x165, x166, x167, x168, x169, x170, x171, x172, x173, x174, x175, x176, x177, x178, x179, x180, x181, x182, x183, x184, x185, x186, x187, x188, x189, x190, x191, x192, x193, x194, x195, x196, x197, x198, x199, x200, x201, x202, x203, x204, x205, x206, x207, x208, x209, x210, x211, x212, x213, x214, x215, x216, x217, x218, x219, x220, x221, x222, x223, x224, x225, x226, x227, x228, x229, x230, x231, x232, x233, x234, x235, x236, x237, x238, x239, x240, x241, x242, x243, x244, x245, x246, x247, x248, x249, x250, x251, x252, x253, x254, x255, x256, x257, x258, x259, x260, x261], []⟩ w8 := by
  intro J K' hJ hK' Q' hQp
  conv => arg 2; whnf
  have S := HS.out
  clear HS
  unfold ownL at S
  simp only [dCells] at S
  have d14 := S.cell
  have d13 := (S.pull 1).cell
  have d12 := (S.pull 2).cell
  have d7 := (S.pull 4).cell
  have HS := Lib.hid S
  clear S
  obtain ⟨kind, dn, di, dc, dx, dw, raw⟩ := d
  simp only at *
  go_wp2_with fail
  have ac := set_c (HS.out.pull 3) HI.out.ok y di dx
  cases al with
  | false =>
    obtain ⟨_, hfn, _, _⟩ := HM.out.no rfl
    obtain ⟨e1, he1, he0⟩ : ∃ e1, H.set y di dx = ((.zero, e1), H) ∧ (e1 == 0) = false := ⟨(H.find y).1, by unfold AHeap.set; rw [if_pos hfn], by simpa using hfn⟩
    rw [he1] at ac
    clear hfn he1
    refine ac.mono ?_
    clear ac
    rintro e w10 ⟨rfl, S⟩
    simp only [wv, AWord.zero] at S ⊢
    have S := S.allocC #[Value.int .u8 0, .int .i64 0, .string ⟨#[]⟩, .int .i64 0] 36
    clear HS d14 d13 d12 d7
    have HS := Lib.hid S
    clear S
    go_wp2_with fail
    go_meet
    case rel =>
      exact ⟨H, E, Gs, ws, .slice la ws.length lcap, HI.out.mono (by omega), by omega, (((((HS.out.tail).pull 1).tail).pull 1).tail.pull 1).tail⟩
  | true =>
    obtain ⟨hge, i, hf, hci⟩ := HM.out.yes rfl
    have hset : H.set y di dx = if di < 0 ∨ (c0.ws.length : Int) ≤ di then ((.zero, 5), H) else if dx.ok = false then ((.zero, 2), H) else ((c0.ws.getD di.toNat .zero, 0), { H with slots := H.slots.set i { H.slot i with c := (H.slot i).c.put di.toNat dx } }) := by
      unfold AHeap.set; rw [hf]; simp [← hci]
    by_cases hr : di < 0 ∨ (c0.ws.length : Int) ≤ di
    · rw [if_pos hr] at hset
      rw [hset] at ac
      clear hset hge hf hci hr
      refine ac.mono ?_
      clear ac
      rintro e w10 ⟨rfl, S⟩
      simp only [wv, AWord.zero] at S ⊢
      have S := S.allocC #[Value.int .u8 0, .int .i64 0, .string ⟨#[]⟩, .int .i64 0] 36
      clear HS d14 d13 d12 d7
      have HS := Lib.hid S
      clear S
      go_wp2_with fail
      go_meet
      case rel =>
        exact ⟨H, E, Gs, ws, .slice la ws.length lcap, HI.out.mono (by omega), by omega, (((((HS.out.tail).pull 1).tail).pull 1).tail.pull 1).tail⟩
    · rw [if_neg hr] at hset
      simp only [not_or, Int.not_lt, Int.not_le] at hr
      obtain ⟨hi0, hi1⟩ := hr
      cases hok : dx.ok with
      | false =>
        rw [hok, if_pos rfl] at hset
        rw [hset] at ac
        clear hset hge hf hci hok
        refine ac.mono ?_
        clear ac
        rintro e w10 ⟨rfl, S⟩
        simp only [wv, AWord.zero] at S ⊢
        have S := S.allocC #[Value.int .u8 0, .int .i64 0, .string ⟨#[]⟩, .int .i64 0] 36
        clear HS d14 d13 d12 d7
        have HS := Lib.hid S
        clear S
        go_wp2_with fail
        go_meet
        case rel =>
          exact ⟨H, E, Gs, ws, .slice la ws.length lcap, HI.out.mono (by omega), by omega, (((((HS.out.tail).pull 1).tail).pull 1).tail.pull 1).tail⟩
      | true =>
        rw [hok, if_neg (by decide)] at hset
        rw [hset] at ac
        obtain ⟨n, rfl⟩ := Int.eq_ofNat_of_zero_le hi0
        have hn : n < c0.ws.length := by omega
        obtain ⟨z, hz⟩ : ∃ z, c0.ws[n]? = some z := ⟨_, List.getElem?_eq_getElem hn⟩
        have hzz : c0.ws.getD (n : Int).toNat .zero = z := by simp [List.getD, hz]
        rw [hzz] at ac
        have inv := HI.out.set hf n dx (.slice a0 c0.ws.length cp0)
        rw [hci] at inv
        simp only [Int.toNat_natCast] at ac
        rw [hci] at ac
        obtain ⟨j, hj, _, hjp⟩ := getA_get hge
        rw [hjp] at inv
        refine ac.mono ?_
        clear ac hset hge hf hci hok hzz hjp
        rintro e w10 ⟨rfl, S⟩
        have HIV := Lib.hid inv
        clear inv
        generalize ({ H with slots := H.slots.set i { H.slot i with c := c0.put n dx } } : AHeap) = H5 at *
        simp only [wv] at S ⊢
        have S := S.allocC #[Value.int .u8 z.k, .int .i64 z.n, .string z.s, .int .i64 z.g] 36
        -- [b20, heap, b14, b13, b12, b7, b8, b9, mD, mG, words, ent]
        have ht := (S.pull 11).ent_take hj
        obtain ⟨hl, hc⟩ := St.own_cases ht
        obtain ⟨bw, wcap, wr, e0, k1, k2, k3, t⟩ := hc.resolve_left (fun q => by have := q.2.1; simp only at this; omega)
        simp only at e0 k1 k3 hl t
        injection e0 with e1 e2 e3
        subst e1 e3
        obtain ⟨f0, f1, f2, f3⟩ := rd_word (St.own_rd ht) hz
        simp only [Nat.zero_add] at f0 f1 f2 f3
        clear HS d14 d13 d12 d7
        -- [bw, erase, b20, heap, b14, b13, b12, b7, b8, b9, mD, mG, words]
        have d20 := (t.pull 2).cell
        have d14 := (t.pull 4).cell
        have d12 := (t.pull 6).cell
        have HT := Lib.hid t
        have HK2 := Lib.hid (And.intro hl (And.intro k1 (And.intro k2 (And.intro k3 (And.intro hj hz)))))
        clear S ht hc t hl k1 k2 k3 hj hz
        go_upto_region 29 with fail
        go_quiet (fail)
        have S := HT.out.drewN nq
        generalize World.drewN _ nq = w11 at S ⊢
        clear HT d20 d14 d12 f0 f1 f2 f3
        have HS := Lib.hid S
        clear S
        go_upto_region 31 with fail
        have d14 := (HS.out.pull 4).cell
        have d12 := (HS.out.pull 6).cell
        have fw := HS.out.free
        obtain ⟨f0, f1, f2, f3⟩ := rd_word (St.own_rd (HS.out.own_mk HK2.out.1 HK2.out.2.1 HK2.out.2.2.1 HK2.out.2.2.2.1)) HK2.out.2.2.2.2.2
        simp only [Nat.zero_add] at f0 f1 f2 f3
        go_wp2_with fail
        go_meet
        case rel =>
          have S := (((HS.out.set (n * 4) (.int .u8 dx.k)).set (n * 4 + 1) (.int .i64 dx.n)).set (n * 4 + 2) (.string dx.s)).set (n * 4 + 3) (.int .i64 dx.g)
          simp only [List.setIfInBounds_toArray] at S
          rw [flat_set4 dx wr c0.ws n hn] at S
          have hw : (flatW (c0.ws.set n dx)).length = c0.ws.length * 4 := by rw [flatW_len, List.length_set]
          have T4 := S.own_mk (n := c0.ws.length) (cap := cp0) (sz := 4) hw HK2.out.2.1 HK2.out.2.2.1 (by rw [hw]; have := HK2.out.2.2.2.1; rw [HK2.out.1] at this; exact this)
          have hlen2 : (c0.put n dx).ws.length = c0.ws.length := by simp [ACell.put]
          have hjl : j < E.length := (List.getElem?_eq_some_iff.1 HK2.out.2.2.2.2.1).1
          have T5 := St.ent_set (E := E) (i := j) (x := y) (c := c0.put n dx) (v := .slice (some ⟨bw, 0, none⟩) c0.ws.length cp0) (w := _) (W0 := w) (L := _) (by
            show St w _ (ownS 36 4 _ (c0.put n dx).ws.length _ :: _)
            rw [hlen2]; exact T4) hjl
          have hh : hasL (E.set j (y, (c0.put n dx, Value.slice (some ⟨bw, 0, none⟩) c0.ws.length cp0))) = hasL E := map_set_same HK2.out.2.2.2.2.1 rfl
          rw [← hh] at T5
          -- [ent', b20, heap, b14, b13, b12, b7, b8, b9, mD, mG, words]
          have T6 := (((((T5.pull 1).tail.pull 2).tail.pull 2).tail).pull 2).tail
          -- [ent', heap, b7, b8, b9, mD, mG, words]
          exact ⟨H5, _, Gs, ws, .slice la ws.length lcap, HIV.out.mono (by omega), by omega, T6.push 7⟩

set_option maxRecDepth 1000000 in
theorem owned_switch (l : List (ADo × Value)) (w w8 : World) (room : Int) (k p b7 b8 b9 r1 r2 b12 b13 b14 : Nat) (d : ADo) (va : Option Addr) (vcap : Nat) (la : Option Addr) (lcap : Nat) (ws : List AWord) (H : AHeap) (E : List AEnt) (Gs : List (AWord × Value)) (y : AWord) (al : Bool) (c0 : ACell) (a0 : Option Addr) (cp0 : Nat)
    (hl400 : l.length ≤ 400) (hlt : k < l.length) (hwl : ws.length ≤ k) (hlen : d.c.ws.length ≤ maxLen) (HI : Hid (OwnInv H room (10 + k) E Gs)) (HM : Hid (Meant H E y al c0 (.slice a0 c0.ws.length cp0)))
    (HE1 : Hid (∀ (w' : World) (L : List HProp), St w w' L → rd w' 4 (.slice va d.c.ws.length vcap) d.c.ws.length (flatW d.c.ws)))
    (HS : Hid (St w w8 (cellsB b14 #[Value.int .u8 c0.k, .int .i64 c0.n, .slice a0 c0.ws.length cp0] 34 :: cellsB b13 #[Value.int .u8 y.k, .int .i64 y.n, .string y.s, .int .i64 y.g] 36 :: cellsB b12 (dCells (d, .slice va d.c.ws.length vcap)).toArray 38 :: heapAt p H :: ownL b7 b8 b9 r1 r2 (.slice la ws.length lcap) E E Gs ws)))
    (x1 x2 x3 x4 x6 x11 x16 x17 x18 x19 x20 x21 x22 x23 x24 x25 x26 x27 x28 x29 x30 x31 x32 x33 x34 x35 x36 x37 x38 x39 x40 x41 x42 x43 x44 x45 x46 x47 x48 x49 x50 x51 x52 x53 x54 x55 x56 x57 x58 x59 x60 x61 x63 x64 x65 x66 x67 x68 x69 x70 x71 x72 x73 x74 x75 x76 x77 x78 x79 x80 x81 x82 x83 x84 x85 x86 x87 x88 x89 x90 x91 x92 x93 x94 x95 x96 x97 x98 x99 x100 x101 x102 x103 x104 x105 x106 x107 x108 x109 x110 x111 x112 x113 x114 x115 x116 x117 x118 x119 x120 x121 x122 x123 x124 x125 x126 x127 x128 x129 x130 x131 x132 x133 x134 x135 x136 x137 x138 x139 x140 x141 x142 x143 x144 x145 x146 x147 x148 x149 x150 x151 x152 x153 x154 x155 x156 x157 x158 x159 x160 x161 x162 x163 x164 x165 x166 x167 x168 x169 x170 x171 x172 x173 x174 x175 x176 x177 x178 x179 x180 x181 x182 x183 x184 x185 x186 x187 x188 x189 x190 x191 x192 x193 x194 x195 x196 x197 x198 x199 x200 x201 x202 x203 x204 x205 x206 x207 x208 x209 x210 x211 x212 x213 x214 x215 x216 x217 x218 x219 x220 x221 x222 x223 x224 x225 x226 x227 x228 x229 x230 x231 x232 x233 x234 x235 x236 x237 x238 x239 x240 x241 x242 x243 x244 x245 x246 x247 x248 x249 x250 x251 x252 x253 x254 x255 x256 x257 x258 x259 x260 x261 : Value) :
    ∀ (J K' : Act → World → Prop), (∀ a' w', PFO (.int .i64 room) x1 x2 x3 x4 (.pointer (some ⟨p, 0, none⟩)) x6 (.pointer (some ⟨b7, 0, none⟩)) (.pointer (some ⟨b8, 0, none⟩)) (.pointer (some ⟨b9, 0, none⟩)) (.func (.func 40) #[] #[.pointer (some ⟨b7, 0, none⟩), .pointer (some ⟨b8, 0, none⟩), .pointer (some ⟨b9, 0, none⟩)]) x11 (.pointer (some ⟨b12, 0, none⟩)) (.pointer (some ⟨b13, 0, none⟩)) (.pointer (some ⟨b14, 0, none⟩)) (.bool al) x26 x27 x28 x29 x30 x31 x32 x33 x34 x35 x36 x37 x38 x39 x40 x41 x42 x43 x44 x45 x46 x47 x48 x49 x50 x51 x52 x53 x54 x55 x56 x57 x58 x59 x60 x61 (.int .i64 d.kind) x227 x228 x229 x230 x231 x232 x233 x234 x235 x236 x237 x238 x239 x240 x241 x242 x243 x244 x245 x246 x247 x248 x249 x250 x251 x252 x253 x254 x255 x256 x257 x258 x259 x260 x261 w room p b7 b8 b9 r1 r2 k a' w' → J a' w') → (∀ a' w', Met J a' w' → K' a' w') → ∀ Q' : Exit → Act → World → Prop, (∀ c d v a w, Q' (.panic c) (a.put d v) w → Q' (.panic c) a w) →
      Code.wp Try.prog block2o (Exit.then K' Q') ⟨#[.int .i64 room, x1, x2, x3, x4, .pointer (some ⟨p, 0, none⟩), x6, .pointer (some ⟨b7, 0, none⟩), .pointer (some ⟨b8, 0, none⟩), .pointer (some ⟨b9, 0, none⟩), .func (.func 40) #[] #[.pointer (some ⟨b7, 0, none⟩), .pointer (some ⟨b8, 0, none⟩), .pointer (some ⟨b9, 0, none⟩)], x11, .pointer (some ⟨b12, 0, none⟩), .pointer (some ⟨b13, 0, none⟩), .pointer (some ⟨b14, 0, none⟩), .bool al, x16, x17, x18, x19, x20, x21, x22, x23, x24, x25, x26, x27, x28, x29, x30, x31, x32, x33, x34, x35, x36, x37, x38, x39, x40, x41, x42, x43, x44, x45, x46, x47, x48, x49, x50, x51, x52, x53, x54, x55, x56, x57, x58, x59, x60, x61, .int .i64 d.kind, x63, x64, x65, x66, x67, x68, x69, x70, x71, x72, x73, x74, x75, x76, x77, x78, x79, x80, x81, x82, x83, x84, x85, x86, x87, x88, x89, x90, x91, x92, x93, x94, x95, x96, x97, x98, x99, x100, x101, x102, x103, x104, x105, x106, x107, x108, x109, x110, x111, x112, x113, x114, x115, x116, x117, x118, x119, x120, x121, x122, x123, x124, x125, x126, x127, x128, x129, x130, x131, x132, x133, x134, x135, x136, x137, x138, x139, x140, x141, x142, x143, x144, x145, x146, x147, x148, x149, x150, x151, x152, x153, x154, x155, x156, x157, x158, x159, x160, x161, x162, x163, x164, x165, x166, x167, x168, x169, x170, x171, x172, x173, x174, x175, x176, x177, x178, x179, x180, x181, x182, x183, x184, x185, x186, x187, x188, x189, x190, x191, x192, x193, x194, x195, x196, x197, x198, x199, x200, x201, x202, x203, x204, x205, x206, x207, x208, x209, x210, x211, x212, x213, x214, x215, x216, x217, x218, x219, x220, x221, x222, x223, x224, x225, x226, x227, x228, x229, x230, x231, x232, x233, x234, x235, x236, x237, x238, x239, x240, x241, x242, x243, x244, x245, x246, x247, x248, x249, x250, x251, x252, x253, x254, x255, x256, x257, x258, x259, x260, x261], []⟩ w8 := by
  by_cases k0 : d.kind = 0
  · exact owned_kind0 l w w8 room k p b7 b8 b9 r1 r2 b12 b13 b14 d va vcap la lcap ws H E Gs y al c0 a0 cp0 hl400 hlt hwl hlen HI HM HE1 HS x1 x2 x3 x4 x6 x11 x16 x17 x18 x19 x20 x21 x22 x23 x24 x25 x26 x27 x28 x29 x30 x31 x32 x33 x34 x35 x36 x37 x38 x39 x40 x41 x42 x43 x44 x45 x46 x47 x48 x49 x50 x51 x52 x53 x54 x55 x56 x57 x58 x59 x60 x61 x63 x64 x65 x66 x67 x68 x69 x70 x71 x72 x73 x74 x75 x76 x77 x78 x79 x80 x81 x82 x83 x84 x85 x86 x87 x88 x89 x90 x91 x92 x93 x94 x95 x96 x97 x98 x99 x100 x101 x102 x103 x104 x105 x106 x107 x108 x109 x110 x111 x112 x113 x114 x115 x116 x117 x118 x119 x120 x121 x122 x123 x124 x125 x126 x127 x128 x129 x130 x131 x132 x133 x134 x135 x136 x137 x138 x139 x140 x141 x142 x143 x144 x145 x146 x147 x148 x149 x150 x151 x152 x153 x154 x155 x156 x157 x158 x159 x160 x161 x162 x163 x164 x165 x166 x167 x168 x169 x170 x171 x172 x173 x174 x175 x176 x177 x178 x179 x180 x181 x182 x183 x184 x185 x186 x187 x188 x189 x190 x191 x192 x193 x194 x195 x196 x197 x198 x199 x200 x201 x202 x203 x204 x205 x206 x207 x208 x209 x210 x211 x212 x213 x214 x215 x216 x217 x218 x219 x220 x221 x222 x223 x224 x225 x226 x227 x228 x229 x230 x231 x232 x233 x234 x235 x236 x237 x238 x239 x240 x241 x242 x243 x244 x245 x246 x247 x248 x249 x250 x251 x252 x253 x254 x255 x256 x257 x258 x259 x260 x261 (by simp [k0])
  · by_cases k1 : d.kind = 1
    · exact owned_kind1 l w w8 room k p b7 b8 b9 r1 r2 b12 b13 b14 d va vcap la lcap ws H E Gs y al c0 a0 cp0 hl400 hlt hwl hlen HI HM HE1 HS x1 x2 x3 x4 x6 x11 x16 x17 x18 x19 x20 x21 x22 x23 x24 x25 x26 x27 x28 x29 x30 x31 x32 x33 x34 x35 x36 x37 x38 x39 x40 x41 x42 x43 x44 x45 x46 x47 x48 x49 x50 x51 x52 x53 x54 x55 x56 x57 x58 x59 x60 x61 x63 x64 x65 x66 x67 x68 x69 x70 x71 x72 x73 x74 x75 x76 x77 x78 x79 x80 x81 x82 x83 x84 x85 x86 x87 x88 x89 x90 x91 x92 x93 x94 x95 x96 x97 x98 x99 x100 x101 x102 x103 x104 x105 x106 x107 x108 x109 x110 x111 x112 x113 x114 x115 x116 x117 x118 x119 x120 x121 x122 x123 x124 x125 x126 x127 x128 x129 x130 x131 x132 x133 x134 x135 x136 x137 x138 x139 x140 x141 x142 x143 x144 x145 x146 x147 x148 x149 x150 x151 x152 x153 x154 x155 x156 x157 x158 x159 x160 x161 x162 x163 x164 x165 x166 x167 x168 x169 x170 x171 x172 x173 x174 x175 x176 x177 x178 x179 x180 x181 x182 x183 x184 x185 x186 x187 x188 x189 x190 x191 x192 x193 x194 x195 x196 x197 x198 x199 x200 x201 x202 x203 x204 x205 x206 x207 x208 x209 x210 x211 x212 x213 x214 x215 x216 x217 x218 x219 x220 x221 x222 x223 x224 x225 x226 x227 x228 x229 x230 x231 x232 x233 x234 x235 x236 x237 x238 x239 x240 x241 x242 x243 x244 x245 x246 x247 x248 x249 x250 x251 x252 x253 x254 x255 x256 x257 x258 x259 x260 x261 (by simp [k1]) (by simp [k1])
    · by_cases k2 : d.kind = 2
      · exact owned_kind2 l w w8 room k p b7 b8 b9 r1 r2 b12 b13 b14 d va vcap la lcap ws H E Gs y al c0 a0 cp0 hl400 hlt hwl hlen HI HM HE1 HS x1 x2 x3 x4 x6 x11 x16 x17 x18 x19 x20 x21 x22 x23 x24 x25 x26 x27 x28 x29 x30 x31 x32 x33 x34 x35 x36 x37 x38 x39 x40 x41 x42 x43 x44 x45 x46 x47 x48 x49 x50 x51 x52 x53 x54 x55 x56 x57 x58 x59 x60 x61 x63 x64 x65 x66 x67 x68 x69 x70 x71 x72 x73 x74 x75 x76 x77 x78 x79 x80 x81 x82 x83 x84 x85 x86 x87 x88 x89 x90 x91 x92 x93 x94 x95 x96 x97 x98 x99 x100 x101 x102 x103 x104 x105 x106 x107 x108 x109 x110 x111 x112 x113 x114 x115 x116 x117 x118 x119 x120 x121 x122 x123 x124 x125 x126 x127 x128 x129 x130 x131 x132 x133 x134 x135 x136 x137 x138 x139 x140 x141 x142 x143 x144 x145 x146 x147 x148 x149 x150 x151 x152 x153 x154 x155 x156 x157 x158 x159 x160 x161 x162 x163 x164 x165 x166 x167 x168 x169 x170 x171 x172 x173 x174 x175 x176 x177 x178 x179 x180 x181 x182 x183 x184 x185 x186 x187 x188 x189 x190 x191 x192 x193 x194 x195 x196 x197 x198 x199 x200 x201 x202 x203 x204 x205 x206 x207 x208 x209 x210 x211 x212 x213 x214 x215 x216 x217 x218 x219 x220 x221 x222 x223 x224 x225 x226 x227 x228 x229 x230 x231 x232 x233 x234 x235 x236 x237 x238 x239 x240 x241 x242 x243 x244 x245 x246 x247 x248 x249 x250 x251 x252 x253 x254 x255 x256 x257 x258 x259 x260 x261 (by simp [k2]) (by simp [k2]) (by simp [k2])
      · by_cases k3 : d.kind = 3
        · exact owned_kind3 l w w8 room k p b7 b8 b9 r1 r2 b12 b13 b14 d va vcap la lcap ws H E Gs y al c0 a0 cp0 hl400 hlt hwl hlen HI HM HE1 HS x1 x2 x3 x4 x6 x11 x16 x17 x18 x19 x20 x21 x22 x23 x24 x25 x26 x27 x28 x29 x30 x31 x32 x33 x34 x35 x36 x37 x38 x39 x40 x41 x42 x43 x44 x45 x46 x47 x48 x49 x50 x51 x52 x53 x54 x55 x56 x57 x58 x59 x60 x61 x63 x64 x65 x66 x67 x68 x69 x70 x71 x72 x73 x74 x75 x76 x77 x78 x79 x80 x81 x82 x83 x84 x85 x86 x87 x88 x89 x90 x91 x92 x93 x94 x95 x96 x97 x98 x99 x100 x101 x102 x103 x104 x105 x106 x107 x108 x109 x110 x111 x112 x113 x114 x115 x116 x117 x118 x119 x120 x121 x122 x123 x124 x125 x126 x127 x128 x129 x130 x131 x132 x133 x134 x135 x136 x137 x138 x139 x140 x141 x142 x143 x144 x145 x146 x147 x148 x149 x150 x151 x152 x153 x154 x155 x156 x157 x158 x159 x160 x161 x162 x163 x164 x165 x166 x167 x168 x169 x170 x171 x172 x173 x174 x175 x176 x177 x178 x179 x180 x181 x182 x183 x184 x185 x186 x187 x188 x189 x190 x191 x192 x193 x194 x195 x196 x197 x198 x199 x200 x201 x202 x203 x204 x205 x206 x207 x208 x209 x210 x211 x212 x213 x214 x215 x216 x217 x218 x219 x220 x221 x222 x223 x224 x225 x226 x227 x228 x229 x230 x231 x232 x233 x234 x235 x236 x237 x238 x239 x240 x241 x242 x243 x244 x245 x246 x247 x248 x249 x250 x251 x252 x253 x254 x255 x256 x257 x258 x259 x260 x261 (by simp [k3]) (by simp [k3]) (by simp [k3]) (by simp [k3])
        · by_cases k4 : d.kind = 4
          · exact owned_kind4 l w w8 room k p b7 b8 b9 r1 r2 b12 b13 b14 d va vcap la lcap ws H E Gs y al c0 a0 cp0 hl400 hlt hwl hlen HI HM HE1 HS x1 x2 x3 x4 x6 x11 x16 x17 x18 x19 x20 x21 x22 x23 x24 x25 x26 x27 x28 x29 x30 x31 x32 x33 x34 x35 x36 x37 x38 x39 x40 x41 x42 x43 x44 x45 x46 x47 x48 x49 x50 x51 x52 x53 x54 x55 x56 x57 x58 x59 x60 x61 x63 x64 x65 x66 x67 x68 x69 x70 x71 x72 x73 x74 x75 x76 x77 x78 x79 x80 x81 x82 x83 x84 x85 x86 x87 x88 x89 x90 x91 x92 x93 x94 x95 x96 x97 x98 x99 x100 x101 x102 x103 x104 x105 x106 x107 x108 x109 x110 x111 x112 x113 x114 x115 x116 x117 x118 x119 x120 x121 x122 x123 x124 x125 x126 x127 x128 x129 x130 x131 x132 x133 x134 x135 x136 x137 x138 x139 x140 x141 x142 x143 x144 x145 x146 x147 x148 x149 x150 x151 x152 x153 x154 x155 x156 x157 x158 x159 x160 x161 x162 x163 x164 x165 x166 x167 x168 x169 x170 x171 x172 x173 x174 x175 x176 x177 x178 x179 x180 x181 x182 x183 x184 x185 x186 x187 x188 x189 x190 x191 x192 x193 x194 x195 x196 x197 x198 x199 x200 x201 x202 x203 x204 x205 x206 x207 x208 x209 x210 x211 x212 x213 x214 x215 x216 x217 x218 x219 x220 x221 x222 x223 x224 x225 x226 x227 x228 x229 x230 x231 x232 x233 x234 x235 x236 x237 x238 x239 x240 x241 x242 x243 x244 x245 x246 x247 x248 x249 x250 x251 x252 x253 x254 x255 x256 x257 x258 x259 x260 x261 (by simp [k4]) (by simp [k4]) (by simp [k4]) (by simp [k4]) (by simp [k4])
          · exact owned_other l w w8 room k p b7 b8 b9 r1 r2 b12 b13 b14 d va vcap la lcap ws H E Gs y al c0 a0 cp0 hl400 hlt hwl hlen HI HM HE1 HS x1 x2 x3 x4 x6 x11 x16 x17 x18 x19 x20 x21 x22 x23 x24 x25 x26 x27 x28 x29 x30 x31 x32 x33 x34 x35 x36 x37 x38 x39 x40 x41 x42 x43 x44 x45 x46 x47 x48 x49 x50 x51 x52 x53 x54 x55 x56 x57 x58 x59 x60 x61 x63 x64 x65 x66 x67 x68 x69 x70 x71 x72 x73 x74 x75 x76 x77 x78 x79 x80 x81 x82 x83 x84 x85 x86 x87 x88 x89 x90 x91 x92 x93 x94 x95 x96 x97 x98 x99 x100 x101 x102 x103 x104 x105 x106 x107 x108 x109 x110 x111 x112 x113 x114 x115 x116 x117 x118 x119 x120 x121 x122 x123 x124 x125 x126 x127 x128 x129 x130 x131 x132 x133 x134 x135 x136 x137 x138 x139 x140 x141 x142 x143 x144 x145 x146 x147 x148 x149 x150 x151 x152 x153 x154 x155 x156 x157 x158 x159 x160 x161 x162 x163 x164 x165 x166 x167 x168 x169 x170 x171 x172 x173 x174 x175 x176 x177 x178 x179 x180 x181 x182 x183 x184 x185 x186 x187 x188 x189 x190 x191 x192 x193 x194 x195 x196 x197 x198 x199 x200 x201 x202 x203 x204 x205 x206 x207 x208 x209 x210 x211 x212 x213 x214 x215 x216 x217 x218 x219 x220 x221 x222 x223 x224 x225 x226 x227 x228 x229 x230 x231 x232 x233 x234 x235 x236 x237 x238 x239 x240 x241 x242 x243 x244 x245 x246 x247 x248 x249 x250 x251 x252 x253 x254 x255 x256 x257 x258 x259 x260 x261 (by simp [k0]) (by simp [k1]) (by simp [k2]) (by simp [k3]) (by simp [k4])

end Go.Proofs.Ytciciaikajdenaa

