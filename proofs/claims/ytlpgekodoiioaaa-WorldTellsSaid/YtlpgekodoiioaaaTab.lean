/- The tables of this seat's types. Printed by program. -/
import Derived.Test.YtlpgekodoiioaaaRows
import Derived.Test.YtlpgekodoiioaaaAb
import Derived.KernelRfl
set_option linter.unusedVariables false
namespace Go.Proofs.Ytlpgekodoiioaaa
open Go.RowKit

def tab : Tab where
  ty := [(2, 1, 8, false), (3, 1, 8, false), (4, 1, 1, false), (5, 1, 1, false), (6, 1, 1, false), (7, 4, 24, true),
    (8, 4, 24, true), (9, 1, 16, false), (10, 1, 16, false), (11, 1, 16, false), (12, 1, 8, false), (13, 2, 24, true),
    (14, 2, 24, true), (15, 1, 8, false), (16, 1, 8, false), (17, 1, 8, false), (18, 1, 8, true), (19, 1, 8, true),
    (21, 1, 4, false), (22, 1, 24, false), (23, 1, 24, false), (24, 1, 24, false), (28, 1, 8, false), (29, 1, 8, false),
    (32, 1, 8, false), (35, 3, 32, true), (36, 3, 32, true), (47, 1, 24, false), (58, 1, 24, false), (61, 2, 32, true),
    (62, 2, 32, true), (63, 1, 24, false), (65, 1, 8, false), (66, 1, 24, false), (67, 5, 56, true), (68, 5, 56, true),
    (76, 1, 24, false), (77, 4, 96, true), (78, 4, 96, true), (79, 1, 24, false), (80, 5, 104, true), (81, 5, 104, true),
    (83, 2, 16, true), (84, 2, 16, true), (85, 3, 24, true), (86, 3, 24, true), (89, 1, 8, false), (91, 1, 8, false),
    (94, 1, 8, false), (95, 2, 16, true), (96, 2, 16, true), (103, 1, 8, false), (104, 1, 4, false), (108, 4, 40, true),
    (109, 4, 40, true), (114, 1, 1, false), (115, 1, 1, false), (117, 1, 8, false), (118, 1, 4, false), (119, 1, 4, false)]
  fld := [(7, 0, 0), (7, 1, 1), (7, 2, 2), (7, 3, 3), (8, 0, 0), (8, 1, 1),
    (8, 2, 2), (8, 3, 3), (13, 0, 0), (13, 1, 1), (14, 0, 0), (14, 1, 1),
    (18, 0, 0), (19, 0, 0), (35, 0, 0), (35, 1, 1), (35, 2, 2), (36, 0, 0),
    (36, 1, 1), (36, 2, 2), (61, 0, 0), (61, 1, 1), (62, 0, 0), (62, 1, 1),
    (67, 0, 0), (67, 1, 1), (67, 2, 2), (67, 3, 3), (67, 4, 4), (68, 0, 0),
    (68, 1, 1), (68, 2, 2), (68, 3, 3), (68, 4, 4), (77, 0, 0), (77, 1, 1),
    (77, 2, 2), (77, 3, 3), (78, 0, 0), (78, 1, 1), (78, 2, 2), (78, 3, 3),
    (80, 0, 0), (80, 1, 1), (80, 2, 2), (80, 3, 3), (80, 4, 4), (81, 0, 0),
    (81, 1, 1), (81, 2, 2), (81, 3, 3), (81, 4, 4), (83, 0, 0), (83, 1, 1),
    (84, 0, 0), (84, 1, 1), (85, 0, 0), (85, 1, 2), (86, 0, 0), (86, 1, 2),
    (95, 0, 0), (95, 1, 1), (96, 0, 0), (96, 1, 1), (108, 0, 0), (108, 1, 1),
    (108, 2, 2), (108, 3, 3), (109, 0, 0), (109, 1, 1), (109, 2, 2), (109, 3, 3)]
  sl := [(22, 62), (23, 4), (24, 36), (47, 68), (58, 3), (63, 5),
    (66, 9), (76, 86), (79, 96)]

def tabZ : TabZ where
  zs := [(2, [.int .i64 0]), (3, [.int .i64 0]), (4, [.bool false]), (5, [.int .u8 0]), (6, [.int .u8 0]), (7, [.int .i64 0, .int .i64 0, .bool false, .int .u8 0]),
    (8, [.int .i64 0, .int .i64 0, .bool false, .int .u8 0]), (9, [.string ⟨#[]⟩]), (10, [.string ⟨#[]⟩]), (11, [.string ⟨#[]⟩]), (12, [.int .u64 0]), (13, [.string ⟨#[]⟩, .int .u64 0]),
    (14, [.string ⟨#[]⟩, .int .u64 0]), (15, [.pointer none]), (16, [.pointer none]), (17, [.pointer none]), (18, [.pointer none]), (19, [.pointer none]),
    (21, [.int .i32 0]), (22, [.slice none 0 0]), (23, [.slice none 0 0]), (24, [.slice none 0 0]), (28, [.pointer none]), (29, [.int .i64 0]),
    (32, [.pointer none]), (35, [.int .i64 0, .int .i64 0, .string ⟨#[]⟩]), (36, [.int .i64 0, .int .i64 0, .string ⟨#[]⟩]), (47, [.slice none 0 0]), (58, [.slice none 0 0]), (61, [.string ⟨#[]⟩, .string ⟨#[]⟩]),
    (62, [.string ⟨#[]⟩, .string ⟨#[]⟩]), (63, [.slice none 0 0]), (65, [.map none]), (66, [.slice none 0 0]), (67, [.int .u8 0, .int .i64 0, .string ⟨#[]⟩, .string ⟨#[]⟩, .bool false]), (68, [.int .u8 0, .int .i64 0, .string ⟨#[]⟩, .string ⟨#[]⟩, .bool false]),
    (76, [.slice none 0 0]), (77, [.slice none 0 0, .slice none 0 0, .slice none 0 0, .slice none 0 0]), (78, [.slice none 0 0, .slice none 0 0, .slice none 0 0, .slice none 0 0]), (79, [.slice none 0 0]), (80, [.slice none 0 0, .slice none 0 0, .int .i64 0, .slice none 0 0, .slice none 0 0]), (81, [.slice none 0 0, .slice none 0 0, .int .i64 0, .slice none 0 0, .slice none 0 0]),
    (83, [.int .i64 0, .int .i64 0]), (84, [.int .i64 0, .int .i64 0]), (85, [.int .i64 0, .int .i64 0, .bool false]), (86, [.int .i64 0, .int .i64 0, .bool false]), (89, [.pointer none]), (91, [.pointer none]),
    (94, [.pointer none]), (95, [.int .i64 0, .int .i64 0]), (96, [.int .i64 0, .int .i64 0]), (103, [.int .u64 0]), (104, [.int .u32 0]), (108, [.pointer none, .pointer none, .pointer none, .string ⟨#[]⟩]),
    (109, [.pointer none, .pointer none, .pointer none, .string ⟨#[]⟩]), (114, [.int .u8 0]), (115, [.int .u8 0]), (117, [.pointer none]), (118, [.int .i32 0]), (119, [.int .i32 0])]
  st := [(7, [(0, 1), (1, 1), (2, 1), (3, 1)], [.int .i64 0, .int .i64 0, .bool false, .int .u8 0]), (8, [(0, 1), (1, 1), (2, 1), (3, 1)], [.int .i64 0, .int .i64 0, .bool false, .int .u8 0]), (13, [(0, 1), (1, 1)], [.string ⟨#[]⟩, .int .u64 0]), (14, [(0, 1), (1, 1)], [.string ⟨#[]⟩, .int .u64 0]), (18, [(0, 1)], [.pointer none]), (19, [(0, 1)], [.pointer none]),
    (35, [(0, 1), (1, 1), (2, 1)], [.int .i64 0, .int .i64 0, .string ⟨#[]⟩]), (36, [(0, 1), (1, 1), (2, 1)], [.int .i64 0, .int .i64 0, .string ⟨#[]⟩]), (61, [(0, 1), (1, 1)], [.string ⟨#[]⟩, .string ⟨#[]⟩]), (62, [(0, 1), (1, 1)], [.string ⟨#[]⟩, .string ⟨#[]⟩]), (67, [(0, 1), (1, 1), (2, 1), (3, 1), (4, 1)], [.int .u8 0, .int .i64 0, .string ⟨#[]⟩, .string ⟨#[]⟩, .bool false]), (68, [(0, 1), (1, 1), (2, 1), (3, 1), (4, 1)], [.int .u8 0, .int .i64 0, .string ⟨#[]⟩, .string ⟨#[]⟩, .bool false]),
    (77, [(0, 1), (1, 1), (2, 1), (3, 1)], [.slice none 0 0, .slice none 0 0, .slice none 0 0, .slice none 0 0]), (78, [(0, 1), (1, 1), (2, 1), (3, 1)], [.slice none 0 0, .slice none 0 0, .slice none 0 0, .slice none 0 0]), (80, [(0, 1), (1, 1), (2, 1), (3, 1), (4, 1)], [.slice none 0 0, .slice none 0 0, .int .i64 0, .slice none 0 0, .slice none 0 0]), (81, [(0, 1), (1, 1), (2, 1), (3, 1), (4, 1)], [.slice none 0 0, .slice none 0 0, .int .i64 0, .slice none 0 0, .slice none 0 0]), (83, [(0, 1), (1, 1)], [.int .i64 0, .int .i64 0]), (84, [(0, 1), (1, 1)], [.int .i64 0, .int .i64 0]),
    (85, [(0, 2), (2, 1)], [.int .i64 0, .int .i64 0, .bool false]), (86, [(0, 2), (2, 1)], [.int .i64 0, .int .i64 0, .bool false]), (95, [(0, 1), (1, 1)], [.int .i64 0, .int .i64 0]), (96, [(0, 1), (1, 1)], [.int .i64 0, .int .i64 0]), (108, [(0, 1), (1, 1), (2, 1), (3, 1)], [.pointer none, .pointer none, .pointer none, .string ⟨#[]⟩]), (109, [(0, 1), (1, 1), (2, 1), (3, 1)], [.pointer none, .pointer none, .pointer none, .string ⟨#[]⟩])]

set_option maxRecDepth 100000 in
theorem tab_ok : okTab Try.prog tab = true := by kernel_rfl
set_option maxRecDepth 100000 in
theorem tabZ_ok : okTabZ Try.prog tabZ = true := by kernel_rfl
theorem bool_ok : Try.prog.underlying 4 = some .bool := by kernel_rfl
theorem str_ok : Try.prog.underlying 9 = some .string := by kernel_rfl
theorem mixed_ok : Try.prog.follows .mixedOrders = true := by kernel_rfl
end Go.Proofs.Ytlpgekodoiioaaa
