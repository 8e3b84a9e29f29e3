/- The tables of this seat's types. Printed by program. -/
import Derived.Test.YtciciaikajdenaaRows
import Derived.Test.YtciciaikajdenaaAb
import Derived.KernelRfl
set_option linter.unusedVariables false
namespace Go.Proofs.Ytciciaikajdenaa
open Go.RowKit

def tab : Tab where
  ty := [(2, 1, 8, false), (3, 1, 8, false), (4, 1, 1, false), (5, 1, 1, false), (6, 1, 1, false), (7, 4, 24, true),
    (8, 4, 24, true), (9, 1, 16, false), (10, 1, 16, false), (11, 1, 16, false), (12, 1, 8, false), (13, 2, 24, true),
    (14, 2, 24, true), (15, 1, 8, false), (16, 1, 8, false), (17, 1, 8, false), (18, 1, 8, true), (19, 1, 8, true),
    (21, 1, 4, false), (22, 1, 24, false), (25, 1, 8, false), (26, 1, 8, false), (29, 1, 8, false), (32, 1, 24, false),
    (33, 3, 40, true), (34, 3, 40, true), (35, 4, 40, true), (36, 4, 40, true), (37, 15, 152, true), (38, 15, 152, true),
    (51, 1, 24, false), (52, 1, 24, false), (53, 4, 64, true), (54, 4, 64, true), (58, 1, 8, false), (59, 1, 8, false),
    (64, 1, 24, false), (65, 4, 56, true), (66, 4, 56, true), (68, 1, 8, false), (81, 1, 24, false), (83, 14, 160, true),
    (84, 14, 160, true), (86, 1, 24, false), (91, 1, 24, false), (93, 1, 8, false), (107, 1, 24, false), (108, 4, 64, true),
    (109, 4, 64, true), (113, 5, 56, true), (114, 5, 56, true), (116, 1, 8, false), (117, 3, 40, true), (118, 3, 40, true),
    (122, 1, 8, false), (123, 5, 56, true), (124, 5, 56, true), (128, 1, 24, false), (129, 2, 32, true), (130, 2, 32, true),
    (135, 1, 24, false), (136, 4, 96, true), (137, 4, 96, true), (139, 1, 8, false), (143, 1, 8, false), (144, 3, 24, true),
    (145, 3, 24, true), (153, 5, 56, true), (154, 5, 56, true), (155, 1, 24, false), (156, 5, 104, true), (157, 5, 104, true),
    (160, 1, 24, false), (166, 1, 8, false), (168, 2, 16, true), (169, 2, 16, true), (170, 3, 24, true), (171, 3, 24, true),
    (172, 2, 16, true), (173, 2, 16, true), (179, 1, 8, true), (180, 1, 8, true), (185, 0, 0, true), (184, 1, 24, false), (187, 1, 8, false),
    (191, 4, 40, true), (192, 4, 40, true), (196, 1, 4, false), (197, 1, 1, false), (198, 1, 1, false), (200, 1, 8, false),
    (201, 1, 4, false), (202, 1, 4, false)]
  fld := [(7, 0, 0), (7, 1, 1), (7, 2, 2), (7, 3, 3), (8, 0, 0), (8, 1, 1),
    (8, 2, 2), (8, 3, 3), (13, 0, 0), (13, 1, 1), (14, 0, 0), (14, 1, 1),
    (18, 0, 0), (19, 0, 0), (33, 0, 0), (33, 1, 1), (33, 2, 2), (34, 0, 0),
    (34, 1, 1), (34, 2, 2), (35, 0, 0), (35, 1, 1), (35, 2, 2), (35, 3, 3),
    (36, 0, 0), (36, 1, 1), (36, 2, 2), (36, 3, 3), (37, 0, 0), (37, 1, 1),
    (37, 2, 2), (37, 3, 3), (37, 4, 6), (37, 5, 10), (37, 6, 14), (38, 0, 0),
    (38, 1, 1), (38, 2, 2), (38, 3, 3), (38, 4, 6), (38, 5, 10), (38, 6, 14),
    (53, 0, 0), (53, 1, 1), (53, 2, 2), (53, 3, 3), (54, 0, 0), (54, 1, 1),
    (54, 2, 2), (54, 3, 3), (65, 0, 0), (65, 1, 1), (65, 2, 2), (65, 3, 3),
    (66, 0, 0), (66, 1, 1), (66, 2, 2), (66, 3, 3), (83, 0, 0), (83, 1, 1),
    (83, 2, 2), (83, 3, 5), (83, 4, 9), (83, 5, 13), (84, 0, 0), (84, 1, 1),
    (84, 2, 2), (84, 3, 5), (84, 4, 9), (84, 5, 13), (108, 0, 0), (108, 1, 1),
    (108, 2, 2), (108, 3, 3), (109, 0, 0), (109, 1, 1), (109, 2, 2), (109, 3, 3),
    (113, 0, 0), (113, 1, 3), (113, 2, 4), (114, 0, 0), (114, 1, 3), (114, 2, 4),
    (117, 0, 0), (118, 0, 0), (123, 0, 0), (123, 1, 3), (123, 2, 4), (124, 0, 0),
    (124, 1, 3), (124, 2, 4), (129, 0, 0), (129, 1, 1), (130, 0, 0), (130, 1, 1),
    (136, 0, 0), (136, 1, 1), (136, 2, 2), (136, 3, 3), (137, 0, 0), (137, 1, 1),
    (137, 2, 2), (137, 3, 3), (144, 0, 0), (144, 1, 1), (144, 2, 2), (145, 0, 0),
    (145, 1, 1), (145, 2, 2), (153, 0, 0), (153, 1, 1), (153, 2, 2), (153, 3, 3),
    (153, 4, 4), (154, 0, 0), (154, 1, 1), (154, 2, 2), (154, 3, 3), (154, 4, 4),
    (156, 0, 0), (156, 1, 1), (156, 2, 2), (156, 3, 3), (156, 4, 4), (157, 0, 0),
    (157, 1, 1), (157, 2, 2), (157, 3, 3), (157, 4, 4), (168, 0, 0), (168, 1, 1),
    (169, 0, 0), (169, 1, 1), (170, 0, 0), (170, 1, 2), (171, 0, 0), (171, 1, 2),
    (172, 0, 0), (172, 1, 1), (173, 0, 0), (173, 1, 1), (179, 0, 0), (180, 0, 0),
    (191, 0, 0), (191, 1, 1), (191, 2, 2), (191, 3, 3), (192, 0, 0), (192, 1, 1),
    (192, 2, 2), (192, 3, 3)]
  sl := [(22, 38), (32, 36), (51, 114), (52, 3), (64, 66), (81, 84),
    (86, 154), (91, 130), (107, 124), (128, 4), (135, 171), (155, 173),
    (160, 2), (184, 5)]

def tabZ : TabZ where
  zs := [(2, [.int .i64 0]), (3, [.int .i64 0]), (4, [.bool false]), (5, [.int .u8 0]), (6, [.int .u8 0]), (7, [.int .i64 0, .int .i64 0, .bool false, .int .u8 0]),
    (8, [.int .i64 0, .int .i64 0, .bool false, .int .u8 0]), (9, [.string ⟨#[]⟩]), (10, [.string ⟨#[]⟩]), (11, [.string ⟨#[]⟩]), (12, [.int .u64 0]), (13, [.string ⟨#[]⟩, .int .u64 0]),
    (14, [.string ⟨#[]⟩, .int .u64 0]), (15, [.pointer none]), (16, [.pointer none]), (17, [.pointer none]), (18, [.pointer none]), (19, [.pointer none]),
    (21, [.int .i32 0]), (22, [.slice none 0 0]), (25, [.pointer none]), (26, [.int .i64 0]), (29, [.pointer none]), (32, [.slice none 0 0]),
    (33, [.int .u8 0, .int .i64 0, .slice none 0 0]), (34, [.int .u8 0, .int .i64 0, .slice none 0 0]), (35, [.int .u8 0, .int .i64 0, .string ⟨#[]⟩, .int .i64 0]), (36, [.int .u8 0, .int .i64 0, .string ⟨#[]⟩, .int .i64 0]), (37, [.int .i64 0, .int .i64 0, .int .i64 0, .int .u8 0, .int .i64 0, .slice none 0 0, .int .u8 0, .int .i64 0, .string ⟨#[]⟩, .int .i64 0, .int .u8 0, .int .i64 0, .string ⟨#[]⟩, .int .i64 0, .bool false]), (38, [.int .i64 0, .int .i64 0, .int .i64 0, .int .u8 0, .int .i64 0, .slice none 0 0, .int .u8 0, .int .i64 0, .string ⟨#[]⟩, .int .i64 0, .int .u8 0, .int .i64 0, .string ⟨#[]⟩, .int .i64 0, .bool false]),
    (51, [.slice none 0 0]), (52, [.slice none 0 0]), (53, [.int .i64 0, .slice none 0 0, .slice none 0 0, .int .i64 0]), (54, [.int .i64 0, .slice none 0 0, .slice none 0 0, .int .i64 0]), (58, [.map none]), (59, [.map none]),
    (64, [.slice none 0 0]), (65, [.int .u8 0, .int .i64 0, .string ⟨#[]⟩, .slice none 0 0]), (66, [.int .u8 0, .int .i64 0, .string ⟨#[]⟩, .slice none 0 0]), (68, [.pointer none]), (81, [.slice none 0 0]), (83, [.int .i64 0, .int .i64 0, .int .u8 0, .int .i64 0, .slice none 0 0, .int .u8 0, .int .i64 0, .string ⟨#[]⟩, .slice none 0 0, .int .u8 0, .int .i64 0, .string ⟨#[]⟩, .int .i64 0, .bool false]),
    (84, [.int .i64 0, .int .i64 0, .int .u8 0, .int .i64 0, .slice none 0 0, .int .u8 0, .int .i64 0, .string ⟨#[]⟩, .slice none 0 0, .int .u8 0, .int .i64 0, .string ⟨#[]⟩, .int .i64 0, .bool false]), (86, [.slice none 0 0]), (91, [.slice none 0 0]), (93, [.pointer none]), (107, [.slice none 0 0]), (108, [.int .i64 0, .int .i64 0, .slice none 0 0, .slice none 0 0]),
    (109, [.int .i64 0, .int .i64 0, .slice none 0 0, .slice none 0 0]), (113, [.int .u8 0, .int .i64 0, .slice none 0 0, .int .i64 0, .bool false]), (114, [.int .u8 0, .int .i64 0, .slice none 0 0, .int .i64 0, .bool false]), (116, [.pointer none]), (117, [.int .u8 0, .int .i64 0, .slice none 0 0]), (118, [.int .u8 0, .int .i64 0, .slice none 0 0]),
    (122, [.pointer none]), (123, [.int .u8 0, .int .i64 0, .slice none 0 0, .int .i64 0, .bool false]), (124, [.int .u8 0, .int .i64 0, .slice none 0 0, .int .i64 0, .bool false]), (128, [.slice none 0 0]), (129, [.string ⟨#[]⟩, .string ⟨#[]⟩]), (130, [.string ⟨#[]⟩, .string ⟨#[]⟩]),
    (135, [.slice none 0 0]), (136, [.slice none 0 0, .slice none 0 0, .slice none 0 0, .slice none 0 0]), (137, [.slice none 0 0, .slice none 0 0, .slice none 0 0, .slice none 0 0]), (139, [.pointer none]), (143, [.map none]), (144, [.pointer none, .map none, .bool false]),
    (145, [.pointer none, .map none, .bool false]), (153, [.int .u8 0, .int .i64 0, .string ⟨#[]⟩, .string ⟨#[]⟩, .bool false]), (154, [.int .u8 0, .int .i64 0, .string ⟨#[]⟩, .string ⟨#[]⟩, .bool false]), (155, [.slice none 0 0]), (156, [.slice none 0 0, .slice none 0 0, .int .i64 0, .slice none 0 0, .slice none 0 0]), (157, [.slice none 0 0, .slice none 0 0, .int .i64 0, .slice none 0 0, .slice none 0 0]),
    (160, [.slice none 0 0]), (166, [.pointer none]), (168, [.int .i64 0, .int .i64 0]), (169, [.int .i64 0, .int .i64 0]), (170, [.int .i64 0, .int .i64 0, .bool false]), (171, [.int .i64 0, .int .i64 0, .bool false]),
    (172, [.int .i64 0, .int .i64 0]), (173, [.int .i64 0, .int .i64 0]), (179, [.int .i64 0]), (180, [.int .i64 0]), (185, []), (184, [.slice none 0 0]), (187, [.pointer none]),
    (191, [.pointer none, .pointer none, .pointer none, .string ⟨#[]⟩]), (192, [.pointer none, .pointer none, .pointer none, .string ⟨#[]⟩]), (196, [.int .u32 0]), (197, [.int .u8 0]), (198, [.int .u8 0]), (200, [.pointer none]),
    (201, [.int .i32 0]), (202, [.int .i32 0])]
  st := [(7, [(0, 1), (1, 1), (2, 1), (3, 1)], [.int .i64 0, .int .i64 0, .bool false, .int .u8 0]), (8, [(0, 1), (1, 1), (2, 1), (3, 1)], [.int .i64 0, .int .i64 0, .bool false, .int .u8 0]), (13, [(0, 1), (1, 1)], [.string ⟨#[]⟩, .int .u64 0]), (14, [(0, 1), (1, 1)], [.string ⟨#[]⟩, .int .u64 0]), (18, [(0, 1)], [.pointer none]), (19, [(0, 1)], [.pointer none]),
    (33, [(0, 1), (1, 1), (2, 1)], [.int .u8 0, .int .i64 0, .slice none 0 0]), (34, [(0, 1), (1, 1), (2, 1)], [.int .u8 0, .int .i64 0, .slice none 0 0]), (35, [(0, 1), (1, 1), (2, 1), (3, 1)], [.int .u8 0, .int .i64 0, .string ⟨#[]⟩, .int .i64 0]), (36, [(0, 1), (1, 1), (2, 1), (3, 1)], [.int .u8 0, .int .i64 0, .string ⟨#[]⟩, .int .i64 0]), (37, [(0, 1), (1, 1), (2, 1), (3, 3), (6, 4), (10, 4), (14, 1)], [.int .i64 0, .int .i64 0, .int .i64 0, .int .u8 0, .int .i64 0, .slice none 0 0, .int .u8 0, .int .i64 0, .string ⟨#[]⟩, .int .i64 0, .int .u8 0, .int .i64 0, .string ⟨#[]⟩, .int .i64 0, .bool false]), (38, [(0, 1), (1, 1), (2, 1), (3, 3), (6, 4), (10, 4), (14, 1)], [.int .i64 0, .int .i64 0, .int .i64 0, .int .u8 0, .int .i64 0, .slice none 0 0, .int .u8 0, .int .i64 0, .string ⟨#[]⟩, .int .i64 0, .int .u8 0, .int .i64 0, .string ⟨#[]⟩, .int .i64 0, .bool false]),
    (53, [(0, 1), (1, 1), (2, 1), (3, 1)], [.int .i64 0, .slice none 0 0, .slice none 0 0, .int .i64 0]), (54, [(0, 1), (1, 1), (2, 1), (3, 1)], [.int .i64 0, .slice none 0 0, .slice none 0 0, .int .i64 0]), (65, [(0, 1), (1, 1), (2, 1), (3, 1)], [.int .u8 0, .int .i64 0, .string ⟨#[]⟩, .slice none 0 0]), (66, [(0, 1), (1, 1), (2, 1), (3, 1)], [.int .u8 0, .int .i64 0, .string ⟨#[]⟩, .slice none 0 0]), (83, [(0, 1), (1, 1), (2, 3), (5, 4), (9, 4), (13, 1)], [.int .i64 0, .int .i64 0, .int .u8 0, .int .i64 0, .slice none 0 0, .int .u8 0, .int .i64 0, .string ⟨#[]⟩, .slice none 0 0, .int .u8 0, .int .i64 0, .string ⟨#[]⟩, .int .i64 0, .bool false]), (84, [(0, 1), (1, 1), (2, 3), (5, 4), (9, 4), (13, 1)], [.int .i64 0, .int .i64 0, .int .u8 0, .int .i64 0, .slice none 0 0, .int .u8 0, .int .i64 0, .string ⟨#[]⟩, .slice none 0 0, .int .u8 0, .int .i64 0, .string ⟨#[]⟩, .int .i64 0, .bool false]),
    (108, [(0, 1), (1, 1), (2, 1), (3, 1)], [.int .i64 0, .int .i64 0, .slice none 0 0, .slice none 0 0]), (109, [(0, 1), (1, 1), (2, 1), (3, 1)], [.int .i64 0, .int .i64 0, .slice none 0 0, .slice none 0 0]), (113, [(0, 3), (3, 1), (4, 1)], [.int .u8 0, .int .i64 0, .slice none 0 0, .int .i64 0, .bool false]), (114, [(0, 3), (3, 1), (4, 1)], [.int .u8 0, .int .i64 0, .slice none 0 0, .int .i64 0, .bool false]), (117, [(0, 3)], [.int .u8 0, .int .i64 0, .slice none 0 0]), (118, [(0, 3)], [.int .u8 0, .int .i64 0, .slice none 0 0]),
    (123, [(0, 3), (3, 1), (4, 1)], [.int .u8 0, .int .i64 0, .slice none 0 0, .int .i64 0, .bool false]), (124, [(0, 3), (3, 1), (4, 1)], [.int .u8 0, .int .i64 0, .slice none 0 0, .int .i64 0, .bool false]), (129, [(0, 1), (1, 1)], [.string ⟨#[]⟩, .string ⟨#[]⟩]), (130, [(0, 1), (1, 1)], [.string ⟨#[]⟩, .string ⟨#[]⟩]), (136, [(0, 1), (1, 1), (2, 1), (3, 1)], [.slice none 0 0, .slice none 0 0, .slice none 0 0, .slice none 0 0]), (137, [(0, 1), (1, 1), (2, 1), (3, 1)], [.slice none 0 0, .slice none 0 0, .slice none 0 0, .slice none 0 0]),
    (144, [(0, 1), (1, 1), (2, 1)], [.pointer none, .map none, .bool false]), (145, [(0, 1), (1, 1), (2, 1)], [.pointer none, .map none, .bool false]), (153, [(0, 1), (1, 1), (2, 1), (3, 1), (4, 1)], [.int .u8 0, .int .i64 0, .string ⟨#[]⟩, .string ⟨#[]⟩, .bool false]), (154, [(0, 1), (1, 1), (2, 1), (3, 1), (4, 1)], [.int .u8 0, .int .i64 0, .string ⟨#[]⟩, .string ⟨#[]⟩, .bool false]), (156, [(0, 1), (1, 1), (2, 1), (3, 1), (4, 1)], [.slice none 0 0, .slice none 0 0, .int .i64 0, .slice none 0 0, .slice none 0 0]), (157, [(0, 1), (1, 1), (2, 1), (3, 1), (4, 1)], [.slice none 0 0, .slice none 0 0, .int .i64 0, .slice none 0 0, .slice none 0 0]),
    (168, [(0, 1), (1, 1)], [.int .i64 0, .int .i64 0]), (169, [(0, 1), (1, 1)], [.int .i64 0, .int .i64 0]), (170, [(0, 2), (2, 1)], [.int .i64 0, .int .i64 0, .bool false]), (171, [(0, 2), (2, 1)], [.int .i64 0, .int .i64 0, .bool false]), (172, [(0, 1), (1, 1)], [.int .i64 0, .int .i64 0]), (173, [(0, 1), (1, 1)], [.int .i64 0, .int .i64 0]),
    (179, [(0, 1)], [.int .i64 0]), (180, [(0, 1)], [.int .i64 0]), (185, [], []), (191, [(0, 1), (1, 1), (2, 1), (3, 1)], [.pointer none, .pointer none, .pointer none, .string ⟨#[]⟩]), (192, [(0, 1), (1, 1), (2, 1), (3, 1)], [.pointer none, .pointer none, .pointer none, .string ⟨#[]⟩])]

set_option maxRecDepth 100000 in
theorem tab_ok : okTab Try.prog tab = true := by kernel_rfl
set_option maxRecDepth 100000 in
theorem tabZ_ok : okTabZ Try.prog tabZ = true := by kernel_rfl
theorem bool_ok : Try.prog.underlying 4 = some .bool := by kernel_rfl
theorem str_ok : Try.prog.underlying 9 = some .string := by kernel_rfl
theorem mixed_ok : Try.prog.follows .mixedOrders = true := by kernel_rfl
end Go.Proofs.Ytciciaikajdenaa
