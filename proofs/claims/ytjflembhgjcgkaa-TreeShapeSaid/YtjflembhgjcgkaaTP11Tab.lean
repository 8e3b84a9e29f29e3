/- The tables of this seat's types. Printed by program. -/
import Derived.Test.YtjflembhgjcgkaaRows
import Derived.KernelRfl
import Derived.Test.YtjflembhgjcgkaaTP11Ab
set_option linter.unusedVariables false
namespace Go.Proofs.Ytjflembhgjcgkaa
open Go.RowKit

def tab : Tab where
  ty := [(2, 1, 8, false), (3, 1, 8, false), (4, 1, 1, false), (5, 1, 1, false), (6, 1, 1, false), (7, 4, 24, true),
    (8, 4, 24, true), (9, 1, 16, false), (10, 1, 16, false), (11, 1, 16, false), (12, 1, 8, false), (13, 2, 24, true),
    (14, 2, 24, true), (15, 1, 8, false), (16, 1, 8, false), (17, 1, 8, false), (18, 1, 8, true), (19, 1, 8, true),
    (21, 1, 4, false), (22, 1, 24, false), (23, 1, 24, false), (24, 2, 48, true), (25, 2, 48, true), (26, 1, 24, false),
    (29, 1, 24, false), (30, 1, 24, false), (31, 1, 24, false), (32, 5, 88, true), (33, 5, 88, true), (34, 1, 8, false),
    (38, 3, 24, true), (39, 3, 24, true), (40, 8, 88, true), (41, 8, 88, true), (43, 1, 24, false), (46, 2, 32, true),
    (47, 2, 32, true), (58, 1, 24, false), (59, 4, 56, true), (60, 4, 56, true), (75, 1, 8, false), (80, 9, 128, true),
    (81, 9, 128, true), (87, 3, 48, true), (88, 3, 48, true), (89, 1, 24, false), (90, 1, 24, false), (91, 4, 72, true),
    (92, 4, 72, true), (93, 1, 24, false), (94, 1, 24, false), (95, 2, 32, true), (96, 2, 32, true), (97, 9, 112, true),
    (98, 9, 112, true), (99, 1, 8, false), (100, 3, 56, true), (101, 3, 56, true), (103, 1, 8, false), (104, 4, 80, true),
    (105, 4, 80, true), (114, 1, 24, false), (117, 1, 24, false), (118, 9, 112, true), (119, 9, 112, true), (126, 4, 40, true),
    (127, 4, 40, true), (132, 4, 56, true), (133, 4, 56, true), (136, 1, 24, false), (140, 1, 24, false), (145, 10, 136, true),
    (146, 10, 136, true), (147, 1, 1, false), (148, 2, 16, true), (149, 2, 16, true), (150, 5, 56, true), (151, 5, 56, true),
    (155, 1, 24, false), (160, 1, 24, false), (161, 1, 24, false), (162, 5, 120, true), (163, 5, 120, true), (166, 1, 8, false),
    (168, 1, 8, false), (183, 1, 24, false), (188, 4, 40, true), (189, 4, 40, true), (194, 1, 4, false), (195, 1, 1, false),
    (196, 1, 1, false), (198, 1, 8, false), (199, 1, 4, false), (200, 1, 4, false)]
  fld := [(7, 0, 0), (7, 1, 1), (7, 2, 2), (7, 3, 3), (8, 0, 0), (8, 1, 1),
    (8, 2, 2), (8, 3, 3), (13, 0, 0), (13, 1, 1), (14, 0, 0), (14, 1, 1),
    (18, 0, 0), (19, 0, 0), (24, 0, 0), (24, 1, 1), (25, 0, 0), (25, 1, 1),
    (32, 0, 0), (32, 1, 1), (32, 2, 2), (32, 3, 3), (32, 4, 4), (33, 0, 0),
    (33, 1, 1), (33, 2, 2), (33, 3, 3), (33, 4, 4), (38, 0, 0), (38, 1, 1),
    (38, 2, 2), (39, 0, 0), (39, 1, 1), (39, 2, 2), (40, 0, 0), (40, 1, 1),
    (40, 2, 2), (40, 3, 3), (40, 4, 4), (40, 5, 7), (41, 0, 0), (41, 1, 1),
    (41, 2, 2), (41, 3, 3), (41, 4, 4), (41, 5, 7), (46, 0, 0), (46, 1, 1),
    (47, 0, 0), (47, 1, 1), (59, 0, 0), (59, 1, 1), (59, 2, 2), (59, 3, 3),
    (60, 0, 0), (60, 1, 1), (60, 2, 2), (60, 3, 3), (80, 0, 0), (80, 1, 1),
    (80, 2, 2), (80, 3, 3), (80, 4, 4), (81, 0, 0), (81, 1, 1), (81, 2, 2),
    (81, 3, 3), (81, 4, 4), (87, 0, 0), (87, 1, 1), (87, 2, 2), (88, 0, 0),
    (88, 1, 1), (88, 2, 2), (91, 0, 0), (91, 1, 1), (91, 2, 2), (91, 3, 3),
    (92, 0, 0), (92, 1, 1), (92, 2, 2), (92, 3, 3), (95, 0, 0), (95, 1, 1),
    (96, 0, 0), (96, 1, 1), (97, 0, 0), (97, 1, 1), (98, 0, 0), (98, 1, 1),
    (100, 0, 0), (100, 1, 2), (101, 0, 0), (101, 1, 2), (104, 0, 0), (104, 1, 2),
    (104, 2, 3), (105, 0, 0), (105, 1, 2), (105, 2, 3), (118, 0, 0), (118, 1, 8),
    (119, 0, 0), (119, 1, 8), (126, 0, 0), (126, 1, 1), (126, 2, 2), (126, 3, 3),
    (127, 0, 0), (127, 1, 1), (127, 2, 2), (127, 3, 3), (132, 0, 0), (133, 0, 0),
    (145, 0, 0), (145, 1, 1), (145, 2, 9), (146, 0, 0), (146, 1, 1), (146, 2, 9),
    (148, 0, 0), (148, 1, 1), (149, 0, 0), (149, 1, 1), (150, 0, 0), (150, 1, 1),
    (150, 2, 2), (150, 3, 4), (151, 0, 0), (151, 1, 1), (151, 2, 2), (151, 3, 4),
    (162, 0, 0), (162, 1, 2), (162, 2, 3), (162, 3, 4), (163, 0, 0), (163, 1, 2),
    (163, 2, 3), (163, 3, 4), (188, 0, 0), (188, 1, 1), (188, 2, 2), (188, 3, 3),
    (189, 0, 0), (189, 1, 1), (189, 2, 2), (189, 3, 3)]
  sl := [(22, 88), (23, 92), (26, 41), (29, 3), (30, 81), (31, 33),
    (43, 47), (58, 60), (89, 151), (90, 147), (93, 96), (94, 98),
    (114, 26), (117, 4), (136, 29), (140, 146), (155, 127), (160, 2),
    (161, 9), (183, 94)]

def tabZ : TabZ where
  zs := [(2, [.int .i64 0]), (3, [.int .i64 0]), (4, [.bool false]), (5, [.int .u8 0]), (6, [.int .u8 0]), (7, [.int .i64 0, .int .i64 0, .bool false, .int .u8 0]),
    (8, [.int .i64 0, .int .i64 0, .bool false, .int .u8 0]), (9, [.string ⟨#[]⟩]), (10, [.string ⟨#[]⟩]), (11, [.string ⟨#[]⟩]), (12, [.int .u64 0]), (13, [.string ⟨#[]⟩, .int .u64 0]),
    (14, [.string ⟨#[]⟩, .int .u64 0]), (15, [.pointer none]), (16, [.pointer none]), (17, [.pointer none]), (18, [.pointer none]), (19, [.pointer none]),
    (21, [.int .i32 0]), (22, [.slice none 0 0]), (23, [.slice none 0 0]), (24, [.slice none 0 0, .slice none 0 0]), (25, [.slice none 0 0, .slice none 0 0]), (26, [.slice none 0 0]),
    (29, [.slice none 0 0]), (30, [.slice none 0 0]), (31, [.slice none 0 0]), (32, [.int .u8 0, .int .i64 0, .slice none 0 0, .slice none 0 0, .slice none 0 0]), (33, [.int .u8 0, .int .i64 0, .slice none 0 0, .slice none 0 0, .slice none 0 0]), (34, [.int .i64 0]),
    (38, [.int .i64 0, .int .i64 0, .int .i64 0]), (39, [.int .i64 0, .int .i64 0, .int .i64 0]), (40, [.int .u8 0, .int .i64 0, .int .i64 0, .string ⟨#[]⟩, .int .i64 0, .int .i64 0, .int .i64 0, .slice none 0 0]), (41, [.int .u8 0, .int .i64 0, .int .i64 0, .string ⟨#[]⟩, .int .i64 0, .int .i64 0, .int .i64 0, .slice none 0 0]), (43, [.slice none 0 0]), (46, [.int .i64 0, .slice none 0 0]),
    (47, [.int .i64 0, .slice none 0 0]), (58, [.slice none 0 0]), (59, [.int .u8 0, .int .i64 0, .string ⟨#[]⟩, .slice none 0 0]), (60, [.int .u8 0, .int .i64 0, .string ⟨#[]⟩, .slice none 0 0]), (75, [.map none]), (80, [.int .u8 0, .int .i64 0, .int .i64 0, .string ⟨#[]⟩, .int .u8 0, .int .i64 0, .slice none 0 0, .slice none 0 0, .slice none 0 0]),
    (81, [.int .u8 0, .int .i64 0, .int .i64 0, .string ⟨#[]⟩, .int .u8 0, .int .i64 0, .slice none 0 0, .slice none 0 0, .slice none 0 0]), (87, [.string ⟨#[]⟩, .int .i64 0, .slice none 0 0]), (88, [.string ⟨#[]⟩, .int .i64 0, .slice none 0 0]), (89, [.slice none 0 0]), (90, [.slice none 0 0]), (91, [.string ⟨#[]⟩, .int .i64 0, .slice none 0 0, .slice none 0 0]),
    (92, [.string ⟨#[]⟩, .int .i64 0, .slice none 0 0, .slice none 0 0]), (93, [.slice none 0 0]), (94, [.slice none 0 0]), (95, [.slice none 0 0, .int .i64 0]), (96, [.slice none 0 0, .int .i64 0]), (97, [.slice none 0 0, .int .u8 0, .int .i64 0, .int .i64 0, .string ⟨#[]⟩, .int .i64 0, .int .i64 0, .int .i64 0, .slice none 0 0]),
    (98, [.slice none 0 0, .int .u8 0, .int .i64 0, .int .i64 0, .string ⟨#[]⟩, .int .i64 0, .int .i64 0, .int .i64 0, .slice none 0 0]), (99, [.pointer none]), (100, [.slice none 0 0, .slice none 0 0, .int .i64 0]), (101, [.slice none 0 0, .slice none 0 0, .int .i64 0]), (103, [.pointer none]), (104, [.slice none 0 0, .slice none 0 0, .slice none 0 0, .int .i64 0]),
    (105, [.slice none 0 0, .slice none 0 0, .slice none 0 0, .int .i64 0]), (114, [.slice none 0 0]), (117, [.slice none 0 0]), (118, [.int .u8 0, .int .i64 0, .int .i64 0, .string ⟨#[]⟩, .int .i64 0, .int .i64 0, .int .i64 0, .slice none 0 0, .slice none 0 0]), (119, [.int .u8 0, .int .i64 0, .int .i64 0, .string ⟨#[]⟩, .int .i64 0, .int .i64 0, .int .i64 0, .slice none 0 0, .slice none 0 0]), (126, [.int .u8 0, .int .i64 0, .int .i64 0, .string ⟨#[]⟩]),
    (127, [.int .u8 0, .int .i64 0, .int .i64 0, .string ⟨#[]⟩]), (132, [.int .u8 0, .int .i64 0, .string ⟨#[]⟩, .slice none 0 0]), (133, [.int .u8 0, .int .i64 0, .string ⟨#[]⟩, .slice none 0 0]), (136, [.slice none 0 0]), (140, [.slice none 0 0]), (145, [.slice none 0 0, .int .u8 0, .int .i64 0, .int .i64 0, .string ⟨#[]⟩, .int .i64 0, .int .i64 0, .int .i64 0, .slice none 0 0, .slice none 0 0]),
    (146, [.slice none 0 0, .int .u8 0, .int .i64 0, .int .i64 0, .string ⟨#[]⟩, .int .i64 0, .int .i64 0, .int .i64 0, .slice none 0 0, .slice none 0 0]), (147, [.int .u8 0]), (148, [.int .i64 0, .int .u8 0]), (149, [.int .i64 0, .int .u8 0]), (150, [.int .u8 0, .int .i64 0, .int .i64 0, .int .u8 0, .slice none 0 0]), (151, [.int .u8 0, .int .i64 0, .int .i64 0, .int .u8 0, .slice none 0 0]),
    (155, [.slice none 0 0]), (160, [.slice none 0 0]), (161, [.slice none 0 0]), (162, [.slice none 0 0, .slice none 0 0, .slice none 0 0, .slice none 0 0, .slice none 0 0]), (163, [.slice none 0 0, .slice none 0 0, .slice none 0 0, .slice none 0 0, .slice none 0 0]), (166, [.pointer none]),
    (168, [.map none]), (183, [.slice none 0 0]), (188, [.pointer none, .pointer none, .pointer none, .string ⟨#[]⟩]), (189, [.pointer none, .pointer none, .pointer none, .string ⟨#[]⟩]), (194, [.int .u32 0]), (195, [.int .u8 0]),
    (196, [.int .u8 0]), (198, [.pointer none]), (199, [.int .i32 0]), (200, [.int .i32 0])]
  st := [(7, [(0, 1), (1, 1), (2, 1), (3, 1)], [.int .i64 0, .int .i64 0, .bool false, .int .u8 0]), (8, [(0, 1), (1, 1), (2, 1), (3, 1)], [.int .i64 0, .int .i64 0, .bool false, .int .u8 0]), (13, [(0, 1), (1, 1)], [.string ⟨#[]⟩, .int .u64 0]), (14, [(0, 1), (1, 1)], [.string ⟨#[]⟩, .int .u64 0]), (18, [(0, 1)], [.pointer none]), (19, [(0, 1)], [.pointer none]),
    (24, [(0, 1), (1, 1)], [.slice none 0 0, .slice none 0 0]), (25, [(0, 1), (1, 1)], [.slice none 0 0, .slice none 0 0]), (32, [(0, 1), (1, 1), (2, 1), (3, 1), (4, 1)], [.int .u8 0, .int .i64 0, .slice none 0 0, .slice none 0 0, .slice none 0 0]), (33, [(0, 1), (1, 1), (2, 1), (3, 1), (4, 1)], [.int .u8 0, .int .i64 0, .slice none 0 0, .slice none 0 0, .slice none 0 0]), (38, [(0, 1), (1, 1), (2, 1)], [.int .i64 0, .int .i64 0, .int .i64 0]), (39, [(0, 1), (1, 1), (2, 1)], [.int .i64 0, .int .i64 0, .int .i64 0]),
    (40, [(0, 1), (1, 1), (2, 1), (3, 1), (4, 3), (7, 1)], [.int .u8 0, .int .i64 0, .int .i64 0, .string ⟨#[]⟩, .int .i64 0, .int .i64 0, .int .i64 0, .slice none 0 0]), (41, [(0, 1), (1, 1), (2, 1), (3, 1), (4, 3), (7, 1)], [.int .u8 0, .int .i64 0, .int .i64 0, .string ⟨#[]⟩, .int .i64 0, .int .i64 0, .int .i64 0, .slice none 0 0]), (46, [(0, 1), (1, 1)], [.int .i64 0, .slice none 0 0]), (47, [(0, 1), (1, 1)], [.int .i64 0, .slice none 0 0]), (59, [(0, 1), (1, 1), (2, 1), (3, 1)], [.int .u8 0, .int .i64 0, .string ⟨#[]⟩, .slice none 0 0]), (60, [(0, 1), (1, 1), (2, 1), (3, 1)], [.int .u8 0, .int .i64 0, .string ⟨#[]⟩, .slice none 0 0]),
    (80, [(0, 1), (1, 1), (2, 1), (3, 1), (4, 5)], [.int .u8 0, .int .i64 0, .int .i64 0, .string ⟨#[]⟩, .int .u8 0, .int .i64 0, .slice none 0 0, .slice none 0 0, .slice none 0 0]), (81, [(0, 1), (1, 1), (2, 1), (3, 1), (4, 5)], [.int .u8 0, .int .i64 0, .int .i64 0, .string ⟨#[]⟩, .int .u8 0, .int .i64 0, .slice none 0 0, .slice none 0 0, .slice none 0 0]), (87, [(0, 1), (1, 1), (2, 1)], [.string ⟨#[]⟩, .int .i64 0, .slice none 0 0]), (88, [(0, 1), (1, 1), (2, 1)], [.string ⟨#[]⟩, .int .i64 0, .slice none 0 0]), (91, [(0, 1), (1, 1), (2, 1), (3, 1)], [.string ⟨#[]⟩, .int .i64 0, .slice none 0 0, .slice none 0 0]), (92, [(0, 1), (1, 1), (2, 1), (3, 1)], [.string ⟨#[]⟩, .int .i64 0, .slice none 0 0, .slice none 0 0]),
    (95, [(0, 1), (1, 1)], [.slice none 0 0, .int .i64 0]), (96, [(0, 1), (1, 1)], [.slice none 0 0, .int .i64 0]), (97, [(0, 1), (1, 8)], [.slice none 0 0, .int .u8 0, .int .i64 0, .int .i64 0, .string ⟨#[]⟩, .int .i64 0, .int .i64 0, .int .i64 0, .slice none 0 0]), (98, [(0, 1), (1, 8)], [.slice none 0 0, .int .u8 0, .int .i64 0, .int .i64 0, .string ⟨#[]⟩, .int .i64 0, .int .i64 0, .int .i64 0, .slice none 0 0]), (100, [(0, 2), (2, 1)], [.slice none 0 0, .slice none 0 0, .int .i64 0]), (101, [(0, 2), (2, 1)], [.slice none 0 0, .slice none 0 0, .int .i64 0]),
    (104, [(0, 2), (2, 1), (3, 1)], [.slice none 0 0, .slice none 0 0, .slice none 0 0, .int .i64 0]), (105, [(0, 2), (2, 1), (3, 1)], [.slice none 0 0, .slice none 0 0, .slice none 0 0, .int .i64 0]), (118, [(0, 8), (8, 1)], [.int .u8 0, .int .i64 0, .int .i64 0, .string ⟨#[]⟩, .int .i64 0, .int .i64 0, .int .i64 0, .slice none 0 0, .slice none 0 0]), (119, [(0, 8), (8, 1)], [.int .u8 0, .int .i64 0, .int .i64 0, .string ⟨#[]⟩, .int .i64 0, .int .i64 0, .int .i64 0, .slice none 0 0, .slice none 0 0]), (126, [(0, 1), (1, 1), (2, 1), (3, 1)], [.int .u8 0, .int .i64 0, .int .i64 0, .string ⟨#[]⟩]), (127, [(0, 1), (1, 1), (2, 1), (3, 1)], [.int .u8 0, .int .i64 0, .int .i64 0, .string ⟨#[]⟩]),
    (132, [(0, 4)], [.int .u8 0, .int .i64 0, .string ⟨#[]⟩, .slice none 0 0]), (133, [(0, 4)], [.int .u8 0, .int .i64 0, .string ⟨#[]⟩, .slice none 0 0]), (145, [(0, 1), (1, 8), (9, 1)], [.slice none 0 0, .int .u8 0, .int .i64 0, .int .i64 0, .string ⟨#[]⟩, .int .i64 0, .int .i64 0, .int .i64 0, .slice none 0 0, .slice none 0 0]), (146, [(0, 1), (1, 8), (9, 1)], [.slice none 0 0, .int .u8 0, .int .i64 0, .int .i64 0, .string ⟨#[]⟩, .int .i64 0, .int .i64 0, .int .i64 0, .slice none 0 0, .slice none 0 0]), (148, [(0, 1), (1, 1)], [.int .i64 0, .int .u8 0]), (149, [(0, 1), (1, 1)], [.int .i64 0, .int .u8 0]),
    (150, [(0, 1), (1, 1), (2, 2), (4, 1)], [.int .u8 0, .int .i64 0, .int .i64 0, .int .u8 0, .slice none 0 0]), (151, [(0, 1), (1, 1), (2, 2), (4, 1)], [.int .u8 0, .int .i64 0, .int .i64 0, .int .u8 0, .slice none 0 0]), (162, [(0, 2), (2, 1), (3, 1), (4, 1)], [.slice none 0 0, .slice none 0 0, .slice none 0 0, .slice none 0 0, .slice none 0 0]), (163, [(0, 2), (2, 1), (3, 1), (4, 1)], [.slice none 0 0, .slice none 0 0, .slice none 0 0, .slice none 0 0, .slice none 0 0]), (188, [(0, 1), (1, 1), (2, 1), (3, 1)], [.pointer none, .pointer none, .pointer none, .string ⟨#[]⟩]), (189, [(0, 1), (1, 1), (2, 1), (3, 1)], [.pointer none, .pointer none, .pointer none, .string ⟨#[]⟩])]

set_option maxRecDepth 100000 in
theorem tab_ok : okTab Try.prog tab = true := by kernel_rfl
set_option maxRecDepth 100000 in
theorem tabZ_ok : okTabZ Try.prog tabZ = true := by kernel_rfl
theorem bool_ok : Try.prog.underlying 4 = some .bool := by kernel_rfl
theorem str_ok : Try.prog.underlying 9 = some .string := by kernel_rfl
theorem mixed_ok : Try.prog.follows .mixedOrders = true := by kernel_rfl
end Go.Proofs.Ytjflembhgjcgkaa
