/- Each function's abstract code is what the compiler makes of it: checked by the kernel; the table stands for the program. No condition. -/
import Derived.Test.YtkgmeeenacnhfaaGreatChecked
import Derived.KernelRfl
import Derived.Test.YtkgmeeenacnhfaaGreatNdA
import Derived.Test.YtkgmeeenacnhfaaGreatNdH
import Derived.Test.YtkgmeeenacnhfaaGreatNdI
set_option linter.unusedVariables false
set_option linter.unusedSimpArgs false
namespace Go.Proofs.YtkgmeeenacnhfaaGreat.Eng
open Go
theorem k9 : cFn Tryz.prog { locals := [(1, [21, 29, 47]), (5, [20, 45, 54])], roots := [(20, 5), (21, 1), (29, 1), (45, 5), (47, 1), (54, 5)], inpl := [], orders := [] } (fun _ => .shared) Tryz.f9 = some c9 := by kernel_rfl
theorem k20 : cFn Tryz.prog { locals := [(1, [12, 15, 18, 23, 74]), (2, []), (6, [30, 32, 34, 36, 38, 40, 42, 45, 49, 53]), (7, [52, 58])], roots := [(12, 1), (15, 1), (18, 1), (23, 1), (30, 6), (32, 6), (34, 6), (36, 6), (38, 6), (40, 6), (42, 6), (45, 6), (49, 6), (52, 7), (53, 6), (58, 7), (74, 1)], inpl := [], orders := [(3, [0, 1, 3, 4, 6, 7, 2, 5, 8, 9, 10, 11])] } (fun _ => .shared) Tryz.f20 = some c20 := by kernel_rfl
theorem k37 : cFn Tryz.prog { locals := [(2, [])], roots := [], inpl := [], orders := [] } (fun _ => .shared) Tryz.f37 = some c37 := by kernel_rfl
theorem k44 : cFn Tryz.prog { locals := [(4, []), (5, []), (6, [])], roots := [], inpl := [], orders := [] } (fun _ => .shared) Tryz.f44 = some c44 := by kernel_rfl
theorem k48 : cFn Tryz.prog { locals := [(8, [])], roots := [], inpl := [], orders := [] } (fun _ => .shared) Tryz.f48 = some c48 := by kernel_rfl
theorem k52 : cFn Tryz.prog { locals := [(2, [5, 11, 18, 25, 32]), (3, [7, 13, 20, 27, 34])], roots := [(5, 2), (7, 3), (11, 2), (13, 3), (18, 2), (20, 3), (25, 2), (27, 3), (32, 2), (34, 3)], inpl := [], orders := [] } (fun _ => .shared) Tryz.f52 = some c52 := by kernel_rfl
theorem k57 : cFn Tryz.prog { locals := [], roots := [], inpl := [], orders := [] } (fun _ => .shared) Tryz.f57 = some c57 := by kernel_rfl
theorem k65 : cFn Tryz.prog { locals := [(7, [])], roots := [], inpl := [], orders := [] } (fun _ => .shared) Tryz.f65 = some c65 := by kernel_rfl
theorem k70 : cFn Tryz.prog { locals := [], roots := [], inpl := [], orders := [] } (fun _ => .shared) Tryz.f70 = some c70 := by kernel_rfl
theorem k91 : cFn Tryz.prog { locals := [(7, [])], roots := [], inpl := [22], orders := [] } (fun _ => .shared) Tryz.f91 = some c91 := by kernel_rfl
theorem k97 : cFn Tryz.prog { locals := [], roots := [], inpl := [], orders := [] } (fun _ => .shared) Tryz.f97 = some c97 := by kernel_rfl
theorem k101 : cFn Tryz.prog { locals := [(3, [9, 11, 13, 15, 17, 19, 21, 24, 26, 29, 30, 34, 41, 46, 47, 49, 62]), (5, [61, 80])], roots := [(9, 3), (11, 3), (13, 3), (15, 3), (17, 3), (19, 3), (21, 3), (24, 3), (26, 3), (29, 3), (30, 3), (34, 3), (41, 3), (46, 3), (47, 3), (49, 3), (61, 5), (62, 3), (80, 5)], inpl := [], orders := [] } (fun _ => .shared) Tryz.f101 = some c101 := by kernel_rfl
theorem k105 : cFn Tryz.prog { locals := [(8, []), (9, [])], roots := [], inpl := [], orders := [] } (fun _ => .shared) Tryz.f105 = some c105 := by kernel_rfl
theorem k109 : cFn Tryz.prog { locals := [], roots := [], inpl := [], orders := [] } (fun _ => .shared) Tryz.f109 = some c109 := by kernel_rfl
theorem k114 : cFn Tryz.prog { locals := [], roots := [], inpl := [], orders := [] } (fun _ => .shared) Tryz.f114 = some c114 := by kernel_rfl
theorem k118 : cFn Tryz.prog { locals := [(1, [3, 7, 11])], roots := [(3, 1), (7, 1), (11, 1)], inpl := [], orders := [] } (fun _ => .shared) Tryz.f118 = some c118 := by kernel_rfl
theorem k122 : cFn Tryz.prog { locals := [(7, [])], roots := [], inpl := [], orders := [] } (fun _ => .shared) Tryz.f122 = some c122 := by kernel_rfl
theorem k126 : cFn Tryz.prog { locals := [], roots := [], inpl := [], orders := [] } (fun _ => .shared) Tryz.f126 = some c126 := by kernel_rfl
theorem k142 : cFn Tryz.prog { locals := [], roots := [], inpl := [], orders := [] } (fun _ => .shared) Tryz.f142 = some c142 := by kernel_rfl
theorem k150 : cFn Tryz.prog { locals := [], roots := [], inpl := [], orders := [] } (fun _ => .shared) Tryz.f150 = some c150 := by kernel_rfl
theorem k154 : cFn Tryz.prog { locals := [(2, [])], roots := [], inpl := [], orders := [] } (fun _ => .shared) Tryz.f154 = some c154 := by kernel_rfl
theorem k160 : cFn Tryz.prog { locals := [], roots := [], inpl := [], orders := [] } (fun _ => .shared) Tryz.f160 = some c160 := by kernel_rfl
theorem k164 : cFn Tryz.prog { locals := [(1, [3, 7, 12, 17, 22])], roots := [(3, 1), (7, 1), (12, 1), (17, 1), (22, 1)], inpl := [], orders := [] } (fun _ => .shared) Tryz.f164 = some c164 := by kernel_rfl
theorem k172 : cFn Tryz.prog { locals := [], roots := [], inpl := [], orders := [] } (fun _ => .shared) Tryz.f172 = some c172 := by kernel_rfl
theorem k193 : cFn Tryz.prog { locals := [], roots := [], inpl := [], orders := [] } (fun _ => .shared) Tryz.f193 = some c193 := by kernel_rfl
theorem k200 : cFn Tryz.prog { locals := [(2, [])], roots := [], inpl := [], orders := [] } (fun _ => .shared) Tryz.f200 = some c200 := by kernel_rfl
end Go.Proofs.YtkgmeeenacnhfaaGreat.Eng
namespace Go.Proofs.YtkgmeeenacnhfaaGreat.Eng
open Go
theorem k12 : cFn Tryz.prog { locals := [(1, []), (2, []), (3, [38, 44, 53, 79, 85, 108, 127, 133, 142]), (5, []), (6, [180]), (8, [190]), (13, [])], roots := [(38, 3), (44, 3), (53, 3), (79, 3), (85, 3), (108, 3), (127, 3), (133, 3), (142, 3), (180, 6), (190, 8)], inpl := [], orders := [] } (fun _ => .shared) Tryz.f12 = some c12 := by kernel_rfl
theorem k34 : cFn Tryz.prog { locals := [(3, [14, 26])], roots := [(14, 3), (26, 3)], inpl := [], orders := [] } (fun _ => .shared) Tryz.f34 = some c34 := by kernel_rfl
theorem k38 : cFn Tryz.prog { locals := [(3, []), (4, [])], roots := [], inpl := [], orders := [] } (fun _ => .shared) Tryz.f38 = some c38 := by kernel_rfl
theorem k45 : cFn Tryz.prog { locals := [(2, [])], roots := [], inpl := [], orders := [] } (fun _ => .shared) Tryz.f45 = some c45 := by kernel_rfl
theorem k49 : cFn Tryz.prog { locals := [(1, []), (2, [])], roots := [], inpl := [], orders := [] } (fun _ => .shared) Tryz.f49 = some c49 := by kernel_rfl
theorem k54 : cFn Tryz.prog { locals := [(1, [8, 13, 19, 25, 30, 34, 39, 46, 68, 70, 75, 76, 81, 82, 89, 94]), (6, [])], roots := [(8, 1), (13, 1), (19, 1), (25, 1), (30, 1), (34, 1), (39, 1), (46, 1), (68, 1), (70, 1), (75, 1), (76, 1), (81, 1), (82, 1), (89, 1), (94, 1)], inpl := [], orders := [] } (fun _ => .shared) Tryz.f54 = some c54 := by kernel_rfl
theorem k58 : cFn Tryz.prog { locals := [(2, [8, 11, 13, 14, 20]), (4, []), (5, [19, 24])], roots := [(8, 2), (11, 2), (13, 2), (14, 2), (19, 5), (20, 2), (24, 5)], inpl := [], orders := [] } (fun _ => .shared) Tryz.f58 = some c58 := by kernel_rfl
theorem k66 : cFn Tryz.prog { locals := [(1, []), (2, [])], roots := [], inpl := [], orders := [] } (fun _ => .shared) Tryz.f66 = some c66 := by kernel_rfl
theorem k71 : cFn Tryz.prog { locals := [(3, [6]), (4, [])], roots := [(6, 3)], inpl := [], orders := [] } (fun _ => .shared) Tryz.f71 = some c71 := by kernel_rfl
theorem k92 : cFn Tryz.prog { locals := [], roots := [], inpl := [], orders := [] } (fun _ => .shared) Tryz.f92 = some c92 := by kernel_rfl
theorem k98 : cFn Tryz.prog { locals := [(1, [6, 9]), (5, [])], roots := [(6, 1), (9, 1)], inpl := [], orders := [] } (fun _ => .shared) Tryz.f98 = some c98 := by kernel_rfl
theorem k102 : cFn Tryz.prog { locals := [], roots := [], inpl := [], orders := [] } (fun _ => .shared) Tryz.f102 = some c102 := by kernel_rfl
theorem k106 : cFn Tryz.prog { locals := [(2, [5, 11, 18, 25, 32, 39, 46, 53, 60]), (3, [7, 13, 20, 27, 34, 41, 48, 55, 62])], roots := [(5, 2), (7, 3), (11, 2), (13, 3), (18, 2), (20, 3), (25, 2), (27, 3), (32, 2), (34, 3), (39, 2), (41, 3), (46, 2), (48, 3), (53, 2), (55, 3), (60, 2), (62, 3)], inpl := [], orders := [] } (fun _ => .shared) Tryz.f106 = some c106 := by kernel_rfl
theorem k110 : cFn Tryz.prog { locals := [], roots := [], inpl := [], orders := [] } (fun _ => .shared) Tryz.f110 = some c110 := by kernel_rfl
theorem k115 : cFn Tryz.prog { locals := [(3, [12, 18, 22, 34, 44, 48, 57, 68, 73, 81, 95, 123, 127, 137, 144, 149, 157, 183, 188, 216, 221, 239, 244]), (6, [30, 31, 32, 38, 39, 55, 90, 120, 121, 170, 194, 227, 228, 250, 255, 260, 265, 270, 275])], roots := [(12, 3), (18, 3), (22, 3), (30, 6), (31, 6), (32, 6), (34, 3), (38, 6), (39, 6), (44, 3), (48, 3), (55, 6), (57, 3), (68, 3), (73, 3), (81, 3), (90, 6), (95, 3), (120, 6), (121, 6), (123, 3), (127, 3), (137, 3), (144, 3), (149, 3), (157, 3), (170, 6), (183, 3), (188, 3), (194, 6), (216, 3), (221, 3), (227, 6), (228, 6), (239, 3), (244, 3), (250, 6), (255, 6), (260, 6), (265, 6), (270, 6), (275, 6)], inpl := [], orders := [] } (fun _ => .shared) Tryz.f115 = some c115 := by kernel_rfl
theorem k119 : cFn Tryz.prog { locals := [(3, [5, 8, 14, 19, 26, 34, 38, 42, 48, 52, 53, 57, 58, 63, 64, 69, 70, 73, 80])], roots := [(5, 3), (8, 3), (14, 3), (19, 3), (26, 3), (34, 3), (38, 3), (42, 3), (48, 3), (52, 3), (53, 3), (57, 3), (58, 3), (63, 3), (64, 3), (69, 3), (70, 3), (73, 3), (80, 3)], inpl := [], orders := [] } (fun _ => .shared) Tryz.f119 = some c119 := by kernel_rfl
theorem k123 : cFn Tryz.prog { locals := [], roots := [], inpl := [], orders := [] } (fun _ => .shared) Tryz.f123 = some c123 := by kernel_rfl
theorem k127 : cFn Tryz.prog { locals := [], roots := [], inpl := [], orders := [] } (fun _ => .shared) Tryz.f127 = some c127 := by kernel_rfl
theorem k147 : cFn Tryz.prog { locals := [(3, [8]), (7, [])], roots := [(8, 3)], inpl := [], orders := [] } (fun _ => .shared) Tryz.f147 = some c147 := by kernel_rfl
theorem k151 : cFn Tryz.prog { locals := [(1, [])], roots := [], inpl := [], orders := [] } (fun _ => .shared) Tryz.f151 = some c151 := by kernel_rfl
theorem k156 : cFn Tryz.prog { locals := [(4, [7, 10, 14, 19, 24, 31, 36, 41, 49])], roots := [(7, 4), (10, 4), (14, 4), (19, 4), (24, 4), (31, 4), (36, 4), (41, 4), (49, 4)], inpl := [], orders := [] } (fun _ => .shared) Tryz.f156 = some c156 := by kernel_rfl
theorem k161 : cFn Tryz.prog { locals := [], roots := [], inpl := [], orders := [] } (fun _ => .shared) Tryz.f161 = some c161 := by kernel_rfl
theorem k166 : cFn Tryz.prog { locals := [], roots := [], inpl := [], orders := [] } (fun _ => .shared) Tryz.f166 = some c166 := by kernel_rfl
theorem k177 : cFn Tryz.prog { locals := [(3, [9, 30, 32])], roots := [(9, 3), (30, 3), (32, 3)], inpl := [], orders := [] } (fun _ => .shared) Tryz.f177 = some c177 := by kernel_rfl
theorem k195 : cFn Tryz.prog { locals := [], roots := [], inpl := [], orders := [] } (fun _ => .shared) Tryz.f195 = some c195 := by kernel_rfl
theorem k201 : cFn Tryz.prog { locals := [], roots := [], inpl := [], orders := [] } (fun _ => .shared) Tryz.f201 = some c201 := by kernel_rfl
end Go.Proofs.YtkgmeeenacnhfaaGreat.Eng
namespace Go.Proofs.YtkgmeeenacnhfaaGreat.Eng
open Go
theorem k14 : cFn Tryz.prog { locals := [(1, [20, 45, 48, 110]), (2, []), (7, [27, 28, 31]), (9, []), (11, [62, 70, 76, 77, 86]), (12, [88])], roots := [(20, 1), (27, 7), (28, 7), (31, 7), (45, 1), (48, 1), (62, 11), (70, 11), (76, 11), (77, 11), (86, 11), (88, 12), (110, 1)], inpl := [90], orders := [(8, [0, 1, 2, 4, 5, 8, 3, 6, 7])] } (fun _ => .shared) Tryz.f14 = some c14 := by kernel_rfl
theorem k35 : cFn Tryz.prog { locals := [(1, [3])], roots := [(3, 1)], inpl := [], orders := [] } (fun _ => .shared) Tryz.f35 = some c35 := by kernel_rfl
theorem k40 : cFn Tryz.prog { locals := [(2, [5, 11, 18, 25, 32, 39]), (3, [7, 13, 20, 27, 34, 41])], roots := [(5, 2), (7, 3), (11, 2), (13, 3), (18, 2), (20, 3), (25, 2), (27, 3), (32, 2), (34, 3), (39, 2), (41, 3)], inpl := [], orders := [] } (fun _ => .shared) Tryz.f40 = some c40 := by kernel_rfl
theorem k46 : cFn Tryz.prog { locals := [(4, []), (5, [15, 19])], roots := [(15, 5), (19, 5)], inpl := [], orders := [] } (fun _ => .shared) Tryz.f46 = some c46 := by kernel_rfl
theorem k50 : cFn Tryz.prog { locals := [], roots := [], inpl := [], orders := [] } (fun _ => .shared) Tryz.f50 = some c50 := by kernel_rfl
theorem k55 : cFn Tryz.prog { locals := [(1, [10, 13, 16])], roots := [(10, 1), (13, 1), (16, 1)], inpl := [], orders := [(2, [0, 1, 2, 3, 4, 6, 7, 9, 10, 5, 8, 11, 12, 13, 14, 15, 16, 17, 18, 19, 20, 21, 22])] } (fun _ => .shared) Tryz.f55 = some c55 := by kernel_rfl
theorem k59 : cFn Tryz.prog { locals := [(4, []), (6, [])], roots := [], inpl := [], orders := [] } (fun _ => .shared) Tryz.f59 = some c59 := by kernel_rfl
theorem k67 : cFn Tryz.prog { locals := [(1, []), (2, [])], roots := [], inpl := [], orders := [] } (fun _ => .shared) Tryz.f67 = some c67 := by kernel_rfl
theorem k72 : cFn Tryz.prog { locals := [(7, [])], roots := [], inpl := [], orders := [] } (fun _ => .shared) Tryz.f72 = some c72 := by kernel_rfl
theorem k93 : cFn Tryz.prog { locals := [], roots := [], inpl := [], orders := [] } (fun _ => .shared) Tryz.f93 = some c93 := by kernel_rfl
theorem k99 : cFn Tryz.prog { locals := [], roots := [], inpl := [], orders := [] } (fun _ => .shared) Tryz.f99 = some c99 := by kernel_rfl
theorem k103 : cFn Tryz.prog { locals := [(3, [6, 10, 13])], roots := [(6, 3), (10, 3), (13, 3)], inpl := [], orders := [] } (fun _ => .shared) Tryz.f103 = some c103 := by kernel_rfl
theorem k107 : cFn Tryz.prog { locals := [(2, [5, 11, 18, 25, 32, 39]), (3, [7, 13, 20, 27, 34, 41])], roots := [(5, 2), (7, 3), (11, 2), (13, 3), (18, 2), (20, 3), (25, 2), (27, 3), (32, 2), (34, 3), (39, 2), (41, 3)], inpl := [], orders := [] } (fun _ => .shared) Tryz.f107 = some c107 := by kernel_rfl
theorem k111 : cFn Tryz.prog { locals := [], roots := [], inpl := [], orders := [] } (fun _ => .shared) Tryz.f111 = some c111 := by kernel_rfl
theorem k116 : cFn Tryz.prog { locals := [], roots := [], inpl := [], orders := [] } (fun _ => .shared) Tryz.f116 = some c116 := by kernel_rfl
theorem k120 : cFn Tryz.prog { locals := [(1, [3, 5, 7, 9, 11, 13, 15]), (2, [])], roots := [(3, 1), (5, 1), (7, 1), (9, 1), (11, 1), (13, 1), (15, 1)], inpl := [], orders := [] } (fun _ => .shared) Tryz.f120 = some c120 := by kernel_rfl
theorem k124 : cFn Tryz.prog { locals := [(2, [4])], roots := [(4, 2)], inpl := [], orders := [] } (fun _ => .shared) Tryz.f124 = some c124 := by kernel_rfl
theorem k131 : cFn Tryz.prog { locals := [(2, [5, 7, 9, 11]), (4, [])], roots := [(5, 2), (7, 2), (9, 2), (11, 2)], inpl := [], orders := [] } (fun _ => .shared) Tryz.f131 = some c131 := by kernel_rfl
theorem k148 : cFn Tryz.prog { locals := [], roots := [], inpl := [], orders := [] } (fun _ => .shared) Tryz.f148 = some c148 := by kernel_rfl
theorem k152 : cFn Tryz.prog { locals := [], roots := [], inpl := [], orders := [] } (fun _ => .shared) Tryz.f152 = some c152 := by kernel_rfl
theorem k158 : cFn Tryz.prog { locals := [(3, [10, 15, 19, 24, 34, 41, 45, 53, 57, 59, 63, 67, 81, 98, 102, 119, 123, 127, 143, 149, 174, 181, 185, 190, 208, 213, 217])], roots := [(10, 3), (15, 3), (19, 3), (24, 3), (34, 3), (41, 3), (45, 3), (53, 3), (57, 3), (59, 3), (63, 3), (67, 3), (81, 3), (98, 3), (102, 3), (119, 3), (123, 3), (127, 3), (143, 3), (149, 3), (174, 3), (181, 3), (185, 3), (190, 3), (208, 3), (213, 3), (217, 3)], inpl := [], orders := [(8, [0, 1, 2, 3, 4, 5, 6, 7, 10, 11, 8, 9, 12, 13]), (14, [0, 1, 2, 3, 4, 5, 6, 7, 8, 9, 12, 13, 10, 11, 14, 15])] } (fun _ => .shared) Tryz.f158 = some c158 := by kernel_rfl
theorem k162 : cFn Tryz.prog { locals := [], roots := [], inpl := [], orders := [] } (fun _ => .shared) Tryz.f162 = some c162 := by kernel_rfl
theorem k167 : cFn Tryz.prog { locals := [], roots := [], inpl := [], orders := [] } (fun _ => .shared) Tryz.f167 = some c167 := by kernel_rfl
theorem k181 : cFn Tryz.prog { locals := [], roots := [], inpl := [], orders := [] } (fun _ => .shared) Tryz.f181 = some c181 := by kernel_rfl
theorem k197 : cFn Tryz.prog { locals := [(3, [22, 25, 29, 42, 46, 50, 54, 58, 62, 66, 72, 76, 80, 84, 92, 97, 101, 105, 113, 117, 121, 125, 131, 135, 139, 143, 149, 153])], roots := [(22, 3), (25, 3), (29, 3), (42, 3), (46, 3), (50, 3), (54, 3), (58, 3), (62, 3), (66, 3), (72, 3), (76, 3), (80, 3), (84, 3), (92, 3), (97, 3), (101, 3), (105, 3), (113, 3), (117, 3), (121, 3), (125, 3), (131, 3), (135, 3), (139, 3), (143, 3), (149, 3), (153, 3)], inpl := [], orders := [] } (fun _ => .shared) Tryz.f197 = some c197 := by kernel_rfl
theorem k202 : cFn Tryz.prog { locals := [(4, []), (6, [])], roots := [], inpl := [], orders := [] } (fun _ => .shared) Tryz.f202 = some c202 := by kernel_rfl
end Go.Proofs.YtkgmeeenacnhfaaGreat.Eng
namespace Go.Proofs.YtkgmeeenacnhfaaGreat.Eng
open Go
theorem k18 : cFn Tryz.prog { locals := [(1, [12, 19]), (2, [])], roots := [(12, 1), (19, 1)], inpl := [], orders := [] } (fun _ => .shared) Tryz.f18 = some c18 := by kernel_rfl
theorem k36 : cFn Tryz.prog { locals := [(1, [7, 10, 11, 14])], roots := [(7, 1), (10, 1), (11, 1), (14, 1)], inpl := [], orders := [] } (fun _ => .shared) Tryz.f36 = some c36 := by kernel_rfl
theorem k43 : cFn Tryz.prog { locals := [(2, [])], roots := [], inpl := [], orders := [] } (fun _ => .shared) Tryz.f43 = some c43 := by kernel_rfl
theorem k47 : cFn Tryz.prog { locals := [(3, []), (4, [])], roots := [], inpl := [], orders := [] } (fun _ => .shared) Tryz.f47 = some c47 := by kernel_rfl
theorem k51 : cFn Tryz.prog { locals := [(1, [7, 10, 12, 15, 28, 41, 46, 48]), (3, []), (6, [])], roots := [(7, 1), (10, 1), (12, 1), (15, 1), (28, 1), (41, 1), (46, 1), (48, 1)], inpl := [], orders := [] } (fun _ => .shared) Tryz.f51 = some c51 := by kernel_rfl
theorem k56 : cFn Tryz.prog { locals := [(2, [7])], roots := [(7, 2)], inpl := [], orders := [] } (fun _ => .shared) Tryz.f56 = some c56 := by kernel_rfl
theorem k60 : cFn Tryz.prog { locals := [(3, []), (8, [31, 33])], roots := [(31, 8), (33, 8)], inpl := [90], orders := [] } (fun _ => .shared) Tryz.f60 = some c60 := by kernel_rfl
theorem k69 : cFn Tryz.prog { locals := [], roots := [], inpl := [], orders := [] } (fun _ => .shared) Tryz.f69 = some c69 := by kernel_rfl
theorem k73 : cFn Tryz.prog { locals := [(3, [8, 11]), (4, []), (6, []), (7, [48])], roots := [(8, 3), (11, 3), (48, 7)], inpl := [], orders := [] } (fun _ => .shared) Tryz.f73 = some c73 := by kernel_rfl
theorem k96 : cFn Tryz.prog { locals := [], roots := [], inpl := [], orders := [] } (fun _ => .shared) Tryz.f96 = some c96 := by kernel_rfl
theorem k100 : cFn Tryz.prog { locals := [], roots := [], inpl := [], orders := [] } (fun _ => .shared) Tryz.f100 = some c100 := by kernel_rfl
theorem k104 : cFn Tryz.prog { locals := [], roots := [], inpl := [], orders := [] } (fun _ => .shared) Tryz.f104 = some c104 := by kernel_rfl
theorem k108 : cFn Tryz.prog { locals := [], roots := [], inpl := [], orders := [] } (fun _ => .shared) Tryz.f108 = some c108 := by kernel_rfl
theorem k112 : cFn Tryz.prog { locals := [], roots := [], inpl := [], orders := [] } (fun _ => .shared) Tryz.f112 = some c112 := by kernel_rfl
theorem k117 : cFn Tryz.prog { locals := [], roots := [], inpl := [], orders := [] } (fun _ => .shared) Tryz.f117 = some c117 := by kernel_rfl
theorem k121 : cFn Tryz.prog { locals := [(2, [5, 7, 9, 11]), (4, [])], roots := [(5, 2), (7, 2), (9, 2), (11, 2)], inpl := [], orders := [] } (fun _ => .shared) Tryz.f121 = some c121 := by kernel_rfl
theorem k125 : cFn Tryz.prog { locals := [], roots := [], inpl := [], orders := [] } (fun _ => .shared) Tryz.f125 = some c125 := by kernel_rfl
theorem k141 : cFn Tryz.prog { locals := [], roots := [], inpl := [], orders := [] } (fun _ => .shared) Tryz.f141 = some c141 := by kernel_rfl
theorem k149 : cFn Tryz.prog { locals := [(4, [])], roots := [], inpl := [], orders := [] } (fun _ => .shared) Tryz.f149 = some c149 := by kernel_rfl
theorem k153 : cFn Tryz.prog { locals := [(2, [])], roots := [], inpl := [], orders := [] } (fun _ => .shared) Tryz.f153 = some c153 := by kernel_rfl
theorem k159 : cFn Tryz.prog { locals := [(8, []), (9, [])], roots := [], inpl := [], orders := [] } (fun _ => .shared) Tryz.f159 = some c159 := by kernel_rfl
theorem k163 : cFn Tryz.prog { locals := [], roots := [], inpl := [], orders := [] } (fun _ => .shared) Tryz.f163 = some c163 := by kernel_rfl
theorem k170 : cFn Tryz.prog { locals := [], roots := [], inpl := [], orders := [] } (fun _ => .shared) Tryz.f170 = some c170 := by kernel_rfl
theorem k190 : cFn Tryz.prog { locals := [], roots := [], inpl := [], orders := [] } (fun _ => .shared) Tryz.f190 = some c190 := by kernel_rfl
theorem k199 : cFn Tryz.prog { locals := [(7, [])], roots := [], inpl := [], orders := [] } (fun _ => .shared) Tryz.f199 = some c199 := by kernel_rfl
end Go.Proofs.YtkgmeeenacnhfaaGreat.Eng
namespace Go.Proofs.YtkgmeeenacnhfaaGreat.Eng
open Go
theorem bif_some {b : Bool} {x y : Option AFn} {af : AFn} {Q : Prop} (h : (bif b then x else y) = some af) (h1 : x = some af → Q) (h2 : y = some af → Q) : Q := by
  cases b
  · exact h2 h
  · exact h1 h
theorem leaf_some {f k : Nat} {c af : AFn} {Q : Nat → AFn → Prop} (h : (bif Nat.beq f k then some c else none) = some af) (hq : Q k c) : Q f af := by
  cases hb : Nat.beq f k with
  | false => rw [hb] at h; cases h
  | true =>
    rw [hb] at h
    cases h
    rw [Nat.eq_of_beq_eq_true hb]
    exact hq
def TabAt (how : FuncId → How) (f : Nat) (af : AFn) : Prop := ∃ fn A, Tryz.prog.funcs[f]? = some fn ∧ cFn Tryz.prog A how fn = some af
theorem tabF_ok (how : FuncId → How) {f : Nat} {af : AFn} (h : tabF f = some af) : TabAt how f af :=
  bif_some h (fun h => bif_some h (fun h => bif_some h (fun h => bif_some h (fun h => bif_some h (fun h => bif_some h (fun h => leaf_some h ⟨Tryz.f9, _, Tryz.func9, (cFn_any _ _ _ _ _).trans k9⟩) (fun h => bif_some h (fun h => leaf_some h ⟨Tryz.f12, _, Tryz.func12, (cFn_any _ _ _ _ _).trans k12⟩) (fun h => leaf_some h ⟨Tryz.f14, _, Tryz.func14, (cFn_any _ _ _ _ _).trans k14⟩))) (fun h => bif_some h (fun h => leaf_some h ⟨Tryz.f18, _, Tryz.func18, (cFn_any _ _ _ _ _).trans k18⟩) (fun h => bif_some h (fun h => leaf_some h ⟨Tryz.f20, _, Tryz.func20, (cFn_any _ _ _ _ _).trans k20⟩) (fun h => leaf_some h ⟨Tryz.f34, _, Tryz.func34, (cFn_any _ _ _ _ _).trans k34⟩)))) (fun h => bif_some h (fun h => bif_some h (fun h => leaf_some h ⟨Tryz.f35, _, Tryz.func35, (cFn_any _ _ _ _ _).trans k35⟩) (fun h => bif_some h (fun h => leaf_some h ⟨Tryz.f36, _, Tryz.func36, (cFn_any _ _ _ _ _).trans k36⟩) (fun h => leaf_some h ⟨Tryz.f37, _, Tryz.func37, (cFn_any _ _ _ _ _).trans k37⟩))) (fun h => bif_some h (fun h => leaf_some h ⟨Tryz.f38, _, Tryz.func38, (cFn_any _ _ _ _ _).trans k38⟩) (fun h => bif_some h (fun h => leaf_some h ⟨Tryz.f40, _, Tryz.func40, (cFn_any _ _ _ _ _).trans k40⟩) (fun h => leaf_some h ⟨Tryz.f43, _, Tryz.func43, (cFn_any _ _ _ _ _).trans k43⟩))))) (fun h => bif_some h (fun h => bif_some h (fun h => bif_some h (fun h => leaf_some h ⟨Tryz.f44, _, Tryz.func44, (cFn_any _ _ _ _ _).trans k44⟩) (fun h => bif_some h (fun h => leaf_some h ⟨Tryz.f45, _, Tryz.func45, (cFn_any _ _ _ _ _).trans k45⟩) (fun h => leaf_some h ⟨Tryz.f46, _, Tryz.func46, (cFn_any _ _ _ _ _).trans k46⟩))) (fun h => bif_some h (fun h => leaf_some h ⟨Tryz.f47, _, Tryz.func47, (cFn_any _ _ _ _ _).trans k47⟩) (fun h => bif_some h (fun h => leaf_some h ⟨Tryz.f48, _, Tryz.func48, (cFn_any _ _ _ _ _).trans k48⟩) (fun h => leaf_some h ⟨Tryz.f49, _, Tryz.func49, (cFn_any _ _ _ _ _).trans k49⟩)))) (fun h => bif_some h (fun h => bif_some h (fun h => leaf_some h ⟨Tryz.f50, _, Tryz.func50, (cFn_any _ _ _ _ _).trans k50⟩) (fun h => bif_some h (fun h => leaf_some h ⟨Tryz.f51, _, Tryz.func51, (cFn_any _ _ _ _ _).trans k51⟩) (fun h => leaf_some h ⟨Tryz.f52, _, Tryz.func52, (cFn_any _ _ _ _ _).trans k52⟩))) (fun h => bif_some h (fun h => bif_some h (fun h => leaf_some h ⟨Tryz.f54, _, Tryz.func54, (cFn_any _ _ _ _ _).trans k54⟩) (fun h => leaf_some h ⟨Tryz.f55, _, Tryz.func55, (cFn_any _ _ _ _ _).trans k55⟩)) (fun h => bif_some h (fun h => leaf_some h ⟨Tryz.f56, _, Tryz.func56, (cFn_any _ _ _ _ _).trans k56⟩) (fun h => leaf_some h ⟨Tryz.f57, _, Tryz.func57, (cFn_any _ _ _ _ _).trans k57⟩)))))) (fun h => bif_some h (fun h => bif_some h (fun h => bif_some h (fun h => bif_some h (fun h => leaf_some h ⟨Tryz.f58, _, Tryz.func58, (cFn_any _ _ _ _ _).trans k58⟩) (fun h => bif_some h (fun h => leaf_some h ⟨Tryz.f59, _, Tryz.func59, (cFn_any _ _ _ _ _).trans k59⟩) (fun h => leaf_some h ⟨Tryz.f60, _, Tryz.func60, (cFn_any _ _ _ _ _).trans k60⟩))) (fun h => bif_some h (fun h => leaf_some h ⟨Tryz.f65, _, Tryz.func65, (cFn_any _ _ _ _ _).trans k65⟩) (fun h => bif_some h (fun h => leaf_some h ⟨Tryz.f66, _, Tryz.func66, (cFn_any _ _ _ _ _).trans k66⟩) (fun h => leaf_some h ⟨Tryz.f67, _, Tryz.func67, (cFn_any _ _ _ _ _).trans k67⟩)))) (fun h => bif_some h (fun h => bif_some h (fun h => leaf_some h ⟨Tryz.f69, _, Tryz.func69, (cFn_any _ _ _ _ _).trans k69⟩) (fun h => bif_some h (fun h => leaf_some h ⟨Tryz.f70, _, Tryz.func70, (cFn_any _ _ _ _ _).trans k70⟩) (fun h => leaf_some h ⟨Tryz.f71, _, Tryz.func71, (cFn_any _ _ _ _ _).trans k71⟩))) (fun h => bif_some h (fun h => bif_some h (fun h => leaf_some h ⟨Tryz.f72, _, Tryz.func72, (cFn_any _ _ _ _ _).trans k72⟩) (fun h => leaf_some h ⟨Tryz.f73, _, Tryz.func73, (cFn_any _ _ _ _ _).trans k73⟩)) (fun h => bif_some h (fun h => leaf_some h ⟨Tryz.f91, _, Tryz.func91, (cFn_any _ _ _ _ _).trans k91⟩) (fun h => leaf_some h ⟨Tryz.f92, _, Tryz.func92, (cFn_any _ _ _ _ _).trans k92⟩))))) (fun h => bif_some h (fun h => bif_some h (fun h => bif_some h (fun h => leaf_some h ⟨Tryz.f93, _, Tryz.func93, (cFn_any _ _ _ _ _).trans k93⟩) (fun h => bif_some h (fun h => leaf_some h ⟨Tryz.f96, _, Tryz.func96, (cFn_any _ _ _ _ _).trans k96⟩) (fun h => leaf_some h ⟨Tryz.f97, _, Tryz.func97, (cFn_any _ _ _ _ _).trans k97⟩))) (fun h => bif_some h (fun h => leaf_some h ⟨Tryz.f98, _, Tryz.func98, (cFn_any _ _ _ _ _).trans k98⟩) (fun h => bif_some h (fun h => leaf_some h ⟨Tryz.f99, _, Tryz.func99, (cFn_any _ _ _ _ _).trans k99⟩) (fun h => leaf_some h ⟨Tryz.f100, _, Tryz.func100, (cFn_any _ _ _ _ _).trans k100⟩)))) (fun h => bif_some h (fun h => bif_some h (fun h => leaf_some h ⟨Tryz.f101, _, Tryz.func101, (cFn_any _ _ _ _ _).trans k101⟩) (fun h => bif_some h (fun h => leaf_some h ⟨Tryz.f102, _, Tryz.func102, (cFn_any _ _ _ _ _).trans k102⟩) (fun h => leaf_some h ⟨Tryz.f103, _, Tryz.func103, (cFn_any _ _ _ _ _).trans k103⟩))) (fun h => bif_some h (fun h => bif_some h (fun h => leaf_some h ⟨Tryz.f104, _, Tryz.func104, (cFn_any _ _ _ _ _).trans k104⟩) (fun h => leaf_some h ⟨Tryz.f105, _, Tryz.func105, (cFn_any _ _ _ _ _).trans k105⟩)) (fun h => bif_some h (fun h => leaf_some h ⟨Tryz.f106, _, Tryz.func106, (cFn_any _ _ _ _ _).trans k106⟩) (fun h => leaf_some h ⟨Tryz.f107, _, Tryz.func107, (cFn_any _ _ _ _ _).trans k107⟩))))))) (fun h => bif_some h (fun h => bif_some h (fun h => bif_some h (fun h => bif_some h (fun h => bif_some h (fun h => leaf_some h ⟨Tryz.f108, _, Tryz.func108, (cFn_any _ _ _ _ _).trans k108⟩) (fun h => bif_some h (fun h => leaf_some h ⟨Tryz.f109, _, Tryz.func109, (cFn_any _ _ _ _ _).trans k109⟩) (fun h => leaf_some h ⟨Tryz.f110, _, Tryz.func110, (cFn_any _ _ _ _ _).trans k110⟩))) (fun h => bif_some h (fun h => leaf_some h ⟨Tryz.f111, _, Tryz.func111, (cFn_any _ _ _ _ _).trans k111⟩) (fun h => bif_some h (fun h => leaf_some h ⟨Tryz.f112, _, Tryz.func112, (cFn_any _ _ _ _ _).trans k112⟩) (fun h => leaf_some h ⟨Tryz.f114, _, Tryz.func114, (cFn_any _ _ _ _ _).trans k114⟩)))) (fun h => bif_some h (fun h => bif_some h (fun h => leaf_some h ⟨Tryz.f115, _, Tryz.func115, (cFn_any _ _ _ _ _).trans k115⟩) (fun h => bif_some h (fun h => leaf_some h ⟨Tryz.f116, _, Tryz.func116, (cFn_any _ _ _ _ _).trans k116⟩) (fun h => leaf_some h ⟨Tryz.f117, _, Tryz.func117, (cFn_any _ _ _ _ _).trans k117⟩))) (fun h => bif_some h (fun h => bif_some h (fun h => leaf_some h ⟨Tryz.f118, _, Tryz.func118, (cFn_any _ _ _ _ _).trans k118⟩) (fun h => leaf_some h ⟨Tryz.f119, _, Tryz.func119, (cFn_any _ _ _ _ _).trans k119⟩)) (fun h => bif_some h (fun h => leaf_some h ⟨Tryz.f120, _, Tryz.func120, (cFn_any _ _ _ _ _).trans k120⟩) (fun h => leaf_some h ⟨Tryz.f121, _, Tryz.func121, (cFn_any _ _ _ _ _).trans k121⟩))))) (fun h => bif_some h (fun h => bif_some h (fun h => bif_some h (fun h => leaf_some h ⟨Tryz.f122, _, Tryz.func122, (cFn_any _ _ _ _ _).trans k122⟩) (fun h => bif_some h (fun h => leaf_some h ⟨Tryz.f123, _, Tryz.func123, (cFn_any _ _ _ _ _).trans k123⟩) (fun h => leaf_some h ⟨Tryz.f124, _, Tryz.func124, (cFn_any _ _ _ _ _).trans k124⟩))) (fun h => bif_some h (fun h => leaf_some h ⟨Tryz.f125, _, Tryz.func125, (cFn_any _ _ _ _ _).trans k125⟩) (fun h => bif_some h (fun h => leaf_some h ⟨Tryz.f126, _, Tryz.func126, (cFn_any _ _ _ _ _).trans k126⟩) (fun h => leaf_some h ⟨Tryz.f127, _, Tryz.func127, (cFn_any _ _ _ _ _).trans k127⟩)))) (fun h => bif_some h (fun h => bif_some h (fun h => leaf_some h ⟨Tryz.f131, _, Tryz.func131, (cFn_any _ _ _ _ _).trans k131⟩) (fun h => bif_some h (fun h => leaf_some h ⟨Tryz.f141, _, Tryz.func141, (cFn_any _ _ _ _ _).trans k141⟩) (fun h => leaf_some h ⟨Tryz.f142, _, Tryz.func142, (cFn_any _ _ _ _ _).trans k142⟩))) (fun h => bif_some h (fun h => bif_some h (fun h => leaf_some h ⟨Tryz.f147, _, Tryz.func147, (cFn_any _ _ _ _ _).trans k147⟩) (fun h => leaf_some h ⟨Tryz.f148, _, Tryz.func148, (cFn_any _ _ _ _ _).trans k148⟩)) (fun h => bif_some h (fun h => leaf_some h ⟨Tryz.f149, _, Tryz.func149, (cFn_any _ _ _ _ _).trans k149⟩) (fun h => leaf_some h ⟨Tryz.f150, _, Tryz.func150, (cFn_any _ _ _ _ _).trans k150⟩)))))) (fun h => bif_some h (fun h => bif_some h (fun h => bif_some h (fun h => bif_some h (fun h => leaf_some h ⟨Tryz.f151, _, Tryz.func151, (cFn_any _ _ _ _ _).trans k151⟩) (fun h => bif_some h (fun h => leaf_some h ⟨Tryz.f152, _, Tryz.func152, (cFn_any _ _ _ _ _).trans k152⟩) (fun h => leaf_some h ⟨Tryz.f153, _, Tryz.func153, (cFn_any _ _ _ _ _).trans k153⟩))) (fun h => bif_some h (fun h => leaf_some h ⟨Tryz.f154, _, Tryz.func154, (cFn_any _ _ _ _ _).trans k154⟩) (fun h => bif_some h (fun h => leaf_some h ⟨Tryz.f156, _, Tryz.func156, (cFn_any _ _ _ _ _).trans k156⟩) (fun h => leaf_some h ⟨Tryz.f158, _, Tryz.func158, (cFn_any _ _ _ _ _).trans k158⟩)))) (fun h => bif_some h (fun h => bif_some h (fun h => leaf_some h ⟨Tryz.f159, _, Tryz.func159, (cFn_any _ _ _ _ _).trans k159⟩) (fun h => bif_some h (fun h => leaf_some h ⟨Tryz.f160, _, Tryz.func160, (cFn_any _ _ _ _ _).trans k160⟩) (fun h => leaf_some h ⟨Tryz.f161, _, Tryz.func161, (cFn_any _ _ _ _ _).trans k161⟩))) (fun h => bif_some h (fun h => bif_some h (fun h => leaf_some h ⟨Tryz.f162, _, Tryz.func162, (cFn_any _ _ _ _ _).trans k162⟩) (fun h => leaf_some h ⟨Tryz.f163, _, Tryz.func163, (cFn_any _ _ _ _ _).trans k163⟩)) (fun h => bif_some h (fun h => leaf_some h ⟨Tryz.f164, _, Tryz.func164, (cFn_any _ _ _ _ _).trans k164⟩) (fun h => leaf_some h ⟨Tryz.f166, _, Tryz.func166, (cFn_any _ _ _ _ _).trans k166⟩))))) (fun h => bif_some h (fun h => bif_some h (fun h => bif_some h (fun h => leaf_some h ⟨Tryz.f167, _, Tryz.func167, (cFn_any _ _ _ _ _).trans k167⟩) (fun h => bif_some h (fun h => leaf_some h ⟨Tryz.f170, _, Tryz.func170, (cFn_any _ _ _ _ _).trans k170⟩) (fun h => leaf_some h ⟨Tryz.f172, _, Tryz.func172, (cFn_any _ _ _ _ _).trans k172⟩))) (fun h => bif_some h (fun h => leaf_some h ⟨Tryz.f177, _, Tryz.func177, (cFn_any _ _ _ _ _).trans k177⟩) (fun h => bif_some h (fun h => leaf_some h ⟨Tryz.f181, _, Tryz.func181, (cFn_any _ _ _ _ _).trans k181⟩) (fun h => leaf_some h ⟨Tryz.f190, _, Tryz.func190, (cFn_any _ _ _ _ _).trans k190⟩)))) (fun h => bif_some h (fun h => bif_some h (fun h => leaf_some h ⟨Tryz.f193, _, Tryz.func193, (cFn_any _ _ _ _ _).trans k193⟩) (fun h => bif_some h (fun h => leaf_some h ⟨Tryz.f195, _, Tryz.func195, (cFn_any _ _ _ _ _).trans k195⟩) (fun h => leaf_some h ⟨Tryz.f197, _, Tryz.func197, (cFn_any _ _ _ _ _).trans k197⟩))) (fun h => bif_some h (fun h => bif_some h (fun h => leaf_some h ⟨Tryz.f199, _, Tryz.func199, (cFn_any _ _ _ _ _).trans k199⟩) (fun h => leaf_some h ⟨Tryz.f200, _, Tryz.func200, (cFn_any _ _ _ _ _).trans k200⟩)) (fun h => bif_some h (fun h => leaf_some h ⟨Tryz.f201, _, Tryz.func201, (cFn_any _ _ _ _ _).trans k201⟩) (fun h => leaf_some h ⟨Tryz.f202, _, Tryz.func202, (cFn_any _ _ _ _ _).trans k202⟩)))))))
theorem mixed_ok : Tryz.prog.follows .mixedOrders = true := by kernel_rfl
def tb0 : Tbl := { fn := tabF, how := fun _ => .shared }
theorem tok0 : TOK tb0 Tryz.prog := ⟨fun _ _ h => tabF_ok _ h, fun f g h => (by cases h), fun f g h => (by cases h), mixed_ok⟩
theorem enter57 : Enter Tryz.prog 57 := ⟨_, Tryz.func57, by kernel_rfl, by decide +kernel⟩
theorem enter69 : Enter Tryz.prog 69 := ⟨_, Tryz.func69, by kernel_rfl, by decide +kernel⟩
theorem enter70 : Enter Tryz.prog 70 := ⟨_, Tryz.func70, by kernel_rfl, by decide +kernel⟩
theorem enter171 : Enter Tryz.prog 171 := ⟨_, Tryz.func171, by kernel_rfl, by decide +kernel⟩
theorem bif_how {b : Bool} {x y g : How} {Q : Prop} (h : (bif b then x else y) = g) (h1 : b = true → x = g → Q) (h2 : y = g → Q) : Q := by
  cases b
  · exact h2 h
  · exact h1 rfl h
theorem tok : TOK tb Tryz.prog where
  fn _ _ h := tabF_ok _ h
  given f g h := by
    refine bif_how h (fun hb e => ?_) (fun h => bif_how h (fun hb e => ?_) (fun h => bif_how h (fun hb e => ?_) (fun h => bif_how h (fun _ e => (by cases e)) (fun h => bif_how h (fun _ e => (by cases e)) (fun e => (by cases e))))))
    · have := Nat.eq_of_beq_eq_true hb
      subst this
      cases e
      exact ⟨enter57, fun args r hr => clone_ok tok0 (f := 57) (sz := 6) rfl hr _⟩
    · have := Nat.eq_of_beq_eq_true hb
      subst this
      cases e
      exact ⟨enter69, fun args r hr => clone_ok tok0 (f := 69) (sz := 1) rfl hr _⟩
    · have := Nat.eq_of_beq_eq_true hb
      subst this
      cases e
      exact ⟨enter70, fun args r hr => clone_ok tok0 (f := 70) (sz := 2) rfl hr _⟩
  store f g h := by
    refine bif_how h (fun hb e => (by cases e)) (fun h => bif_how h (fun hb e => (by cases e)) (fun h => bif_how h (fun hb e => (by cases e)) (fun h => bif_how h (fun hb e => ?_) (fun h => bif_how h (fun _ e => (by cases e)) (fun e => (by cases e))))))
    have := Nat.eq_of_beq_eq_true hb
    subst this
    cases e
    exact ⟨enter171, fun hr _ _ _ _ _ hs hb ha => keysG_ok hr hs hb ha⟩
  mixed := mixed_ok
end Go.Proofs.YtkgmeeenacnhfaaGreat.Eng
