import Derived.Test.YtkcgolcbhkociaaRows
import Derived.Test.YtkcgolcbhkociaaCodeA
import Derived.Test.YtkcgolcbhkociaaAbDat
import Derived.Test.YtkcgolcbhkociaaAbBridge
/-
  Each function of the given program that has slim code bears just that code: the kernel translates it anew and compares.
-/
namespace Go.Ab

def ns : Names := ⟨[(7, 168), (13, 15), (17, 27), (27, 184), (28, 26), (30, 67), (31, 185), (33, 187), (34, 188), (36, 190), (38, 192), (40, 194), (41, 30), (44, 20), (45, 197), (51, 34), (52, 68), (58, 57), (62, 62), (63, 69), (69, 213), (70, 72), (71, 106), (72, 214), (73, 215), (76, 218), (77, 219), (78, 220), (80, 77), (81, 78), (83, 223), (98, 112), (103, 108), (104, 109), (105, 110), (106, 111), (114, 118), (115, 119), (116, 120), (117, 121), (118, 122), (119, 123), (120, 117), (128, 125), (129, 126), (130, 127), (131, 128), (132, 129), (133, 130), (134, 131), (135, 132), (136, 133), (137, 134), (138, 52), (139, 135), (140, 136), (141, 124), (147, 137), (148, 138), (149, 139), (150, 140), (151, 141), (152, 142), (153, 143), (154, 144), (155, 145), (158, 146), (101, 235), (99, 233), (102, 236)],
  [27, 68, 219, 119, 120, 121, 122, 126, 127, 128, 129, 130, 131, 132, 133, 134, 139, 140, 141], [(233, 7, true), (236, 5, true)], [(235, 5, 64)]⟩

/-- A function's slim code is what its number stands for. -/
def Bears (P : Program) (q : Nat × Nat) : Prop := ∃ fn A af, P.funcs[q.1]? = some fn ∧ compF P ns A fn = some af ∧ AP q.2 = some af
/-- A function that is known by its code's shape. -/
def Bare (P : Program) (q : Nat × Nat) : Prop := (∃ fn b, P.funcs[q.1]? = some fn ∧ fn.body = some b ∧ fn.name ≠ "runtime.NumGoroutine") ∧ AP q.2 = none

theorem b168 : Bears Proofs.Try.prog (7, 168) := ⟨Proofs.Try.f7, ⟨[(6, 6, 0), (8, 8, 0), (51, 6, 1), (79, 6, 0), (90, 8, 1), (100, 8, 4), (112, 6, 1)], [], [], [(0, [0]), (1, [0, 11]), (2, [2]), (3, [0, 14]), (4, [2]), (5, [3]), (6, [3, 20]), (7, [2]), (8, [3, 4]), (9, [3, 4, 24]), (11, [3, 4, 5]), (12, [3, 4, 5, 34]), (14, [3, 4, 5, 6, 7]), (15, [3, 4, 5, 6, 7, 8]), (16, [3, 4, 5, 6, 7, 8, 9]), (17, [3, 4, 5, 6, 7, 8, 9, 67]), (19, [3, 4, 5, 6, 7, 8, 9]), (18, [3, 4, 5, 6, 7, 8, 9]), (20, [3, 4, 5, 116]), (21, [2]), (13, [3, 4, 5]), (10, [3, 4]), (22, [2])], [(9, [3, 4]), (12, [3, 4, 5]), (17, [3, 4, 5, 6, 7, 8, 9])], [], [], [], false, []⟩, g168, Proofs.Try.func7, by kernel_rfl, rfl⟩
theorem b15 : Bears Proofs.Try.prog (13, 15) := ⟨Proofs.Try.f13, ⟨[], [], [], [(0, [0]), (1, [2])], [], [], [], [], false, []⟩, g15, Proofs.Try.func13, by kernel_rfl, rfl⟩
theorem b27 : Bears Proofs.Try.prog (17, 27) := ⟨Proofs.Try.f17, ⟨[(8, 8, 0), (10, 10, 0), (13, 13, 0), (62, 10, 2), (77, 10, 1)], [29, 59], [], [(0, [0, 1, 2, 3, 8]), (1, [0, 1, 2, 3, 8, 9]), (2, [0, 1, 2, 3, 8, 9, 16]), (4, [0, 1, 2, 3, 8, 9, 31]), (6, [0, 1, 2, 3, 8, 9, 39]), (7, [0, 1, 2, 3, 8, 39]), (8, [0, 1, 2, 3, 8, 10]), (9, [0, 1, 2, 3, 8, 10, 11]), (10, [0, 1, 2, 3, 8, 10, 11, 12]), (11, [0, 1, 2, 3, 8, 10, 11, 12, 65]), (13, [0, 1, 2, 3, 8, 10, 11, 12]), (12, [0, 1, 2, 3, 8, 10, 11, 12]), (14, [8]), (5, [8]), (3, [8]), (15, [0, 1, 2, 3, 8, 13]), (16, [8])], [(11, [0, 1, 2, 3, 8, 10, 11, 12])], [], [], [], false, []⟩, g27, Proofs.Try.func17, by kernel_rfl, rfl⟩
theorem b184 : Bears Proofs.Try.prog (27, 184) := ⟨Proofs.Try.f27, ⟨[(1, 1, 0), (3, 3, 0), (14, 1, 0), (19, 1, 1)], [], [], [(1, [1, 2]), (2, [1, 2, 3]), (3, [0])], [], [35], [], [], false, [35]⟩, g184, Proofs.Try.func27, by kernel_rfl, rfl⟩
theorem b26 : Bears Proofs.Try.prog (28, 26) := ⟨Proofs.Try.f28, ⟨[], [], [], [(0, [0, 1]), (1, [0, 1, 6]), (2, [4]), (3, [0, 1]), (4, [0, 1, 11]), (5, [0]), (6, [4])], [], [], [], [], false, []⟩, g26, Proofs.Try.func28, by kernel_rfl, rfl⟩
theorem b67 : Bears Proofs.Try.prog (30, 67) := ⟨Proofs.Try.f30, ⟨[], [], [], [(1, [0])], [], [], [], [], false, []⟩, g67, Proofs.Try.func30, by kernel_rfl, rfl⟩
theorem b185 : Bears Proofs.Try.prog (31, 185) := ⟨Proofs.Try.f31, ⟨[(4, 4, 0), (10, 10, 0), (12, 4, 0), (17, 4, 1), (25, 4, 1), (33, 4, 4), (37, 4, 4)], [], [], [(0, [0, 2, 4]), (1, [0, 2, 4, 13]), (2, [0, 2, 4, 13, 14]), (5, [0, 2, 4, 21]), (6, [0, 2, 4, 7, 8]), (7, [0, 2, 4, 7, 31]), (8, [6]), (9, [0, 2, 4, 36]), (10, [6]), (3, [0, 2, 4, 20]), (4, [6]), (11, [0, 2, 38, 39, 40]), (12, [0, 2, 38, 39, 40, 41]), (13, [0, 2, 10, 38, 39, 40]), (14, [0, 2, 11, 38, 39, 40]), (15, [0, 2, 11, 38, 39, 40, 49]), (16, [6]), (17, [0, 2, 38, 39, 40]), (18, [6])], [(12, [0, 2, 38, 39, 40])], [], [], [], false, []⟩, g185, Proofs.Try.func31, by kernel_rfl, rfl⟩
theorem b187 : Bears Proofs.Try.prog (33, 187) := ⟨Proofs.Try.f33, ⟨[(7, 7, 0), (10, 10, 0), (36, 7, 2), (45, 7, 2), (69, 10, 2), (82, 10, 2), (83, 7, 3), (88, 7, 3)], [], [], [(0, [0]), (1, [3]), (2, [3, 4]), (3, [3, 4, 5]), (4, [3, 4, 5, 6]), (5, [3, 4, 5, 6, 19]), (7, [3, 4, 5, 6, 7]), (8, [3, 4, 5, 6, 7, 8]), (9, [3, 4, 5, 6, 7, 8, 33]), (11, [3, 4, 5, 6, 7, 8]), (10, [3, 4, 5, 6, 7, 8]), (12, [3, 4, 5, 6, 7, 9]), (13, [3, 4, 5, 6, 7, 9, 50]), (15, [3, 4, 5, 6, 7, 9, 10]), (16, [3, 4, 5, 6, 7, 9, 10, 11]), (17, [3, 4, 5, 6, 7, 9, 10, 11, 66]), (19, [3, 4, 5, 6, 7, 9, 10, 11]), (18, [3, 4, 5, 6, 7, 9, 10, 11]), (20, [3, 4, 5, 6, 7, 9]), (14, [3, 4, 5, 6, 7, 9]), (21, [3, 4, 5, 6]), (6, [3, 4, 5, 6]), (22, [2])], [(5, [3, 4, 5, 6]), (9, [3, 4, 5, 6, 7, 8]), (13, [3, 4, 5, 6, 7, 9]), (17, [3, 4, 5, 6, 7, 9, 10, 11])], [72], [], [], false, [72]⟩, g187, Proofs.Try.func33, by kernel_rfl, rfl⟩
theorem b188 : Bears Proofs.Try.prog (34, 188) := ⟨Proofs.Try.f34, ⟨[(2, 2, 0), (6, 6, 0), (11, 11, 0), (13, 13, 0), (15, 15, 0), (17, 17, 0), (29, 6, 1), (33, 6, 1), (35, 6, 2), (45, 6, 2), (54, 6, 0), (57, 6, 3), (65, 11, 1), (68, 11, 0), (72, 11, 1), (82, 13, 3), (89, 15, 2), (98, 13, 2), (104, 15, 0)], [], [], [(0, [0, 2]), (1, [0, 2, 3, 4]), (2, [0, 2, 3, 4, 22, 23, 24]), (3, [0, 2, 3, 4, 22, 23, 24, 25]), (4, [0, 2, 3, 4, 6, 22, 23, 24]), (5, [0, 2, 3, 4, 6, 7, 22, 23, 24]), (6, [0, 2, 3, 4, 6, 7, 22, 23, 24]), (7, [0, 2, 3, 4, 6, 7, 22, 23, 24, 36, 37, 38]), (8, [0, 2, 3, 4, 6, 7, 22, 23, 24, 36, 37, 38, 39]), (9, [0, 2, 3, 4, 6, 7, 8, 9, 22, 23, 24, 36, 37, 38]), (10, [0, 2, 3, 4, 6, 7, 22, 23, 24, 36, 37, 38]), (11, [0, 2, 3, 4, 6, 7, 22, 23, 24, 36, 37, 38]), (12, [0, 2, 3, 4, 6, 22, 23, 24, 53]), (13, [2]), (14, [0, 2, 3, 4, 22, 23, 24, 58, 59, 60]), (15, [0, 2, 3, 4, 22, 23, 24, 58, 59, 60, 61]), (16, [0, 2, 3, 4, 11, 22, 23, 24, 58, 59, 60]), (17, [0, 2, 3, 4, 11, 22, 23, 24, 58, 59, 60, 67]), (18, [2]), (19, [0, 2, 3, 4, 22, 23, 24, 58, 59, 60]), (20, [0, 2, 3, 4, 22, 23, 24, 58, 59, 60]), (21, [0, 2, 3, 4, 22, 23, 24]), (22, [0, 2, 76, 77, 78]), (23, [0, 2, 76, 77, 78, 79]), (24, [0, 2, 13, 76, 77, 78]), (25, [0, 2, 13, 76, 77, 78, 83, 84, 85]), (26, [0, 2, 13, 76, 77, 78, 83, 84, 85, 86]), (27, [0, 2, 13, 15, 76, 77, 78, 83, 84, 85]), (28, [0, 2, 13, 15, 76, 77, 78, 83, 84, 85, 90, 91, 92]), (29, [0, 2, 13, 15, 76, 77, 78, 83, 84, 85, 90, 91, 92, 93]), (30, [0, 2, 13, 15, 17, 76, 77, 78, 83, 84, 85, 90, 91, 92]), (31, [0, 2, 13, 15, 18, 76, 77, 78, 83, 84, 85, 90, 91, 92]), (32, [0, 2, 13, 15, 18, 76, 77, 78, 83, 84, 85, 90, 91, 92, 102]), (33, [2]), (34, [0, 2, 13, 15, 76, 77, 78, 83, 84, 85, 90, 91, 92]), (35, [0, 2, 13, 76, 77, 78, 83, 84, 85]), (36, [0, 2, 76, 77, 78]), (37, [2])], [(3, [0, 2, 3, 4, 22, 23, 24]), (8, [0, 2, 3, 4, 6, 7, 22, 23, 24, 36, 37, 38]), (15, [0, 2, 3, 4, 22, 23, 24, 58, 59, 60]), (23, [0, 2, 76, 77, 78]), (26, [0, 2, 13, 76, 77, 78, 83, 84, 85]), (29, [0, 2, 13, 15, 76, 77, 78, 83, 84, 85, 90, 91, 92])], [], [], [], false, []⟩, g188, Proofs.Try.func34, by kernel_rfl, rfl⟩
theorem b190 : Bears Proofs.Try.prog (36, 190) := ⟨Proofs.Try.f36, ⟨[(8, 8, 0), (10, 10, 0), (18, 8, 3), (26, 10, 1)], [], [], [(0, [0, 1]), (1, [1, 11, 12, 13]), (2, [1, 11, 12, 13, 14]), (3, [1, 7, 8, 11, 12, 13]), (4, [1, 7, 11, 12, 13, 19, 20, 21]), (5, [1, 7, 11, 12, 13, 19, 20, 21, 22]), (6, [1, 7, 9, 10, 11, 12, 13, 19, 20, 21]), (7, [1, 7, 9, 11, 12, 13, 19, 20, 21, 29]), (8, [4, 5, 6]), (9, [1, 7, 11, 12, 13, 19, 20, 21]), (10, [1, 11, 12, 13]), (11, [4, 5, 6])], [(2, [1, 11, 12, 13]), (5, [1, 7, 11, 12, 13, 19, 20, 21])], [], [], [], false, []⟩, g190, Proofs.Try.func36, by kernel_rfl, rfl⟩
theorem b192 : Bears Proofs.Try.prog (38, 192) := ⟨Proofs.Try.f38, ⟨[(14, 14, 0)], [29, 44, 48, 58, 12, 63], [47], [(0, [0, 1, 4]), (1, [0, 4, 6, 7, 8]), (2, [0, 4, 6, 7, 23]), (3, [4, 5]), (4, [4, 7, 9]), (5, [4, 7, 9, 10]), (6, [4, 7, 9, 10, 34, 35]), (7, [4, 7, 9, 10, 34, 35, 36]), (8, [4, 7, 9, 10, 11, 34, 35]), (9, [4, 7, 9, 10, 34, 35]), (10, [4, 7, 9, 10, 34, 35]), (11, [4, 7, 9, 12]), (12, [4, 9, 12, 54]), (13, [4, 9, 12, 14]), (14, [4, 9, 12]), (15, [4, 5])], [(7, [4, 7, 9, 10, 34, 35]), (13, [4, 9, 12, 55, 56])], [], [], [(54, 236)], false, []⟩, g192, Proofs.Try.func38, by kernel_rfl, rfl⟩
theorem b194 : Bears Proofs.Try.prog (40, 194) := ⟨Proofs.Try.f40, ⟨[(1, 1, 0), (2, 2, 0), (3, 3, 0), (5, 1, 0), (9, 1, 1), (14, 1, 4), (19, 1, 4), (23, 1, 4)], [], [], [(0, [1, 2, 3]), (1, [1, 2, 3, 18]), (2, [2, 3, 4]), (3, [2, 3, 4])], [], [], [], [], false, []⟩, g194, Proofs.Try.func40, by kernel_rfl, rfl⟩
theorem b30 : Bears Proofs.Try.prog (41, 30) := ⟨Proofs.Try.f41, ⟨[(1, 1, 0), (4, 1, 0), (9, 1, 2), (13, 1, 2), (18, 1, 1), (23, 1, 3), (28, 1, 4), (35, 1, 2), (39, 1, 2), (44, 1, 3), (49, 1, 3), (54, 1, 1), (59, 1, 4), (66, 1, 2), (70, 1, 3), (75, 1, 4), (81, 1, 1), (87, 1, 2), (91, 1, 3), (96, 1, 4), (102, 1, 4), (109, 1, 1), (113, 1, 4), (119, 1, 4), (123, 1, 1), (127, 1, 4)], [], [], [(0, [1]), (1, [1, 5]), (2, [1, 5, 6]), (3, [1, 5, 6]), (5, [1, 5, 33]), (7, [1, 5, 64]), (9, [1, 85]), (10, [1, 94]), (11, [2]), (12, [1, 3]), (13, [1, 3, 99]), (15, [1, 3, 108]), (16, [2]), (14, [1, 3]), (17, [1, 110]), (18, [1, 110, 111]), (20, [1, 117]), (21, [2]), (19, [2]), (22, [2]), (8, [2]), (6, [2]), (4, [2]), (23, [2])], [(13, [1, 3])], [], [], [], false, []⟩, g30, Proofs.Try.func41, by kernel_rfl, rfl⟩
theorem b20 : Bears Proofs.Try.prog (44, 20) := ⟨Proofs.Try.f44, ⟨[(2, 2, 0), (3, 3, 0), (5, 2, 0), (7, 3, 0), (11, 2, 1), (13, 3, 1), (18, 2, 2), (20, 3, 2), (25, 2, 3), (27, 3, 3), (31, 2, 4), (33, 3, 4)], [], [], [(0, [2, 3]), (1, [2, 3, 30]), (2, [4]), (3, [4])], [], [], [], [], false, []⟩, g20, Proofs.Try.func44, by kernel_rfl, rfl⟩
theorem b197 : Bears Proofs.Try.prog (45, 197) := ⟨Proofs.Try.f45, ⟨[(2, 2, 0), (4, 4, 0), (8, 8, 0), (10, 2, 1), (13, 2, 0), (22, 2, 4), (26, 2, 4), (42, 2, 4)], [32], [12], [(0, [1, 2, 4]), (1, [1, 2, 4, 5]), (2, [1, 2, 4, 5, 19]), (3, [4]), (4, [1, 2, 4, 6]), (5, [1, 2, 4, 6, 27, 28, 29]), (6, [1, 2, 4, 6, 27, 28, 29, 30]), (7, [1, 2, 4, 6, 7, 8, 27, 28, 29]), (8, [1, 2, 4, 6, 27, 28, 29]), (9, [1, 2, 4, 6, 27, 28, 29]), (10, [2, 4]), (11, [4])], [(6, [1, 2, 4, 6, 27, 28, 29])], [], [], [], false, []⟩, g197, Proofs.Try.func45, by kernel_rfl, rfl⟩
theorem b34 : Bears Proofs.Try.prog (51, 34) := ⟨Proofs.Try.f51, ⟨[(0, 0, 0)], [], [], [(0, [0]), (1, [0])], [], [], [], [], false, []⟩, g34, Proofs.Try.func51, by kernel_rfl, rfl⟩
theorem b68 : Bears Proofs.Try.prog (52, 68) := ⟨Proofs.Try.f52, ⟨[], [7, 11, 17, 24, 28], [], [(0, [0, 1]), (1, [0, 1, 14]), (2, [4]), (3, [0, 1]), (4, [4])], [], [], [], [], false, []⟩, g68, Proofs.Try.func52, by kernel_rfl, rfl⟩
theorem b57 : Bears Proofs.Try.prog (58, 57) := ⟨Proofs.Try.f58, ⟨[], [], [], [(0, [0, 1]), (1, [0, 1, 10]), (2, [4]), (3, [0, 1, 5]), (4, [0, 1, 5, 14]), (6, [0, 1, 5, 26]), (7, [4]), (5, [0, 1, 5]), (8, [4])], [(4, [0, 1, 5])], [], [], [], false, []⟩, g57, Proofs.Try.func58, by kernel_rfl, rfl⟩
theorem b62 : Bears Proofs.Try.prog (62, 62) := ⟨Proofs.Try.f62, ⟨[(4, 4, 0)], [], [], [(0, [0, 1, 4]), (1, [4])], [], [], [], [], false, []⟩, g62, Proofs.Try.func62, by kernel_rfl, rfl⟩
theorem b69 : Bears Proofs.Try.prog (63, 69) := ⟨Proofs.Try.f63, ⟨[(2, 2, 0), (3, 3, 0), (4, 4, 0)], [], [], [(0, [2, 3, 4]), (1, [4])], [], [], [], [], false, []⟩, g69, Proofs.Try.func63, by kernel_rfl, rfl⟩
theorem b213 : Bears Proofs.Try.prog (69, 213) := ⟨Proofs.Try.f69, ⟨[(1, 1, 0), (2, 2, 0), (7, 1, 0)], [], [], [(1, [1]), (2, [0])], [], [], [], [], false, [4]⟩, g213, Proofs.Try.func69, by kernel_rfl, rfl⟩
theorem b72 : Bears Proofs.Try.prog (70, 72) := ⟨Proofs.Try.f70, ⟨[(2, 2, 0)], [], [], [(0, [0, 2]), (1, [2])], [], [], [], [], false, []⟩, g72, Proofs.Try.func70, by kernel_rfl, rfl⟩
theorem b106 : Bears Proofs.Try.prog (71, 106) := ⟨Proofs.Try.f71, ⟨[(2, 2, 0)], [], [], [(0, [0, 2]), (1, [2])], [], [], [], [], false, []⟩, g106, Proofs.Try.func71, by kernel_rfl, rfl⟩
theorem b214 : Bears Proofs.Try.prog (72, 214) := ⟨Proofs.Try.f72, ⟨[], [], [], [(0, [0, 1]), (1, [4])], [], [], [], [], false, []⟩, g214, Proofs.Try.func72, by kernel_rfl, rfl⟩
theorem b215 : Bears Proofs.Try.prog (73, 215) := ⟨Proofs.Try.f73, ⟨[(7, 7, 0), (19, 7, 1), (23, 7, 2)], [], [], [(0, [0, 1]), (1, [0, 1, 8]), (2, [0, 1, 8, 9]), (4, [0, 1, 11]), (5, [4, 5]), (3, [4, 5]), (6, [1, 13, 14, 15]), (7, [1, 13, 14, 15, 16]), (8, [1, 7, 13, 14, 15]), (9, [1, 7, 13, 14, 15, 22]), (10, [4, 5]), (11, [1, 13, 14, 15]), (12, [4, 5])], [(7, [1, 13, 14, 15])], [], [], [], false, []⟩, g215, Proofs.Try.func73, by kernel_rfl, rfl⟩
theorem b218 : Bears Proofs.Try.prog (76, 218) := ⟨Proofs.Try.f76, ⟨[(4, 4, 0)], [], [], [(0, [0, 1, 4]), (1, [4])], [], [], [], [], false, []⟩, g218, Proofs.Try.func76, by kernel_rfl, rfl⟩
theorem b219 : Bears Proofs.Try.prog (77, 219) := ⟨Proofs.Try.f77, ⟨[], [], [], [(0, [1]), (1, [2])], [], [], [], [], false, []⟩, g219, Proofs.Try.func77, by kernel_rfl, rfl⟩
theorem b220 : Bears Proofs.Try.prog (78, 220) := ⟨Proofs.Try.f78, ⟨[(2, 2, 0), (3, 3, 0), (4, 4, 0)], [], [], [(0, [2, 3, 4]), (1, [4])], [], [], [], [], false, []⟩, g220, Proofs.Try.func78, by kernel_rfl, rfl⟩
theorem b77 : Bears Proofs.Try.prog (80, 77) := ⟨Proofs.Try.f80, ⟨[], [], [], [(0, [0]), (1, [2])], [], [], [], [], false, []⟩, g77, Proofs.Try.func80, by kernel_rfl, rfl⟩
theorem b78 : Bears Proofs.Try.prog (81, 78) := ⟨Proofs.Try.f81, ⟨[], [], [], [(0, [0]), (1, [2])], [], [], [], [], false, []⟩, g78, Proofs.Try.func81, by kernel_rfl, rfl⟩
theorem b223 : Bears Proofs.Try.prog (83, 223) := ⟨Proofs.Try.f83, ⟨[], [], [], [(0, [0, 1]), (1, [0, 1, 7, 8]), (2, [0, 1, 7, 8, 9]), (3, [0, 1, 5, 7, 8]), (4, [0, 1, 5, 7, 8, 16]), (5, [4]), (6, [0, 1, 7, 8]), (7, [4])], [(2, [0, 1, 7, 8])], [], [], [], false, []⟩, g223, Proofs.Try.func83, by kernel_rfl, rfl⟩
theorem b112 : Bears Proofs.Try.prog (98, 112) := ⟨Proofs.Try.f98, ⟨[(2, 2, 0), (3, 3, 0), (5, 5, 0), (6, 6, 0), (13, 5, 0), (36, 6, 0), (42, 6, 0), (43, 6, 1), (49, 6, 1), (62, 5, 0)], [22, 28, 52, 57], [], [(0, [0, 2, 3]), (1, [2, 3, 4, 5]), (2, [2, 3, 4, 5, 15]), (3, [2, 3]), (4, [2, 3, 4, 5, 6]), (5, [2, 3, 4, 5, 6, 7]), (6, [2, 3, 4, 5, 6, 7, 33]), (7, [2, 3, 4, 5, 6, 7, 35]), (9, [2, 3, 4, 5, 6, 7]), (8, [2, 3, 4, 5, 6, 7]), (10, [2, 3, 5, 6, 7, 53]), (11, [2, 3]), (12, [2, 3, 5, 6]), (13, [2, 3, 5, 6, 64]), (14, [2, 3]), (15, [2, 3])], [(6, [2, 3, 4, 5, 6, 7])], [], [], [], true, []⟩, g112, Proofs.Try.func98, by kernel_rfl, rfl⟩
theorem b108 : Bears Proofs.Try.prog (103, 108) := ⟨Proofs.Try.f103, ⟨[], [], [], [(0, [0]), (1, [0, 3]), (2, [0, 3, 7]), (4, [0, 3, 14]), (5, [2]), (3, [0, 3]), (6, [2])], [(2, [0, 3])], [], [], [], false, []⟩, g108, Proofs.Try.func103, by kernel_rfl, rfl⟩
theorem b109 : Bears Proofs.Try.prog (104, 109) := ⟨Proofs.Try.f104, ⟨[], [], [], [(0, [0]), (1, [2])], [], [], [], [], false, []⟩, g109, Proofs.Try.func104, by kernel_rfl, rfl⟩
theorem b110 : Bears Proofs.Try.prog (105, 110) := ⟨Proofs.Try.f105, ⟨[], [], [], [(0, [0]), (1, [0, 3]), (2, [0, 3, 4]), (3, [0, 3, 4, 9]), (5, [0, 3, 4, 17]), (6, [2]), (4, [0, 3, 4]), (7, [2])], [(3, [0, 3, 4])], [], [], [], false, []⟩, g110, Proofs.Try.func105, by kernel_rfl, rfl⟩
theorem b111 : Bears Proofs.Try.prog (106, 111) := ⟨Proofs.Try.f106, ⟨[], [], [], [(0, [0]), (1, [2])], [], [], [], [], false, []⟩, g111, Proofs.Try.func106, by kernel_rfl, rfl⟩
theorem b118 : Bears Proofs.Try.prog (114, 118) := ⟨Proofs.Try.f114, ⟨[(3, 3, 0)], [], [], [(0, [0, 3]), (1, [0, 3, 11]), (2, [2, 3]), (3, [0, 3, 4]), (4, [0, 3, 4, 5]), (5, [0, 3, 4, 5, 16]), (6, [0, 3, 4, 5, 6]), (7, [0, 3, 4, 5, 6, 7]), (8, [0, 3, 4, 5, 6, 7, 22]), (10, [0, 3, 4, 5, 6, 7, 39]), (13, [0, 3, 4, 5, 6, 7, 54]), (16, [0, 3, 4, 5, 7, 69]), (17, [0, 3, 4, 5, 7]), (14, [0, 3, 4, 5, 7, 66]), (15, [0, 3, 4, 5, 7]), (11, [0, 3, 4, 5, 51]), (12, [0, 3, 4, 5]), (9, [0, 3, 4, 5]), (18, [0, 3, 4, 5, 7, 8]), (19, [0, 3, 4, 5, 7, 8, 92]), (20, [2, 3]), (21, [0, 3, 4, 7]), (22, [0, 3, 4, 5]), (23, [2, 3])], [(5, [0, 3, 4, 5]), (14, [0, 3, 4, 5, 7]), (11, [0, 3, 4, 5])], [], [], [], false, []⟩, g118, Proofs.Try.func114, by kernel_rfl, rfl⟩
theorem b119 : Bears Proofs.Try.prog (115, 119) := ⟨Proofs.Try.f115, ⟨[], [], [], [(0, [0, 1]), (1, [0, 1, 12]), (2, [0, 1]), (3, [4])], [], [], [], [], false, []⟩, g119, Proofs.Try.func115, by kernel_rfl, rfl⟩
theorem b120 : Bears Proofs.Try.prog (116, 120) := ⟨Proofs.Try.f116, ⟨[], [7, 13, 17, 25, 29, 38, 42, 53, 57], [], [(0, [0, 1]), (1, [4])], [], [], [], [], false, []⟩, g120, Proofs.Try.func116, by kernel_rfl, rfl⟩
theorem b121 : Bears Proofs.Try.prog (117, 121) := ⟨Proofs.Try.f117, ⟨[(2, 2, 0), (3, 3, 0), (4, 4, 0), (12, 3, 1), (15, 3, 2), (21, 3, 2), (36, 4, 2), (42, 4, 2), (43, 3, 3), (48, 3, 3)], [26], [], [(0, [0, 2]), (1, [0, 2, 3]), (2, [0, 2, 3]), (3, [0, 2, 3]), (4, [0, 2, 3, 14]), (5, [0, 2, 3]), (6, [0, 2, 3]), (7, [0, 2, 3, 28]), (8, [0, 2, 3, 4]), (9, [0, 2, 3, 4, 35]), (10, [0, 2, 3, 4]), (11, [0, 2, 3]), (12, [0, 2, 3, 51]), (13, [2, 3]), (14, [2])], [(4, [0, 2, 3]), (7, [0, 2, 3]), (9, [0, 2, 3, 4])], [], [], [], false, []⟩, g121, Proofs.Try.func117, by kernel_rfl, rfl⟩
theorem b122 : Bears Proofs.Try.prog (118, 122) := ⟨Proofs.Try.f118, ⟨[(2, 2, 0), (3, 3, 0), (11, 3, 1), (14, 3, 2), (17, 3, 3), (20, 3, 4), (30, 3, 9)], [25], [], [(0, [0, 2]), (1, [0, 2, 3]), (2, [0, 2, 3]), (3, [0, 2, 3]), (4, [0, 2, 3]), (5, [0, 2, 3, 16]), (6, [0, 2, 3]), (7, [0, 2, 3]), (8, [0, 2, 3]), (9, [0, 2, 3, 27]), (10, [0, 2, 3]), (11, [2, 3]), (12, [2])], [], [], [], [], false, []⟩, g122, Proofs.Try.func118, by kernel_rfl, rfl⟩
theorem b123 : Bears Proofs.Try.prog (119, 123) := ⟨Proofs.Try.f119, ⟨[(1, 1, 0), (2, 2, 0), (4, 4, 0), (7, 7, 0), (11, 11, 0), (15, 1, 0), (21, 1, 0), (29, 4, 2), (35, 4, 3), (40, 4, 0), (44, 4, 3), (50, 4, 3), (58, 4, 3), (65, 1, 1), (69, 1, 1), (76, 1, 0), (82, 1, 0), (88, 7, 3), (95, 7, 3), (105, 7, 3), (116, 7, 0), (120, 1, 1), (126, 1, 1), (131, 11, 3), (134, 11, 4), (140, 11, 9), (144, 11, 0), (148, 11, 9)], [], [], [(0, [1, 2]), (1, [1, 2, 3]), (2, [1, 2, 3, 18]), (4, [1, 2, 3, 4]), (5, [1, 2, 3, 4, 39]), (6, [2]), (7, [1, 2, 3, 4, 5]), (8, [1, 2, 3, 4, 5, 47]), (10, [1, 2, 3, 4, 5, 57]), (11, [2]), (9, [1, 2, 3, 4, 5]), (3, [1, 2, 3]), (12, [1, 2, 68]), (13, [2]), (14, [1, 2, 6]), (15, [1, 2, 6, 79]), (17, [1, 2, 6, 7]), (18, [1, 2, 6, 7, 8]), (19, [1, 2, 6, 7, 8, 91]), (21, [1, 2, 6, 7, 8, 9]), (22, [1, 2, 6, 7, 8, 9, 102]), (24, [1, 2, 6, 7, 8, 9, 115]), (25, [2]), (23, [1, 2, 6, 7, 8, 9]), (20, [1, 2, 6, 7, 8]), (16, [1, 2, 6]), (26, [1, 2, 10]), (27, [1, 2, 10, 123]), (29, [1, 2, 10, 11]), (30, [1, 2, 10, 11, 143]), (31, [2]), (32, [1, 2, 10, 12, 13]), (33, [1, 2, 10, 12, 153]), (34, [2]), (28, [1, 2, 10]), (35, [2])], [(2, [1, 2, 3]), (8, [1, 2, 3, 4, 5]), (15, [1, 2, 6]), (19, [1, 2, 6, 7, 8]), (22, [1, 2, 6, 7, 8, 9]), (27, [1, 2, 10])], [], [], [], false, []⟩, g123, Proofs.Try.func119, by kernel_rfl, rfl⟩
theorem b117 : Bears Proofs.Try.prog (120, 117) := ⟨Proofs.Try.f120, ⟨[], [], [], [(0, [0]), (1, [2])], [], [], [], [], false, []⟩, g117, Proofs.Try.func120, by kernel_rfl, rfl⟩
theorem b125 : Bears Proofs.Try.prog (128, 125) := ⟨Proofs.Try.f128, ⟨[], [], [], [(0, [0]), (1, [0, 3]), (3, [0, 6]), (5, [0, 9]), (7, [0, 12]), (9, [15]), (10, [2]), (8, [2]), (6, [2]), (4, [2]), (2, [2]), (11, [2])], [], [], [], [], false, []⟩, g125, Proofs.Try.func128, by kernel_rfl, rfl⟩
theorem b126 : Bears Proofs.Try.prog (129, 126) := ⟨Proofs.Try.f129, ⟨[], [5, 9, 15, 19], [], [(0, [0]), (1, [0, 12]), (2, [2]), (3, [2])], [], [], [], [], false, []⟩, g126, Proofs.Try.func129, by kernel_rfl, rfl⟩
theorem b127 : Bears Proofs.Try.prog (130, 127) := ⟨Proofs.Try.f130, ⟨[], [], [], [(0, [0, 7])], [], [], [], [], false, []⟩, g127, Proofs.Try.func130, by kernel_rfl, rfl⟩
theorem b128 : Bears Proofs.Try.prog (131, 128) := ⟨Proofs.Try.f131, ⟨[], [13, 20, 24], [], [(0, [0, 1]), (1, [0, 8]), (3, [4]), (4, [0]), (5, [4])], [], [], [], [], false, []⟩, g128, Proofs.Try.func131, by kernel_rfl, rfl⟩
theorem b129 : Bears Proofs.Try.prog (132, 129) := ⟨Proofs.Try.f132, ⟨[], [7, 13, 17, 25, 29], [], [(0, [0, 1]), (1, [4])], [], [], [], [], false, []⟩, g129, Proofs.Try.func132, by kernel_rfl, rfl⟩
theorem b130 : Bears Proofs.Try.prog (133, 130) := ⟨Proofs.Try.f133, ⟨[], [], [], [(0, [0]), (1, [2])], [], [], [], [], false, []⟩, g130, Proofs.Try.func133, by kernel_rfl, rfl⟩
theorem b131 : Bears Proofs.Try.prog (134, 131) := ⟨Proofs.Try.f134, ⟨[(2, 2, 0), (3, 3, 0)], [20], [], [(0, [0, 2]), (1, [0, 2, 4]), (3, [0, 2, 10]), (4, [2]), (2, [2]), (5, [0, 2]), (6, [0, 2, 21]), (7, [2]), (8, [0, 2, 3]), (9, [2, 3]), (10, [2])], [], [15], [], [], false, []⟩, g131, Proofs.Try.func134, by kernel_rfl, rfl⟩
theorem b132 : Bears Proofs.Try.prog (135, 132) := ⟨Proofs.Try.f135, ⟨[], [10], [], [(0, [0, 1]), (1, [0, 7]), (3, [4]), (4, [4])], [], [], [], [], false, []⟩, g132, Proofs.Try.func135, by kernel_rfl, rfl⟩
theorem b133 : Bears Proofs.Try.prog (136, 133) := ⟨Proofs.Try.f136, ⟨[(2, 2, 0), (3, 3, 0), (11, 3, 4), (17, 3, 4)], [], [], [(0, [0, 2]), (1, [0, 2, 3]), (2, [0, 2, 3, 5]), (6, [0, 2, 3]), (3, [0, 2, 3]), (4, [0, 2, 3, 10]), (5, [0, 2, 3]), (7, [0, 2, 3, 21]), (8, [2]), (9, [2])], [(4, [0, 2, 3])], [8], [], [], false, []⟩, g133, Proofs.Try.func136, by kernel_rfl, rfl⟩
theorem b134 : Bears Proofs.Try.prog (137, 134) := ⟨Proofs.Try.f137, ⟨[(2, 2, 0), (7, 7, 0), (8, 8, 0), (9, 9, 0), (101, 8, 1)], [21, 41, 50, 71, 77, 81, 89, 93], [], [(0, [0, 2]), (1, [0, 2, 3]), (2, [0, 2, 3, 12]), (8, [0, 2, 3, 30]), (21, [0, 2, 3, 61]), (22, [2]), (9, [0, 2, 3, 5]), (10, [0, 2, 3, 5, 34]), (11, [0, 2, 3, 5]), (12, [0, 2, 3, 5, 6]), (13, [0, 2, 3, 5, 6]), (14, [0, 2, 3, 5, 6, 42]), (15, [2]), (16, [0, 2, 3, 5, 6, 7]), (17, [0, 2, 3, 5, 6, 7]), (18, [0, 2, 3, 5, 6, 7, 51]), (19, [2]), (20, [2]), (3, [0, 2, 3, 4]), (4, [0, 2, 3, 4]), (5, [0, 2, 3, 4, 22]), (6, [2]), (7, [2]), (23, [0, 2, 8]), (24, [0, 2, 8, 98]), (25, [0, 2, 8, 9]), (26, [0, 2, 8]), (27, [2])], [(24, [0, 2, 8])], [], [], [], false, []⟩, g134, Proofs.Try.func137, by kernel_rfl, rfl⟩
theorem b52 : Bears Proofs.Try.prog (138, 52) := ⟨Proofs.Try.f138, ⟨[(1, 1, 0), (6, 1, 4), (13, 1, 4)], [], [], [(0, [1]), (1, [1, 3]), (2, [1, 3, 4]), (3, [1, 3, 4, 9]), (5, [1, 3, 4]), (4, [1, 3, 4]), (6, [2])], [(3, [1, 3, 4])], [], [], [], false, []⟩, g52, Proofs.Try.func138, by kernel_rfl, rfl⟩
theorem b135 : Bears Proofs.Try.prog (139, 135) := ⟨Proofs.Try.f139, ⟨[(1, 1, 0)], [], [], [(0, [1]), (1, [2])], [], [], [], [], false, []⟩, g135, Proofs.Try.func139, by kernel_rfl, rfl⟩
theorem b136 : Bears Proofs.Try.prog (140, 136) := ⟨Proofs.Try.f140, ⟨[(1, 1, 0), (10, 1, 5), (16, 1, 5), (24, 1, 5)], [], [], [(0, [1]), (1, [1, 4]), (2, [1, 4, 13]), (4, [1, 4, 23]), (5, [2, 3]), (3, [1, 4]), (6, [5]), (7, [5, 6]), (8, [5, 6, 35]), (10, [5, 6, 7, 8]), (11, [5, 6, 7, 46]), (12, [2, 3]), (9, [5, 6]), (13, [2, 3])], [(2, [1, 4]), (8, [5, 6])], [], [], [], false, []⟩, g136, Proofs.Try.func140, by kernel_rfl, rfl⟩
theorem b124 : Bears Proofs.Try.prog (141, 124) := ⟨Proofs.Try.f141, ⟨[], [], [], [(0, [0]), (1, [2])], [], [], [], [], false, []⟩, g124, Proofs.Try.func141, by kernel_rfl, rfl⟩
theorem b137 : Bears Proofs.Try.prog (147, 137) := ⟨Proofs.Try.f147, ⟨[], [], [], [(0, [0]), (1, [0, 20]), (2, [2]), (3, [0, 3]), (4, [0, 3, 24]), (6, [0, 3, 31]), (7, [2]), (5, [0, 3]), (8, [2])], [(4, [0, 3])], [], [], [], false, []⟩, g137, Proofs.Try.func147, by kernel_rfl, rfl⟩
theorem b138 : Bears Proofs.Try.prog (148, 138) := ⟨Proofs.Try.f148, ⟨[], [], [], [(0, [0]), (1, [0, 5]), (2, [2]), (3, [0, 3]), (4, [0, 3, 7]), (6, [0, 3, 15]), (7, [2]), (5, [0, 3]), (8, [2])], [(4, [0, 3])], [], [], [], false, []⟩, g138, Proofs.Try.func148, by kernel_rfl, rfl⟩
theorem b139 : Bears Proofs.Try.prog (149, 139) := ⟨Proofs.Try.f149, ⟨[(2, 2, 0), (55, 2, 2), (57, 2, 1)], [5, 13, 17, 24, 28, 38, 44, 48], [], [(0, [0, 6]), (1, [0]), (2, [0, 10]), (4, [0, 35]), (5, [0, 2])], [], [], [], [], false, []⟩, g139, Proofs.Try.func149, by kernel_rfl, rfl⟩
theorem b140 : Bears Proofs.Try.prog (150, 140) := ⟨Proofs.Try.f150, ⟨[(4, 4, 0), (5, 5, 0), (6, 6, 0), (21, 6, 2), (27, 6, 2), (37, 6, 3), (38, 5, 5), (43, 5, 5)], [32], [], [(0, [0, 1, 4]), (1, [0, 4, 5]), (2, [0, 4, 5]), (3, [0, 4, 5, 6]), (4, [0, 4, 5, 6, 20]), (5, [0, 4, 5, 6]), (6, [0, 4, 5, 6]), (7, [0, 4, 5, 6, 33]), (8, [4]), (9, [0, 4, 5, 6]), (10, [0, 4, 5]), (11, [0, 4, 5, 46]), (12, [4, 5]), (13, [4])], [(3, [0, 4, 5]), (4, [0, 4, 5, 6])], [], [], [], false, []⟩, g140, Proofs.Try.func150, by kernel_rfl, rfl⟩
theorem b141 : Bears Proofs.Try.prog (151, 141) := ⟨Proofs.Try.f151, ⟨[(2, 2, 0), (4, 4, 0), (5, 5, 0), (6, 6, 0)], [51], [], [(0, [0, 2]), (1, [0, 2, 3]), (2, [0, 2, 3, 9]), (4, [0, 2, 3, 16]), (6, [0, 2, 3, 23]), (8, [0, 2, 3, 31]), (10, [0, 2, 3, 36]), (11, [0, 2, 3, 4]), (12, [2, 3, 4]), (13, [2]), (9, [2]), (7, [2]), (5, [2]), (3, [2]), (14, [0, 2, 3]), (15, [0, 2, 3, 52]), (16, [2]), (17, [0, 2, 3, 5]), (18, [0, 2, 3, 5, 57]), (19, [0, 2, 3, 5, 6]), (20, [0, 2, 5]), (21, [2, 5]), (22, [2])], [], [], [], [], false, []⟩, g141, Proofs.Try.func151, by kernel_rfl, rfl⟩
theorem b142 : Bears Proofs.Try.prog (152, 142) := ⟨Proofs.Try.f152, ⟨[(1, 1, 0), (3, 1, 0), (11, 1, 1), (15, 1, 1), (20, 1, 1)], [], [], [(0, [1]), (1, [1, 4]), (2, [1, 4, 5]), (3, [1, 4, 5]), (4, [1, 4, 5]), (6, [1, 9]), (7, [2]), (5, [2]), (8, [2])], [], [], [], [], false, []⟩, g142, Proofs.Try.func152, by kernel_rfl, rfl⟩
theorem b143 : Bears Proofs.Try.prog (153, 143) := ⟨Proofs.Try.f153, ⟨[(1, 1, 0)], [], [], [(0, [1]), (1, [1, 3]), (2, [3, 4]), (3, [3, 4, 5]), (4, [3, 4, 5, 11]), (6, [3, 4, 5]), (5, [3, 4, 5]), (7, [2])], [(4, [3, 4, 5])], [], [], [], false, []⟩, g143, Proofs.Try.func153, by kernel_rfl, rfl⟩
theorem b144 : Bears Proofs.Try.prog (154, 144) := ⟨Proofs.Try.f154, ⟨[(1, 1, 0), (5, 1, 0), (9, 1, 6)], [], [], [(0, [1]), (1, [1, 13]), (2, [2]), (3, [3]), (4, [3, 4]), (5, [3, 4, 19]), (7, [3, 4, 26]), (8, [2]), (6, [3, 4]), (9, [2])], [(5, [3, 4])], [], [], [], false, []⟩, g144, Proofs.Try.func154, by kernel_rfl, rfl⟩
theorem b145 : Bears Proofs.Try.prog (155, 145) := ⟨Proofs.Try.f155, ⟨[(1, 1, 0), (5, 1, 4), (9, 1, 5), (16, 1, 5)], [], [], [(0, [1]), (1, [1, 3]), (2, [1, 3, 4]), (3, [1, 3, 4, 12]), (5, [1, 3, 4]), (4, [1, 3, 4]), (6, [2])], [(3, [1, 3, 4])], [], [], [], false, []⟩, g145, Proofs.Try.func155, by kernel_rfl, rfl⟩
theorem b146 : Bears Proofs.Try.prog (158, 146) := ⟨Proofs.Try.f158, ⟨[], [], [], [(0, [0]), (1, [0, 3]), (2, [0, 3, 4]), (3, [0, 3, 4, 8]), (5, [0, 3, 4]), (4, [0, 3, 4]), (6, [2])], [(3, [0, 3, 4])], [], [], [], false, []⟩, g146, Proofs.Try.func158, by kernel_rfl, rfl⟩
theorem b235 : Bare Proofs.Try.prog (101, 235) := ⟨⟨Proofs.Try.f101, bodyOf Proofs.Try.f101, Proofs.Try.func101, by kernel_rfl, by decide⟩, rfl⟩
theorem b233 : Bare Proofs.Try.prog (99, 233) := ⟨⟨Proofs.Try.f99, bodyOf Proofs.Try.f99, Proofs.Try.func99, by kernel_rfl, by decide⟩, rfl⟩
theorem b236 : Bare Proofs.Try.prog (102, 236) := ⟨⟨Proofs.Try.f102, bodyOf Proofs.Try.f102, Proofs.Try.func102, by kernel_rfl, by decide⟩, rfl⟩

theorem all_bear : ∀ q ∈ ns.g, Bears Proofs.Try.prog q ∨ Bare Proofs.Try.prog q := by
  intro q hq
  simp only [ns, List.mem_cons, List.not_mem_nil, or_false] at hq
  rcases hq with rfl | rfl | rfl | rfl | rfl | rfl | rfl | rfl | rfl | rfl | rfl | rfl | rfl | rfl | rfl | rfl | rfl | rfl | rfl | rfl | rfl | rfl | rfl | rfl | rfl | rfl | rfl | rfl | rfl | rfl | rfl | rfl | rfl | rfl | rfl | rfl | rfl | rfl | rfl | rfl | rfl | rfl | rfl | rfl | rfl | rfl | rfl | rfl | rfl | rfl | rfl | rfl | rfl | rfl | rfl | rfl | rfl | rfl | rfl | rfl | rfl | rfl | rfl | rfl | rfl | rfl | rfl | rfl | rfl | rfl
  · exact .inl b168
  · exact .inl b15
  · exact .inl b27
  · exact .inl b184
  · exact .inl b26
  · exact .inl b67
  · exact .inl b185
  · exact .inl b187
  · exact .inl b188
  · exact .inl b190
  · exact .inl b192
  · exact .inl b194
  · exact .inl b30
  · exact .inl b20
  · exact .inl b197
  · exact .inl b34
  · exact .inl b68
  · exact .inl b57
  · exact .inl b62
  · exact .inl b69
  · exact .inl b213
  · exact .inl b72
  · exact .inl b106
  · exact .inl b214
  · exact .inl b215
  · exact .inl b218
  · exact .inl b219
  · exact .inl b220
  · exact .inl b77
  · exact .inl b78
  · exact .inl b223
  · exact .inl b112
  · exact .inl b108
  · exact .inl b109
  · exact .inl b110
  · exact .inl b111
  · exact .inl b118
  · exact .inl b119
  · exact .inl b120
  · exact .inl b121
  · exact .inl b122
  · exact .inl b123
  · exact .inl b117
  · exact .inl b125
  · exact .inl b126
  · exact .inl b127
  · exact .inl b128
  · exact .inl b129
  · exact .inl b130
  · exact .inl b131
  · exact .inl b132
  · exact .inl b133
  · exact .inl b134
  · exact .inl b52
  · exact .inl b135
  · exact .inl b136
  · exact .inl b124
  · exact .inl b137
  · exact .inl b138
  · exact .inl b139
  · exact .inl b140
  · exact .inl b141
  · exact .inl b142
  · exact .inl b143
  · exact .inl b144
  · exact .inl b145
  · exact .inl b146
  · exact .inr b235
  · exact .inr b233
  · exact .inr b236

theorem u235 : ∀ q ∈ ns.g, q.2 = 235 → q.1 = 101 := by decide +kernel
theorem clone235 : Nonempty (CloneDat Proofs.Try.prog ns 101 5 64) := ⟨
  { fn := Proofs.Try.f101, A := ⟨[], [], [], [], [], [], [], [], false, []⟩, t := (binTypes (operOf Proofs.Try.f101 1 1)).1, el := elOf Proofs.Try.prog (binTypes (operOf Proofs.Try.f101 1 1)).1, ty := (binTypes (operOf Proofs.Try.f101 1 1)).2,
    o0 := operOf Proofs.Try.f101 0 0, m := operOf Proofs.Try.f101 1 0, e := operOf Proofs.Try.f101 1 1, o2 := operOf Proofs.Try.f101 2 0, b := operOf Proofs.Try.f101 3 0, m3 := operOf Proofs.Try.f101 3 1, ap := operOf Proofs.Try.f101 3 2, fi := operOf Proofs.Try.f101 3 3,
    r0 := regNo Proofs.Try.f101 0, r1 := regNo Proofs.Try.f101 1, r2 := regNo Proofs.Try.f101 2, r3 := regNo Proofs.Try.f101 3,
    hf := Proofs.Try.func101, hbody := by kernel_rfl, hres := by kernel_rfl, hN := by kernel_rfl, h0 := ⟨by kernel_rfl, by kernel_rfl, by kernel_rfl⟩, h1 := ⟨by kernel_rfl, by kernel_rfl, by kernel_rfl⟩, h2 := ⟨by kernel_rfl, by kernel_rfl, by kernel_rfl⟩, hu := by kernel_rfl, h3 := ⟨by kernel_rfl, by kernel_rfl, by kernel_rfl⟩, h4 := ⟨by kernel_rfl, by kernel_rfl, by kernel_rfl⟩, h5 := ⟨by kernel_rfl, by kernel_rfl, by kernel_rfl⟩, h6 := ⟨by kernel_rfl, by kernel_rfl, by kernel_rfl⟩, h7 := ⟨by kernel_rfl, by kernel_rfl, by kernel_rfl⟩ }⟩

theorem u233 : ∀ q ∈ ns.g, q.2 = 233 → q.1 = 99 := by decide +kernel
theorem back233 : Nonempty (BackDat Proofs.Try.prog ns 99 7 true) := ⟨
  { fn := Proofs.Try.f99, A := ⟨[], [], [], [], [], [], [], [], false, []⟩, o0 := regOf Proofs.Try.f99 0, o1 := regOf Proofs.Try.f99 1, o2 := regOf Proofs.Try.f99 3,
    m0 := operOf Proofs.Try.f99 2 0, as3 := ((regOf Proofs.Try.f99 2).toList.drop 1).take 5, y := operOf Proofs.Try.f99 2 6, nt := operOf Proofs.Try.f99 2 7,
    r0 := regNo Proofs.Try.f99 0, r1 := regNo Proofs.Try.f99 1, r2 := regNo Proofs.Try.f99 3, r3 := regNo Proofs.Try.f99 2, b0 := blockNo Proofs.Try.f99 0, b1 := blockNo Proofs.Try.f99 1,
    types := typesOf (operOf Proofs.Try.f99 2 6), tb := unType (operOf Proofs.Try.f99 2 7),
    hf := Proofs.Try.func99, hbody := by kernel_rfl, hres := by kernel_rfl, hN := by kernel_rfl, c0 := by kernel_rfl, c1 := by kernel_rfl, c2 := by kernel_rfl, h0 := ⟨by kernel_rfl, by kernel_rfl, by kernel_rfl⟩, c3 := by kernel_rfl, hy := ⟨by kernel_rfl, by kernel_rfl, by kernel_rfl⟩, hn := ⟨by kernel_rfl, by kernel_rfl, by kernel_rfl⟩ }⟩

theorem u236 : ∀ q ∈ ns.g, q.2 = 236 → q.1 = 102 := by decide +kernel
theorem back236 : Nonempty (BackDat Proofs.Try.prog ns 102 5 true) := ⟨
  { fn := Proofs.Try.f102, A := ⟨[], [], [], [], [], [], [], [], false, []⟩, o0 := regOf Proofs.Try.f102 0, o1 := regOf Proofs.Try.f102 1, o2 := regOf Proofs.Try.f102 3,
    m0 := operOf Proofs.Try.f102 2 0, as3 := ((regOf Proofs.Try.f102 2).toList.drop 1).take 5, y := operOf Proofs.Try.f102 2 6, nt := operOf Proofs.Try.f102 2 7,
    r0 := regNo Proofs.Try.f102 0, r1 := regNo Proofs.Try.f102 1, r2 := regNo Proofs.Try.f102 3, r3 := regNo Proofs.Try.f102 2, b0 := blockNo Proofs.Try.f102 0, b1 := blockNo Proofs.Try.f102 1,
    types := typesOf (operOf Proofs.Try.f102 2 6), tb := unType (operOf Proofs.Try.f102 2 7),
    hf := Proofs.Try.func102, hbody := by kernel_rfl, hres := by kernel_rfl, hN := by kernel_rfl, c0 := by kernel_rfl, c1 := by kernel_rfl, c2 := by kernel_rfl, h0 := ⟨by kernel_rfl, by kernel_rfl, by kernel_rfl⟩, c3 := by kernel_rfl, hy := ⟨by kernel_rfl, by kernel_rfl, by kernel_rfl⟩, hn := ⟨by kernel_rfl, by kernel_rfl, by kernel_rfl⟩ }⟩

theorem look_memI {α : Type} {t : Nat} {v : α} : ∀ {l : List (Nat × α)}, look l t = some v → (t, v) ∈ l
  | [], h => by simp [look] at h
  | (k, u) :: r, h => by
    simp only [look] at h
    split at h
    · rename_i e; cases h; subst e; exact List.mem_cons_self
    · exact List.mem_cons_of_mem _ (look_memI h)

theorem backs_ok : BacksOk Proofs.Try.prog ns := by
  intro gb sz ag h f hf
  simp only [ns, look] at h
  split at h
  · rename_i e; subst e; cases h
    have := u233 (f, 233) (look_memI hf) rfl
    simp only at this; subst this; exact back233
  split at h
  · rename_i e; subst e; cases h
    have := u236 (f, 236) (look_memI hf) rfl
    simp only at this; subst this; exact back236
  cases h

theorem clones_ok : ∀ g sz bytes f, look ns.cl g = some (sz, bytes) → ns.of f = some g → Nonempty (CloneDat Proofs.Try.prog ns f sz bytes) := by
  intro g sz bytes f h hf
  simp only [ns, look] at h
  split at h
  · rename_i e; subst e; cases h
    have := u235 (f, 235) (look_memI hf) rfl
    simp only at this; subst this; exact clone235
  cases h

theorem impl : Impl Proofs.Try.prog ns AP := ⟨by kernel_rfl, fun f g h => (all_bear (f, g) (look_memI h)).imp id fun ⟨h1, h2⟩ => ⟨h1, .inl h2⟩, backs_ok, clones_ok⟩

end Go.Ab
