import Derived.Test.YtkcgolcbhkociaaRows
import Derived.Test.YtkcgolcbhkociaaCodeA
import Derived.Test.YtkcgolcbhkociaaAbDat
import Derived.Test.YtkcgolcbhkociaaAbBridge
/-
  Each function of the given program that has slim code bears just that code: the kernel translates it anew and compares.
-/
namespace Go.Ab

def ns : Names := ⟨[(10, 171), (12, 173), (13, 15), (14, 174), (15, 175), (16, 176), (17, 27), (18, 32), (19, 70), (21, 178), (23, 180), (24, 181), (25, 182), (26, 183), (28, 26), (44, 20), (49, 201), (50, 202), (51, 34), (52, 68), (53, 203), (54, 204), (55, 205), (58, 57), (59, 63), (60, 71), (61, 208), (62, 62), (63, 69), (64, 79), (66, 210), (67, 211), (68, 212), (70, 72), (71, 106), (80, 77), (81, 78), (87, 48), (88, 227), (89, 228), (90, 229), (91, 230), (92, 231), (93, 232), (95, 56), (96, 95), (97, 46), (98, 112), (100, 234), (103, 108), (104, 109), (105, 110), (106, 111), (108, 237), (109, 238), (110, 33), (113, 99), (114, 118), (115, 119), (116, 120), (117, 121), (118, 122), (119, 123), (120, 117), (124, 239), (125, 49), (126, 240), (127, 35), (128, 125), (129, 126), (130, 127), (131, 128), (132, 129), (133, 130), (134, 131), (135, 132), (136, 133), (137, 134), (138, 52), (139, 135), (140, 136), (141, 124), (143, 80), (144, 81), (145, 82), (146, 83), (147, 137), (148, 138), (149, 139), (150, 140), (151, 141), (152, 142), (153, 143), (154, 144), (155, 145), (156, 113), (157, 114), (158, 146), (101, 235), (99, 233), (102, 236)],
  [174, 175, 27, 68, 210, 211, 212, 227, 234, 119, 120, 121, 122, 239, 240, 126, 127, 128, 129, 130, 131, 132, 133, 134, 83, 139, 140, 141], [(233, 7, true), (236, 5, true)], [(235, 5, 64)]⟩

/-- A function's slim code is what its number stands for. -/
def Bears (P : Program) (q : Nat × Nat) : Prop := ∃ fn A af, P.funcs[q.1]? = some fn ∧ compF P ns A fn = some af ∧ AP q.2 = some af
/-- A function that is known by its code's shape. -/
def Bare (P : Program) (q : Nat × Nat) : Prop := (∃ fn b, P.funcs[q.1]? = some fn ∧ fn.body = some b ∧ fn.name ≠ "runtime.NumGoroutine") ∧ AP q.2 = none

theorem b171 : Bears Proofs.Try.prog (10, 171) := ⟨Proofs.Try.f10, ⟨[(9, 9, 0)], [40, 51], [168], [(0, [0, 1]), (1, [0, 1, 18]), (2, [4]), (3, [0, 1, 21]), (4, [4]), (5, [0, 5]), (6, [0, 5, 6]), (7, [0, 5, 6, 7]), (8, [0, 5, 6, 7, 8]), (9, [0, 5, 6, 7, 8, 33]), (11, [0, 5, 6, 7, 8, 9]), (12, [0, 5, 6, 7, 8, 9, 58]), (13, [0, 5, 6, 7, 8]), (10, [0, 5, 6, 7, 8]), (14, [6, 7, 11]), (15, [6, 7, 12]), (16, [6, 7, 12, 13]), (17, [6, 7, 12, 13, 77]), (19, [6, 7, 12, 13, 14]), (20, [6, 7, 12, 13, 14, 83]), (22, [6, 7, 12, 13, 14, 15]), (23, [6, 7, 12, 13, 14, 15, 135]), (24, [4]), (25, [6, 7, 12, 13, 14, 15, 16]), (26, [6, 7, 12, 13, 14, 15, 16, 139]), (28, [6, 7, 12, 13, 14, 15, 16, 165]), (29, [4]), (27, [6, 7, 12, 13, 14, 15, 16]), (21, [6, 7, 12, 13, 14]), (18, [6, 7, 12, 13]), (30, [4])], [(9, [0, 5, 6, 7, 8]), (17, [6, 7, 12, 13]), (20, [6, 7, 12, 13, 14]), (26, [6, 7, 12, 13, 14, 15, 16])], [], [], [], false, [], [29], [(14, [7])]⟩, g171, Proofs.Try.func10, by kernel_rfl, rfl⟩
theorem b173 : Bears Proofs.Try.prog (12, 173) := ⟨Proofs.Try.f12, ⟨[(1, 1, 0), (2, 2, 0), (3, 3, 0), (6, 6, 0)], [], [], [(1, [1, 2, 3]), (2, [3, 4]), (3, [3, 4, 5]), (4, [3, 4, 5, 6, 7]), (5, [0])], [], [], [], [], false, [], [], []⟩, g173, Proofs.Try.func12, by kernel_rfl, rfl⟩
theorem b15 : Bears Proofs.Try.prog (13, 15) := ⟨Proofs.Try.f13, ⟨[], [], [], [(0, [0]), (1, [2])], [], [], [], [], false, [], [], []⟩, g15, Proofs.Try.func13, by kernel_rfl, rfl⟩
theorem b174 : Bears Proofs.Try.prog (14, 174) := ⟨Proofs.Try.f14, ⟨[(7, 7, 0), (8, 8, 0)], [], [], [(0, [0, 1]), (1, [0, 1, 5]), (2, [0, 1, 5, 6]), (3, [0, 1, 5, 6, 12]), (5, [0, 1, 5, 6, 7]), (6, [0, 1, 5, 6, 7, 8]), (7, [0, 1, 5, 6, 7, 8, 27]), (8, [0, 1, 5, 6, 8]), (9, [0, 1, 5, 6]), (4, [0, 1, 5, 6]), (10, [4])], [(3, [0, 1, 5, 6])], [18], [], [], false, [], [], []⟩, g174, Proofs.Try.func14, by kernel_rfl, rfl⟩
theorem b175 : Bears Proofs.Try.prog (15, 175) := ⟨Proofs.Try.f15, ⟨[], [], [], [(0, [0]), (1, [2])], [], [], [], [], false, [], [], []⟩, g175, Proofs.Try.func15, by kernel_rfl, rfl⟩
theorem b176 : Bears Proofs.Try.prog (16, 176) := ⟨Proofs.Try.f16, ⟨[(1, 1, 0), (2, 2, 0)], [], [], [(0, [1, 2]), (1, [2])], [], [], [], [], false, [], [], []⟩, g176, Proofs.Try.func16, by kernel_rfl, rfl⟩
theorem b27 : Bears Proofs.Try.prog (17, 27) := ⟨Proofs.Try.f17, ⟨[(8, 8, 0), (10, 10, 0), (13, 13, 0), (62, 10, 2), (77, 10, 1)], [29, 59], [], [(0, [0, 1, 2, 3, 8]), (1, [0, 1, 2, 3, 8, 9]), (2, [0, 1, 2, 3, 8, 9, 16]), (4, [0, 1, 2, 3, 8, 9, 31]), (6, [0, 1, 2, 3, 8, 9, 39]), (7, [0, 1, 2, 3, 8, 39]), (8, [0, 1, 2, 3, 8, 10]), (9, [0, 1, 2, 3, 8, 10, 11]), (10, [0, 1, 2, 3, 8, 10, 11, 12]), (11, [0, 1, 2, 3, 8, 10, 11, 12, 65]), (13, [0, 1, 2, 3, 8, 10, 11, 12]), (12, [0, 1, 2, 3, 8, 10, 11, 12]), (14, [8]), (5, [8]), (3, [8]), (15, [0, 1, 2, 3, 8, 13]), (16, [8])], [(11, [0, 1, 2, 3, 8, 10, 11, 12])], [], [], [], false, [], [], []⟩, g27, Proofs.Try.func17, by kernel_rfl, rfl⟩
theorem b32 : Bears Proofs.Try.prog (18, 32) := ⟨Proofs.Try.f18, ⟨[], [], [], [(0, [0]), (1, [0, 3]), (2, [0, 3, 4]), (3, [0, 3, 4, 14]), (4, [0, 3, 4]), (5, [0, 3, 4, 5]), (6, [0, 3, 4, 5, 24]), (8, [0, 3, 4, 5, 36]), (9, [0, 3, 4, 5]), (7, [0, 3, 4, 5]), (10, [2])], [(6, [0, 3, 4, 5])], [], [], [], false, [], [], []⟩, g32, Proofs.Try.func18, by kernel_rfl, rfl⟩
theorem b70 : Bears Proofs.Try.prog (19, 70) := ⟨Proofs.Try.f19, ⟨[], [], [], [(0, [0]), (1, [0, 3]), (2, [0, 3, 4]), (3, [0, 3, 4, 7]), (5, [0, 3, 4]), (4, [0, 3, 4]), (6, [2])], [(3, [0, 3, 4])], [], [], [], false, [], [], []⟩, g70, Proofs.Try.func19, by kernel_rfl, rfl⟩
theorem b178 : Bears Proofs.Try.prog (21, 178) := ⟨Proofs.Try.f21, ⟨[], [], [], [(0, [0, 1]), (1, [0, 1, 10]), (2, [4]), (3, [0, 1, 5]), (4, [0, 1, 5, 14]), (6, [0, 1, 5, 41]), (7, [4]), (5, [0, 1, 5]), (8, [4])], [(4, [0, 1, 5])], [], [], [], false, [], [], []⟩, g178, Proofs.Try.func21, by kernel_rfl, rfl⟩
theorem b180 : Bears Proofs.Try.prog (23, 180) := ⟨Proofs.Try.f23, ⟨[(7, 7, 0), (12, 7, 0), (16, 7, 1)], [3], [], [(0, [0, 3, 4, 5]), (1, [3, 4, 5, 9]), (2, [3, 4, 5, 7]), (3, [3, 4, 5, 7, 15]), (4, [4, 5]), (5, [4, 5])], [(2, [3, 4, 5, 10, 11])], [], [], [(9, 233)], false, [], [], []⟩, g180, Proofs.Try.func23, by kernel_rfl, rfl⟩
theorem b181 : Bears Proofs.Try.prog (24, 181) := ⟨Proofs.Try.f24, ⟨[(4, 4, 0)], [], [], [(0, [0, 1, 4]), (1, [0, 1, 4, 6]), (2, [0, 1, 4, 6, 11]), (4, [0, 1, 4, 6, 20]), (5, [4, 5]), (3, [0, 1, 4, 6]), (6, [4, 5])], [(2, [0, 1, 4, 6])], [], [], [], false, [], [], []⟩, g181, Proofs.Try.func24, by kernel_rfl, rfl⟩
theorem b182 : Bears Proofs.Try.prog (25, 182) := ⟨Proofs.Try.f25, ⟨[], [5], [], [(0, [0]), (1, [0, 3]), (2, [0, 3, 6, 7, 8]), (3, [0, 3, 6, 7, 8, 9]), (4, [0, 3, 4, 5, 6, 7, 8]), (5, [0, 3, 5, 6, 7, 8, 19]), (6, [0, 3, 6, 7, 8]), (7, [0, 3, 6, 7, 8]), (8, [2])], [(3, [0, 3, 6, 7, 8])], [], [], [], false, [], [], []⟩, g182, Proofs.Try.func25, by kernel_rfl, rfl⟩
theorem b183 : Bears Proofs.Try.prog (26, 183) := ⟨Proofs.Try.f26, ⟨[(2, 2, 0), (3, 3, 0), (5, 2, 0), (7, 3, 0), (11, 2, 1), (13, 3, 1)], [], [], [(0, [2, 3]), (1, [4])], [], [], [], [], false, [], [], []⟩, g183, Proofs.Try.func26, by kernel_rfl, rfl⟩
theorem b26 : Bears Proofs.Try.prog (28, 26) := ⟨Proofs.Try.f28, ⟨[], [], [], [(0, [0, 1]), (1, [0, 1, 6]), (2, [4]), (3, [0, 1]), (4, [0, 1, 11]), (5, [0]), (6, [4])], [], [], [], [], false, [], [], []⟩, g26, Proofs.Try.func28, by kernel_rfl, rfl⟩
theorem b20 : Bears Proofs.Try.prog (44, 20) := ⟨Proofs.Try.f44, ⟨[(2, 2, 0), (3, 3, 0), (5, 2, 0), (7, 3, 0), (11, 2, 1), (13, 3, 1), (18, 2, 2), (20, 3, 2), (25, 2, 3), (27, 3, 3), (31, 2, 4), (33, 3, 4)], [], [], [(0, [2, 3]), (1, [2, 3, 30]), (2, [4]), (3, [4])], [], [], [], [], false, [], [], []⟩, g20, Proofs.Try.func44, by kernel_rfl, rfl⟩
theorem b201 : Bears Proofs.Try.prog (49, 201) := ⟨Proofs.Try.f49, ⟨[(5, 5, 0)], [], [], [(0, [0]), (1, [0, 3]), (2, [0, 3, 4]), (3, [0, 3, 4, 10]), (5, [0, 3, 4, 6]), (6, [0, 3, 4, 27]), (7, [0, 3, 4]), (4, [0, 3, 4]), (8, [2])], [(3, [0, 3, 4])], [], [], [], false, [], [], []⟩, g201, Proofs.Try.func49, by kernel_rfl, rfl⟩
theorem b202 : Bears Proofs.Try.prog (50, 202) := ⟨Proofs.Try.f50, ⟨[(2, 2, 0), (4, 4, 0), (8, 2, 0), (12, 2, 1)], [], [], [(0, [1, 2, 4]), (1, [1, 2, 4, 10]), (2, [4, 5]), (3, [4, 5])], [], [], [], [], false, [], [], []⟩, g202, Proofs.Try.func50, by kernel_rfl, rfl⟩
theorem b34 : Bears Proofs.Try.prog (51, 34) := ⟨Proofs.Try.f51, ⟨[(0, 0, 0)], [], [], [(0, [0]), (1, [0])], [], [], [], [], false, [], [], []⟩, g34, Proofs.Try.func51, by kernel_rfl, rfl⟩
theorem b68 : Bears Proofs.Try.prog (52, 68) := ⟨Proofs.Try.f52, ⟨[], [7, 11, 17, 24, 28], [], [(0, [0, 1]), (1, [0, 1, 14]), (2, [4]), (3, [0, 1]), (4, [4])], [], [], [], [], false, [], [], []⟩, g68, Proofs.Try.func52, by kernel_rfl, rfl⟩
theorem b203 : Bears Proofs.Try.prog (53, 203) := ⟨Proofs.Try.f53, ⟨[], [], [], [(0, [0, 1]), (1, [4])], [], [], [], [], false, [], [], []⟩, g203, Proofs.Try.func53, by kernel_rfl, rfl⟩
theorem b204 : Bears Proofs.Try.prog (54, 204) := ⟨Proofs.Try.f54, ⟨[], [], [], [(0, [0, 1]), (1, [5, 6]), (2, [5, 6, 16]), (3, [4]), (4, [5, 6, 7]), (5, [5, 6, 7, 20]), (7, [5, 6, 7, 47]), (8, [4]), (6, [5, 6, 7]), (9, [4])], [(5, [5, 6, 7])], [], [], [], false, [], [], []⟩, g204, Proofs.Try.func54, by kernel_rfl, rfl⟩
theorem b205 : Bears Proofs.Try.prog (55, 205) := ⟨Proofs.Try.f55, ⟨[], [], [], [(0, [0, 1]), (1, [4])], [], [], [], [], false, [], [], []⟩, g205, Proofs.Try.func55, by kernel_rfl, rfl⟩
theorem b57 : Bears Proofs.Try.prog (58, 57) := ⟨Proofs.Try.f58, ⟨[], [], [], [(0, [0, 1]), (1, [0, 1, 10]), (2, [4]), (3, [0, 1, 5]), (4, [0, 1, 5, 14]), (6, [0, 1, 5, 26]), (7, [4]), (5, [0, 1, 5]), (8, [4])], [(4, [0, 1, 5])], [], [], [], false, [], [], []⟩, g57, Proofs.Try.func58, by kernel_rfl, rfl⟩
theorem b63 : Bears Proofs.Try.prog (59, 63) := ⟨Proofs.Try.f59, ⟨[(2, 2, 0)], [], [], [(0, [0, 2]), (1, [2])], [], [], [], [], false, [], [], []⟩, g63, Proofs.Try.func59, by kernel_rfl, rfl⟩
theorem b71 : Bears Proofs.Try.prog (60, 71) := ⟨Proofs.Try.f60, ⟨[(4, 4, 0)], [], [], [(0, [0, 1, 4]), (1, [4])], [], [], [], [], false, [], [], []⟩, g71, Proofs.Try.func60, by kernel_rfl, rfl⟩
theorem b208 : Bears Proofs.Try.prog (61, 208) := ⟨Proofs.Try.f61, ⟨[(2, 2, 0), (4, 4, 0)], [], [], [(0, [1, 2, 4]), (1, [1, 2, 4, 5]), (2, [1, 2, 4, 5, 6]), (3, [1, 2, 4, 5, 6, 7]), (4, [1, 2, 4, 5, 6, 7, 14]), (6, [1, 2, 4, 5, 6, 7, 22]), (7, [1, 2, 4, 5, 6, 7]), (5, [1, 2, 4, 5, 6, 7]), (8, [4])], [(4, [1, 2, 4, 5, 6, 7])], [], [], [], false, [], [], []⟩, g208, Proofs.Try.func61, by kernel_rfl, rfl⟩
theorem b62 : Bears Proofs.Try.prog (62, 62) := ⟨Proofs.Try.f62, ⟨[(4, 4, 0)], [], [], [(0, [0, 1, 4]), (1, [4])], [], [], [], [], false, [], [], []⟩, g62, Proofs.Try.func62, by kernel_rfl, rfl⟩
theorem b69 : Bears Proofs.Try.prog (63, 69) := ⟨Proofs.Try.f63, ⟨[(2, 2, 0), (3, 3, 0), (4, 4, 0)], [], [], [(0, [2, 3, 4]), (1, [4])], [], [], [], [], false, [], [], []⟩, g69, Proofs.Try.func63, by kernel_rfl, rfl⟩
theorem b79 : Bears Proofs.Try.prog (64, 79) := ⟨Proofs.Try.f64, ⟨[(1, 1, 0), (2, 2, 0), (7, 1, 0)], [], [], [(1, [1]), (2, [0])], [], [], [], [], false, [], [], []⟩, g79, Proofs.Try.func64, by kernel_rfl, rfl⟩
theorem b210 : Bears Proofs.Try.prog (66, 210) := ⟨Proofs.Try.f66, ⟨[], [], [], [(0, [1]), (1, [2])], [], [], [], [], false, [], [], []⟩, g210, Proofs.Try.func66, by kernel_rfl, rfl⟩
theorem b211 : Bears Proofs.Try.prog (67, 211) := ⟨Proofs.Try.f67, ⟨[], [], [], [(0, [0, 1]), (1, [4])], [], [], [], [], false, [], [], []⟩, g211, Proofs.Try.func67, by kernel_rfl, rfl⟩
theorem b212 : Bears Proofs.Try.prog (68, 212) := ⟨Proofs.Try.f68, ⟨[(2, 2, 0), (4, 2, 0)], [6], [], [(0, [1, 2]), (1, [3])], [], [], [], [], false, [], [], []⟩, g212, Proofs.Try.func68, by kernel_rfl, rfl⟩
theorem b72 : Bears Proofs.Try.prog (70, 72) := ⟨Proofs.Try.f70, ⟨[(2, 2, 0)], [], [], [(0, [0, 2]), (1, [2])], [], [], [], [], false, [], [], []⟩, g72, Proofs.Try.func70, by kernel_rfl, rfl⟩
theorem b106 : Bears Proofs.Try.prog (71, 106) := ⟨Proofs.Try.f71, ⟨[(2, 2, 0)], [], [], [(0, [0, 2]), (1, [2])], [], [], [], [], false, [], [], []⟩, g106, Proofs.Try.func71, by kernel_rfl, rfl⟩
theorem b77 : Bears Proofs.Try.prog (80, 77) := ⟨Proofs.Try.f80, ⟨[], [], [], [(0, [0]), (1, [2])], [], [], [], [], false, [], [], []⟩, g77, Proofs.Try.func80, by kernel_rfl, rfl⟩
theorem b78 : Bears Proofs.Try.prog (81, 78) := ⟨Proofs.Try.f81, ⟨[], [], [], [(0, [0]), (1, [2])], [], [], [], [], false, [], [], []⟩, g78, Proofs.Try.func81, by kernel_rfl, rfl⟩
theorem b48 : Bears Proofs.Try.prog (87, 48) := ⟨Proofs.Try.f87, ⟨[(2, 2, 0), (4, 4, 0), (5, 5, 0), (7, 2, 0), (11, 2, 2), (16, 2, 2), (23, 2, 2), (28, 5, 4), (30, 2, 4), (36, 5, 4), (38, 2, 4), (47, 5, 4)], [], [], [(0, [1, 2, 4]), (1, [1, 2, 4, 21]), (2, [4]), (3, [1, 2, 4, 5]), (4, [1, 2, 4, 5]), (5, [1, 2, 4, 5, 6]), (6, [1, 2, 4, 5, 6, 33]), (8, [1, 2, 4, 5, 6]), (7, [1, 2, 4, 5, 6]), (9, [4])], [(6, [1, 2, 4, 5, 6])], [], [], [], false, [], [], []⟩, g48, Proofs.Try.func87, by kernel_rfl, rfl⟩
theorem b227 : Bears Proofs.Try.prog (88, 227) := ⟨Proofs.Try.f88, ⟨[(8, 8, 0), (9, 9, 0)], [20, 24], [], [(0, [0, 1, 2]), (1, [0, 1, 2, 14]), (2, [6]), (3, [1, 2, 15, 16, 17]), (4, [1, 2, 15, 16, 17, 18]), (5, [1, 2, 7, 8, 15, 16, 17]), (6, [1, 2, 8, 9, 15, 16, 17]), (7, [1, 2, 15, 16, 17, 30]), (8, [6]), (9, [1, 2, 15, 16, 17]), (10, [6])], [(4, [1, 2, 15, 16, 17])], [], [], [], false, [], [], []⟩, g227, Proofs.Try.func88, by kernel_rfl, rfl⟩
theorem b228 : Bears Proofs.Try.prog (89, 228) := ⟨Proofs.Try.f89, ⟨[(2, 2, 0), (3, 3, 0), (5, 2, 0), (7, 3, 0), (11, 2, 1), (13, 3, 1)], [], [], [(0, [2, 3]), (1, [4])], [], [], [], [], false, [], [], []⟩, g228, Proofs.Try.func89, by kernel_rfl, rfl⟩
theorem b229 : Bears Proofs.Try.prog (90, 229) := ⟨Proofs.Try.f90, ⟨[(2, 2, 0), (3, 3, 0), (9, 3, 1)], [], [], [(0, [2, 3]), (1, [6]), (2, [4])], [], [], [], [], false, [], [], []⟩, g229, Proofs.Try.func90, by kernel_rfl, rfl⟩
theorem b230 : Bears Proofs.Try.prog (91, 230) := ⟨Proofs.Try.f91, ⟨[(2, 2, 0), (3, 3, 0), (10, 3, 0), (37, 3, 1)], [], [], [(0, [2, 3]), (1, [2, 3, 5]), (2, [2, 3, 5, 6]), (3, [2, 3, 5, 6, 12]), (5, [2, 3, 5, 6]), (4, [2, 3, 5, 6]), (6, [8]), (7, [4])], [(3, [2, 3, 5, 6])], [], [], [], false, [], [], []⟩, g230, Proofs.Try.func91, by kernel_rfl, rfl⟩
theorem b231 : Bears Proofs.Try.prog (92, 231) := ⟨Proofs.Try.f92, ⟨[(2, 2, 0), (3, 3, 0), (5, 2, 0), (7, 3, 0), (11, 2, 1), (13, 3, 1)], [], [], [(0, [2, 3]), (1, [4])], [], [], [], [], false, [], [], []⟩, g231, Proofs.Try.func92, by kernel_rfl, rfl⟩
theorem b232 : Bears Proofs.Try.prog (93, 232) := ⟨Proofs.Try.f93, ⟨[(2, 2, 0), (3, 3, 0), (5, 2, 0), (7, 3, 0), (11, 2, 1), (13, 3, 1)], [], [], [(0, [2, 3]), (1, [4])], [], [], [], [], false, [], [], []⟩, g232, Proofs.Try.func93, by kernel_rfl, rfl⟩
theorem b56 : Bears Proofs.Try.prog (95, 56) := ⟨Proofs.Try.f95, ⟨[], [], [], [(0, [0]), (1, [0, 3]), (2, [0, 3, 4]), (3, [0, 3, 4, 10]), (5, [0, 3, 4]), (4, [0, 3, 4]), (6, [3, 5]), (7, [3, 5, 6]), (8, [3, 5, 6, 22]), (10, [3, 5, 6, 32]), (11, [3, 5, 6]), (9, [3, 5, 6]), (12, [2])], [(3, [0, 3, 4]), (8, [3, 5, 6])], [18], [(18, [0])], [], false, [], [], []⟩, g56, Proofs.Try.func95, by kernel_rfl, rfl⟩
theorem b95 : Bears Proofs.Try.prog (96, 95) := ⟨Proofs.Try.f96, ⟨[], [], [], [(0, [0, 1]), (1, [0, 1, 5]), (2, [0, 1, 5, 9]), (4, [0, 1, 5, 17]), (5, [4]), (3, [0, 1, 5]), (6, [4])], [(2, [0, 1, 5])], [], [], [], false, [], [], []⟩, g95, Proofs.Try.func96, by kernel_rfl, rfl⟩
theorem b46 : Bears Proofs.Try.prog (97, 46) := ⟨Proofs.Try.f97, ⟨[(2, 2, 0), (4, 4, 0), (6, 6, 0), (8, 2, 0), (22, 2, 2), (32, 6, 4), (34, 2, 4), (40, 6, 4), (42, 2, 4), (51, 6, 4)], [], [], [(0, [1, 2, 4]), (1, [1, 2, 4, 10]), (2, [1, 2, 4, 5]), (3, [1, 2, 4, 5, 14]), (5, [1, 2, 4, 5, 24]), (6, [4]), (4, [1, 2, 4, 5]), (7, [4]), (8, [1, 2, 4, 6]), (9, [1, 2, 4, 6]), (10, [1, 2, 4, 6, 7]), (11, [1, 2, 4, 6, 7, 37]), (13, [1, 2, 4, 6, 7]), (12, [1, 2, 4, 6, 7]), (14, [4])], [(3, [1, 2, 4, 5]), (11, [1, 2, 4, 6, 7])], [], [], [], false, [], [], []⟩, g46, Proofs.Try.func97, by kernel_rfl, rfl⟩
theorem b112 : Bears Proofs.Try.prog (98, 112) := ⟨Proofs.Try.f98, ⟨[(2, 2, 0), (3, 3, 0), (5, 5, 0), (6, 6, 0), (13, 5, 0), (36, 6, 0), (42, 6, 0), (43, 6, 1), (49, 6, 1), (62, 5, 0)], [22, 28, 52, 57], [], [(0, [0, 2, 3]), (1, [2, 3, 4, 5]), (2, [2, 3, 4, 5, 15]), (3, [2, 3]), (4, [2, 3, 4, 5, 6]), (5, [2, 3, 4, 5, 6, 7]), (6, [2, 3, 4, 5, 6, 7, 33]), (7, [2, 3, 4, 5, 6, 7, 35]), (9, [2, 3, 4, 5, 6, 7]), (8, [2, 3, 4, 5, 6, 7]), (10, [2, 3, 5, 6, 7, 53]), (11, [2, 3]), (12, [2, 3, 5, 6]), (13, [2, 3, 5, 6, 64]), (14, [2, 3]), (15, [2, 3])], [(6, [2, 3, 4, 5, 6, 7])], [], [], [], true, [], [], []⟩, g112, Proofs.Try.func98, by kernel_rfl, rfl⟩
theorem b234 : Bears Proofs.Try.prog (100, 234) := ⟨Proofs.Try.f100, ⟨[], [14], [], [(0, [0, 1]), (1, [0, 1, 7, 8]), (2, [0, 1, 7, 8, 9]), (3, [0, 1, 5, 7, 8]), (4, [0, 1, 5, 7, 8, 16]), (5, [4]), (6, [0, 1, 7, 8]), (7, [4])], [(2, [0, 1, 7, 8])], [], [], [], false, [], [], []⟩, g234, Proofs.Try.func100, by kernel_rfl, rfl⟩
theorem b108 : Bears Proofs.Try.prog (103, 108) := ⟨Proofs.Try.f103, ⟨[], [], [], [(0, [0]), (1, [0, 3]), (2, [0, 3, 7]), (4, [0, 3, 14]), (5, [2]), (3, [0, 3]), (6, [2])], [(2, [0, 3])], [], [], [], false, [], [], []⟩, g108, Proofs.Try.func103, by kernel_rfl, rfl⟩
theorem b109 : Bears Proofs.Try.prog (104, 109) := ⟨Proofs.Try.f104, ⟨[], [], [], [(0, [0]), (1, [2])], [], [], [], [], false, [], [], []⟩, g109, Proofs.Try.func104, by kernel_rfl, rfl⟩
theorem b110 : Bears Proofs.Try.prog (105, 110) := ⟨Proofs.Try.f105, ⟨[], [], [], [(0, [0]), (1, [0, 3]), (2, [0, 3, 4]), (3, [0, 3, 4, 9]), (5, [0, 3, 4, 17]), (6, [2]), (4, [0, 3, 4]), (7, [2])], [(3, [0, 3, 4])], [], [], [], false, [], [], []⟩, g110, Proofs.Try.func105, by kernel_rfl, rfl⟩
theorem b111 : Bears Proofs.Try.prog (106, 111) := ⟨Proofs.Try.f106, ⟨[], [], [], [(0, [0]), (1, [2])], [], [], [], [], false, [], [], []⟩, g111, Proofs.Try.func106, by kernel_rfl, rfl⟩
theorem b237 : Bears Proofs.Try.prog (108, 237) := ⟨Proofs.Try.f108, ⟨[(2, 2, 0), (3, 3, 0), (11, 2, 1), (16, 2, 0), (19, 2, 1)], [], [], [(0, [2, 3]), (1, [2, 3, 6]), (2, [2, 6, 15]), (3, [4, 5]), (4, [6, 7]), (5, [6, 7, 25, 26]), (6, [6, 7, 25, 26, 27]), (7, [6, 7, 8, 25, 26]), (8, [6, 7, 25, 26]), (9, [6, 7, 25, 26]), (10, [4, 5])], [(6, [6, 7, 25, 26])], [], [], [], false, [], [], []⟩, g237, Proofs.Try.func108, by kernel_rfl, rfl⟩
theorem b238 : Bears Proofs.Try.prog (109, 238) := ⟨Proofs.Try.f109, ⟨[(2, 2, 0), (3, 3, 0), (7, 2, 0), (10, 2, 1), (14, 2, 0)], [], [], [(0, [2, 3]), (1, [2, 3, 6]), (2, [6, 18]), (3, [4, 5]), (4, [4, 5])], [], [], [], [], false, [], [], []⟩, g238, Proofs.Try.func109, by kernel_rfl, rfl⟩
theorem b33 : Bears Proofs.Try.prog (110, 33) := ⟨Proofs.Try.f110, ⟨[(2, 2, 0), (3, 3, 0)], [], [], [(0, [2, 3]), (1, [4])], [], [], [], [], false, [], [], []⟩, g33, Proofs.Try.func110, by kernel_rfl, rfl⟩
theorem b99 : Bears Proofs.Try.prog (113, 99) := ⟨Proofs.Try.f113, ⟨[(4, 4, 0), (9, 4, 0), (14, 4, 4), (37, 4, 4), (44, 4, 4)], [], [], [(0, [0, 2, 4]), (1, [0, 2, 4, 18]), (2, [0, 4, 7]), (3, [0, 4, 7, 22]), (5, [0, 4, 7, 30]), (6, [6]), (4, [0, 4, 7]), (7, [6]), (8, [0, 2, 4, 8]), (9, [0, 2, 4, 8, 40]), (11, [0, 2, 4, 8]), (10, [0, 2, 4, 8]), (12, [6])], [(3, [0, 4, 7]), (9, [0, 2, 4, 8])], [50], [(50, [0])], [], false, [], [], []⟩, g99, Proofs.Try.func113, by kernel_rfl, rfl⟩
theorem b118 : Bears Proofs.Try.prog (114, 118) := ⟨Proofs.Try.f114, ⟨[(3, 3, 0)], [], [], [(0, [0, 3]), (1, [0, 3, 11]), (2, [2, 3]), (3, [0, 3, 4]), (4, [0, 3, 4, 5]), (5, [0, 3, 4, 5, 16]), (6, [0, 3, 4, 5, 6]), (7, [0, 3, 4, 5, 6, 7]), (8, [0, 3, 4, 5, 6, 7, 22]), (10, [0, 3, 4, 5, 6, 7, 39]), (13, [0, 3, 4, 5, 6, 7, 54]), (16, [0, 3, 4, 5, 7, 69]), (17, [0, 3, 4, 5, 7]), (14, [0, 3, 4, 5, 7, 66]), (15, [0, 3, 4, 5, 7]), (11, [0, 3, 4, 5, 51]), (12, [0, 3, 4, 5]), (9, [0, 3, 4, 5]), (18, [0, 3, 4, 5, 7, 8]), (19, [0, 3, 4, 5, 7, 8, 92]), (20, [2, 3]), (21, [0, 3, 4, 7]), (22, [0, 3, 4, 5]), (23, [2, 3])], [(5, [0, 3, 4, 5]), (14, [0, 3, 4, 5, 7]), (11, [0, 3, 4, 5])], [], [], [], false, [], [], []⟩, g118, Proofs.Try.func114, by kernel_rfl, rfl⟩
theorem b119 : Bears Proofs.Try.prog (115, 119) := ⟨Proofs.Try.f115, ⟨[], [], [], [(0, [0, 1]), (1, [0, 1, 12]), (2, [0, 1]), (3, [4])], [], [], [], [], false, [], [], []⟩, g119, Proofs.Try.func115, by kernel_rfl, rfl⟩
theorem b120 : Bears Proofs.Try.prog (116, 120) := ⟨Proofs.Try.f116, ⟨[], [7, 13, 17, 25, 29, 38, 42, 53, 57], [], [(0, [0, 1]), (1, [4])], [], [], [], [], false, [], [], []⟩, g120, Proofs.Try.func116, by kernel_rfl, rfl⟩
theorem b121 : Bears Proofs.Try.prog (117, 121) := ⟨Proofs.Try.f117, ⟨[(2, 2, 0), (3, 3, 0), (4, 4, 0), (12, 3, 1), (15, 3, 2), (21, 3, 2), (36, 4, 2), (42, 4, 2), (43, 3, 3), (48, 3, 3)], [26], [], [(0, [0, 2]), (1, [0, 2, 3]), (2, [0, 2, 3]), (3, [0, 2, 3]), (4, [0, 2, 3, 14]), (5, [0, 2, 3]), (6, [0, 2, 3]), (7, [0, 2, 3, 28]), (8, [0, 2, 3, 4]), (9, [0, 2, 3, 4, 35]), (10, [0, 2, 3, 4]), (11, [0, 2, 3]), (12, [0, 2, 3, 51]), (13, [2, 3]), (14, [2])], [(4, [0, 2, 3]), (7, [0, 2, 3]), (9, [0, 2, 3, 4])], [], [], [], false, [], [], []⟩, g121, Proofs.Try.func117, by kernel_rfl, rfl⟩
theorem b122 : Bears Proofs.Try.prog (118, 122) := ⟨Proofs.Try.f118, ⟨[(2, 2, 0), (3, 3, 0), (11, 3, 1), (14, 3, 2), (17, 3, 3), (20, 3, 4), (30, 3, 9)], [25], [], [(0, [0, 2]), (1, [0, 2, 3]), (2, [0, 2, 3]), (3, [0, 2, 3]), (4, [0, 2, 3]), (5, [0, 2, 3, 16]), (6, [0, 2, 3]), (7, [0, 2, 3]), (8, [0, 2, 3]), (9, [0, 2, 3, 27]), (10, [0, 2, 3]), (11, [2, 3]), (12, [2])], [], [], [], [], false, [], [], []⟩, g122, Proofs.Try.func118, by kernel_rfl, rfl⟩
theorem b123 : Bears Proofs.Try.prog (119, 123) := ⟨Proofs.Try.f119, ⟨[(1, 1, 0), (2, 2, 0), (4, 4, 0), (7, 7, 0), (11, 11, 0), (15, 1, 0), (21, 1, 0), (29, 4, 2), (35, 4, 3), (40, 4, 0), (44, 4, 3), (50, 4, 3), (58, 4, 3), (65, 1, 1), (69, 1, 1), (76, 1, 0), (82, 1, 0), (88, 7, 3), (95, 7, 3), (105, 7, 3), (116, 7, 0), (120, 1, 1), (126, 1, 1), (131, 11, 3), (134, 11, 4), (140, 11, 9), (144, 11, 0), (148, 11, 9)], [], [], [(0, [1, 2]), (1, [1, 2, 3]), (2, [1, 2, 3, 18]), (4, [1, 2, 3, 4]), (5, [1, 2, 3, 4, 39]), (6, [2]), (7, [1, 2, 3, 4, 5]), (8, [1, 2, 3, 4, 5, 47]), (10, [1, 2, 3, 4, 5, 57]), (11, [2]), (9, [1, 2, 3, 4, 5]), (3, [1, 2, 3]), (12, [1, 2, 68]), (13, [2]), (14, [1, 2, 6]), (15, [1, 2, 6, 79]), (17, [1, 2, 6, 7]), (18, [1, 2, 6, 7, 8]), (19, [1, 2, 6, 7, 8, 91]), (21, [1, 2, 6, 7, 8, 9]), (22, [1, 2, 6, 7, 8, 9, 102]), (24, [1, 2, 6, 7, 8, 9, 115]), (25, [2]), (23, [1, 2, 6, 7, 8, 9]), (20, [1, 2, 6, 7, 8]), (16, [1, 2, 6]), (26, [1, 2, 10]), (27, [1, 2, 10, 123]), (29, [1, 2, 10, 11]), (30, [1, 2, 10, 11, 143]), (31, [2]), (32, [1, 2, 10, 12, 13]), (33, [1, 2, 10, 12, 153]), (34, [2]), (28, [1, 2, 10]), (35, [2])], [(2, [1, 2, 3]), (8, [1, 2, 3, 4, 5]), (15, [1, 2, 6]), (19, [1, 2, 6, 7, 8]), (22, [1, 2, 6, 7, 8, 9]), (27, [1, 2, 10])], [], [], [], false, [], [], []⟩, g123, Proofs.Try.func119, by kernel_rfl, rfl⟩
theorem b117 : Bears Proofs.Try.prog (120, 117) := ⟨Proofs.Try.f120, ⟨[], [], [], [(0, [0]), (1, [2])], [], [], [], [], false, [], [], []⟩, g117, Proofs.Try.func120, by kernel_rfl, rfl⟩
theorem b239 : Bears Proofs.Try.prog (124, 239) := ⟨Proofs.Try.f124, ⟨[(4, 4, 0), (5, 5, 0), (7, 7, 0), (10, 4, 0), (15, 4, 2), (21, 4, 2), (31, 4, 0), (33, 5, 0), (37, 4, 1), (39, 5, 1), (44, 4, 2), (46, 5, 2), (51, 4, 3), (53, 5, 3), (58, 4, 4), (61, 5, 4), (66, 5, 4), (73, 4, 4), (78, 5, 4)], [], [], [(0, [0, 4, 5]), (1, [0, 4, 5, 12]), (2, [0, 4, 5, 7, 8]), (3, [5, 7, 8]), (4, [6]), (5, [0, 4, 5, 65]), (6, [6]), (7, [0, 4, 5, 68, 69]), (8, [0, 4, 5, 68, 69, 70]), (9, [0, 4, 5, 9, 68, 69]), (10, [0, 4, 5, 68, 69, 84]), (11, [6]), (12, [0, 4, 5, 68, 69]), (13, [6])], [(8, [0, 4, 5, 68, 69])], [], [], [], false, [], [], []⟩, g239, Proofs.Try.func124, by kernel_rfl, rfl⟩
theorem b49 : Bears Proofs.Try.prog (125, 49) := ⟨Proofs.Try.f125, ⟨[(1, 1, 0), (5, 5, 0), (6, 1, 4)], [], [], [(0, [1]), (1, [1, 3]), (2, [3, 7, 8, 9]), (3, [3, 7, 8, 9, 10]), (4, [3, 5, 7, 8, 9]), (5, [3, 7, 8, 9]), (6, [3, 7, 8, 9]), (7, [2])], [(3, [3, 7, 8, 9])], [], [], [], false, [], [], []⟩, g49, Proofs.Try.func125, by kernel_rfl, rfl⟩
theorem b240 : Bears Proofs.Try.prog (126, 240) := ⟨Proofs.Try.f126, ⟨[(4, 4, 0), (5, 5, 0), (10, 4, 0), (14, 4, 2), (21, 4, 2), (26, 4, 2), (33, 4, 2), (36, 4, 2), (41, 4, 0), (43, 5, 0), (47, 4, 1), (49, 5, 1), (54, 4, 2), (56, 5, 2), (61, 4, 3), (63, 5, 3), (68, 4, 4), (71, 5, 4), (77, 4, 4), (83, 4, 4), (88, 5, 4)], [23, 28], [], [(0, [2, 3, 4, 5]), (1, [2, 3, 4, 5, 19]), (2, [2, 3, 4, 5, 24]), (3, [8]), (5, [8]), (6, [2, 3, 4, 5, 75]), (7, [8]), (8, [2, 3, 4, 5, 9]), (9, [2, 3, 4, 5, 9, 80]), (11, [2, 3, 4, 5, 9, 96]), (12, [8]), (10, [2, 3, 4, 5, 9]), (13, [8])], [(9, [2, 3, 4, 5, 9])], [], [], [], false, [], [], []⟩, g240, Proofs.Try.func126, by kernel_rfl, rfl⟩
theorem b35 : Bears Proofs.Try.prog (127, 35) := ⟨Proofs.Try.f127, ⟨[(2, 2, 0), (3, 3, 0), (6, 2, 0), (8, 3, 0), (11, 2, 1), (13, 3, 1), (16, 2, 2), (18, 3, 2), (21, 2, 3), (23, 3, 3), (26, 2, 4), (29, 3, 4), (38, 2, 4), (40, 3, 4)], [], [], [(0, [2, 3]), (1, [2, 3, 5]), (2, [2, 3, 5, 36]), (3, [4]), (4, [4])], [], [], [], [], false, [], [], []⟩, g35, Proofs.Try.func127, by kernel_rfl, rfl⟩
theorem b125 : Bears Proofs.Try.prog (128, 125) := ⟨Proofs.Try.f128, ⟨[], [], [], [(0, [0]), (1, [0, 3]), (3, [0, 6]), (5, [0, 9]), (7, [0, 12]), (9, [15]), (10, [2]), (8, [2]), (6, [2]), (4, [2]), (2, [2]), (11, [2])], [], [], [], [], false, [], [], []⟩, g125, Proofs.Try.func128, by kernel_rfl, rfl⟩
theorem b126 : Bears Proofs.Try.prog (129, 126) := ⟨Proofs.Try.f129, ⟨[], [5, 9, 15, 19], [], [(0, [0]), (1, [0, 12]), (2, [2]), (3, [2])], [], [], [], [], false, [], [], []⟩, g126, Proofs.Try.func129, by kernel_rfl, rfl⟩
theorem b127 : Bears Proofs.Try.prog (130, 127) := ⟨Proofs.Try.f130, ⟨[], [], [], [(0, [0, 7])], [], [], [], [], false, [], [], []⟩, g127, Proofs.Try.func130, by kernel_rfl, rfl⟩
theorem b128 : Bears Proofs.Try.prog (131, 128) := ⟨Proofs.Try.f131, ⟨[], [13, 20, 24], [], [(0, [0, 1]), (1, [0, 8]), (3, [4]), (4, [0]), (5, [4])], [], [], [], [], false, [], [], []⟩, g128, Proofs.Try.func131, by kernel_rfl, rfl⟩
theorem b129 : Bears Proofs.Try.prog (132, 129) := ⟨Proofs.Try.f132, ⟨[], [7, 13, 17, 25, 29], [], [(0, [0, 1]), (1, [4])], [], [], [], [], false, [], [], []⟩, g129, Proofs.Try.func132, by kernel_rfl, rfl⟩
theorem b130 : Bears Proofs.Try.prog (133, 130) := ⟨Proofs.Try.f133, ⟨[], [], [], [(0, [0]), (1, [2])], [], [], [], [], false, [], [], []⟩, g130, Proofs.Try.func133, by kernel_rfl, rfl⟩
theorem b131 : Bears Proofs.Try.prog (134, 131) := ⟨Proofs.Try.f134, ⟨[(2, 2, 0), (3, 3, 0)], [20], [], [(0, [0, 2]), (1, [0, 2, 4]), (3, [0, 2, 10]), (4, [2]), (2, [2]), (5, [0, 2]), (6, [0, 2, 21]), (7, [2]), (8, [0, 2, 3]), (9, [2, 3]), (10, [2])], [], [15], [], [], false, [], [], []⟩, g131, Proofs.Try.func134, by kernel_rfl, rfl⟩
theorem b132 : Bears Proofs.Try.prog (135, 132) := ⟨Proofs.Try.f135, ⟨[], [10], [], [(0, [0, 1]), (1, [0, 7]), (3, [4]), (4, [4])], [], [], [], [], false, [], [], []⟩, g132, Proofs.Try.func135, by kernel_rfl, rfl⟩
theorem b133 : Bears Proofs.Try.prog (136, 133) := ⟨Proofs.Try.f136, ⟨[(2, 2, 0), (3, 3, 0), (11, 3, 4), (17, 3, 4)], [], [], [(0, [0, 2]), (1, [0, 2, 3]), (2, [0, 2, 3, 5]), (6, [0, 2, 3]), (3, [0, 2, 3]), (4, [0, 2, 3, 10]), (5, [0, 2, 3]), (7, [0, 2, 3, 21]), (8, [2]), (9, [2])], [(4, [0, 2, 3])], [8], [], [], false, [], [], []⟩, g133, Proofs.Try.func136, by kernel_rfl, rfl⟩
theorem b134 : Bears Proofs.Try.prog (137, 134) := ⟨Proofs.Try.f137, ⟨[(2, 2, 0), (7, 7, 0), (8, 8, 0), (9, 9, 0), (101, 8, 1)], [21, 41, 50, 71, 77, 81, 89, 93], [], [(0, [0, 2]), (1, [0, 2, 3]), (2, [0, 2, 3, 12]), (8, [0, 2, 3, 30]), (21, [0, 2, 3, 61]), (22, [2]), (9, [0, 2, 3, 5]), (10, [0, 2, 3, 5, 34]), (11, [0, 2, 3, 5]), (12, [0, 2, 3, 5, 6]), (13, [0, 2, 3, 5, 6]), (14, [0, 2, 3, 5, 6, 42]), (15, [2]), (16, [0, 2, 3, 5, 6, 7]), (17, [0, 2, 3, 5, 6, 7]), (18, [0, 2, 3, 5, 6, 7, 51]), (19, [2]), (20, [2]), (3, [0, 2, 3, 4]), (4, [0, 2, 3, 4]), (5, [0, 2, 3, 4, 22]), (6, [2]), (7, [2]), (23, [0, 2, 8]), (24, [0, 2, 8, 98]), (25, [0, 2, 8, 9]), (26, [0, 2, 8]), (27, [2])], [(24, [0, 2, 8])], [], [], [], false, [], [], []⟩, g134, Proofs.Try.func137, by kernel_rfl, rfl⟩
theorem b52 : Bears Proofs.Try.prog (138, 52) := ⟨Proofs.Try.f138, ⟨[(1, 1, 0), (6, 1, 4), (13, 1, 4)], [], [], [(0, [1]), (1, [1, 3]), (2, [1, 3, 4]), (3, [1, 3, 4, 9]), (5, [1, 3, 4]), (4, [1, 3, 4]), (6, [2])], [(3, [1, 3, 4])], [], [], [], false, [], [], []⟩, g52, Proofs.Try.func138, by kernel_rfl, rfl⟩
theorem b135 : Bears Proofs.Try.prog (139, 135) := ⟨Proofs.Try.f139, ⟨[(1, 1, 0)], [], [], [(0, [1]), (1, [2])], [], [], [], [], false, [], [], []⟩, g135, Proofs.Try.func139, by kernel_rfl, rfl⟩
theorem b136 : Bears Proofs.Try.prog (140, 136) := ⟨Proofs.Try.f140, ⟨[(1, 1, 0), (10, 1, 5), (16, 1, 5), (24, 1, 5)], [], [], [(0, [1]), (1, [1, 4]), (2, [1, 4, 13]), (4, [1, 4, 23]), (5, [2, 3]), (3, [1, 4]), (6, [5]), (7, [5, 6]), (8, [5, 6, 35]), (10, [5, 6, 7, 8]), (11, [5, 6, 7, 46]), (12, [2, 3]), (9, [5, 6]), (13, [2, 3])], [(2, [1, 4]), (8, [5, 6])], [], [], [], false, [], [], []⟩, g136, Proofs.Try.func140, by kernel_rfl, rfl⟩
theorem b124 : Bears Proofs.Try.prog (141, 124) := ⟨Proofs.Try.f141, ⟨[], [], [], [(0, [0]), (1, [2])], [], [], [], [], false, [], [], []⟩, g124, Proofs.Try.func141, by kernel_rfl, rfl⟩
theorem b80 : Bears Proofs.Try.prog (143, 80) := ⟨Proofs.Try.f143, ⟨[], [], [], [(0, [0]), (1, [0, 3]), (2, [3, 6, 7, 8]), (3, [3, 6, 7, 8, 9]), (4, [3, 5, 6, 7, 8]), (5, [3, 5, 6, 7, 8, 14]), (6, [2]), (7, [3, 6, 7, 8]), (8, [2])], [(3, [3, 6, 7, 8])], [], [], [], false, [], [], []⟩, g80, Proofs.Try.func143, by kernel_rfl, rfl⟩
theorem b81 : Bears Proofs.Try.prog (144, 81) := ⟨Proofs.Try.f144, ⟨[], [], [], [(0, [0, 1]), (1, [0, 1, 5]), (2, [0, 1, 5, 6]), (3, [0, 1, 6, 11]), (4, [12]), (5, [4]), (6, [4]), (7, [0, 1, 13]), (8, [4]), (9, [0, 1, 16]), (10, [4]), (11, [19]), (12, [4]), (13, [4])], [], [], [], [], false, [], [], []⟩, g81, Proofs.Try.func144, by kernel_rfl, rfl⟩
theorem b82 : Bears Proofs.Try.prog (145, 82) := ⟨Proofs.Try.f145, ⟨[], [], [], [(0, [0, 1]), (1, [0, 1, 5]), (2, [0, 1, 5, 6]), (3, [0, 1, 6, 11]), (4, [12]), (5, [4]), (6, [4]), (7, [0, 1, 13]), (8, [4]), (9, [0, 1, 16]), (10, [4]), (11, [19]), (12, [4]), (13, [4])], [], [], [], [], false, [], [], []⟩, g82, Proofs.Try.func145, by kernel_rfl, rfl⟩
theorem b83 : Bears Proofs.Try.prog (146, 83) := ⟨Proofs.Try.f146, ⟨[(8, 8, 0), (9, 9, 0)], [16, 24], [], [(0, [0, 1, 2]), (1, [0, 1, 2, 11, 12, 13]), (2, [0, 1, 2, 11, 12, 13, 14]), (3, [0, 1, 2, 7, 8, 11, 12, 13]), (4, [0, 1, 2, 7, 8, 11, 12, 13, 21]), (5, [6]), (6, [0, 1, 2, 8, 9, 11, 12, 13]), (7, [0, 1, 2, 10, 11, 12, 13]), (8, [0, 1, 2, 10, 11, 12, 13, 31]), (9, [6]), (10, [0, 1, 2, 11, 12, 13]), (11, [38]), (12, [6]), (13, [6])], [(2, [0, 1, 2, 11, 12, 13])], [], [], [], false, [], [], []⟩, g83, Proofs.Try.func146, by kernel_rfl, rfl⟩
theorem b137 : Bears Proofs.Try.prog (147, 137) := ⟨Proofs.Try.f147, ⟨[], [], [], [(0, [0]), (1, [0, 20]), (2, [2]), (3, [0, 3]), (4, [0, 3, 24]), (6, [0, 3, 31]), (7, [2]), (5, [0, 3]), (8, [2])], [(4, [0, 3])], [], [], [], false, [], [], []⟩, g137, Proofs.Try.func147, by kernel_rfl, rfl⟩
theorem b138 : Bears Proofs.Try.prog (148, 138) := ⟨Proofs.Try.f148, ⟨[], [], [], [(0, [0]), (1, [0, 5]), (2, [2]), (3, [0, 3]), (4, [0, 3, 7]), (6, [0, 3, 15]), (7, [2]), (5, [0, 3]), (8, [2])], [(4, [0, 3])], [], [], [], false, [], [], []⟩, g138, Proofs.Try.func148, by kernel_rfl, rfl⟩
theorem b139 : Bears Proofs.Try.prog (149, 139) := ⟨Proofs.Try.f149, ⟨[(2, 2, 0), (55, 2, 2), (57, 2, 1)], [5, 13, 17, 24, 28, 38, 44, 48], [], [(0, [0, 6]), (1, [0]), (2, [0, 10]), (4, [0, 35]), (5, [0, 2])], [], [], [], [], false, [], [], []⟩, g139, Proofs.Try.func149, by kernel_rfl, rfl⟩
theorem b140 : Bears Proofs.Try.prog (150, 140) := ⟨Proofs.Try.f150, ⟨[(4, 4, 0), (5, 5, 0), (6, 6, 0), (21, 6, 2), (27, 6, 2), (37, 6, 3), (38, 5, 5), (43, 5, 5)], [32], [], [(0, [0, 1, 4]), (1, [0, 4, 5]), (2, [0, 4, 5]), (3, [0, 4, 5, 6]), (4, [0, 4, 5, 6, 20]), (5, [0, 4, 5, 6]), (6, [0, 4, 5, 6]), (7, [0, 4, 5, 6, 33]), (8, [4]), (9, [0, 4, 5, 6]), (10, [0, 4, 5]), (11, [0, 4, 5, 46]), (12, [4, 5]), (13, [4])], [(3, [0, 4, 5]), (4, [0, 4, 5, 6])], [], [], [], false, [], [], []⟩, g140, Proofs.Try.func150, by kernel_rfl, rfl⟩
theorem b141 : Bears Proofs.Try.prog (151, 141) := ⟨Proofs.Try.f151, ⟨[(2, 2, 0), (4, 4, 0), (5, 5, 0), (6, 6, 0)], [51], [], [(0, [0, 2]), (1, [0, 2, 3]), (2, [0, 2, 3, 9]), (4, [0, 2, 3, 16]), (6, [0, 2, 3, 23]), (8, [0, 2, 3, 31]), (10, [0, 2, 3, 36]), (11, [0, 2, 3, 4]), (12, [2, 3, 4]), (13, [2]), (9, [2]), (7, [2]), (5, [2]), (3, [2]), (14, [0, 2, 3]), (15, [0, 2, 3, 52]), (16, [2]), (17, [0, 2, 3, 5]), (18, [0, 2, 3, 5, 57]), (19, [0, 2, 3, 5, 6]), (20, [0, 2, 5]), (21, [2, 5]), (22, [2])], [], [], [], [], false, [], [], []⟩, g141, Proofs.Try.func151, by kernel_rfl, rfl⟩
theorem b142 : Bears Proofs.Try.prog (152, 142) := ⟨Proofs.Try.f152, ⟨[(1, 1, 0), (3, 1, 0), (11, 1, 1), (15, 1, 1), (20, 1, 1)], [], [], [(0, [1]), (1, [1, 4]), (2, [1, 4, 5]), (3, [1, 4, 5]), (4, [1, 4, 5]), (6, [1, 9]), (7, [2]), (5, [2]), (8, [2])], [], [], [], [], false, [], [], []⟩, g142, Proofs.Try.func152, by kernel_rfl, rfl⟩
theorem b143 : Bears Proofs.Try.prog (153, 143) := ⟨Proofs.Try.f153, ⟨[(1, 1, 0)], [], [], [(0, [1]), (1, [1, 3]), (2, [3, 4]), (3, [3, 4, 5]), (4, [3, 4, 5, 11]), (6, [3, 4, 5]), (5, [3, 4, 5]), (7, [2])], [(4, [3, 4, 5])], [], [], [], false, [], [], []⟩, g143, Proofs.Try.func153, by kernel_rfl, rfl⟩
theorem b144 : Bears Proofs.Try.prog (154, 144) := ⟨Proofs.Try.f154, ⟨[(1, 1, 0), (5, 1, 0), (9, 1, 6)], [], [], [(0, [1]), (1, [1, 13]), (2, [2]), (3, [3]), (4, [3, 4]), (5, [3, 4, 19]), (7, [3, 4, 26]), (8, [2]), (6, [3, 4]), (9, [2])], [(5, [3, 4])], [], [], [], false, [], [], []⟩, g144, Proofs.Try.func154, by kernel_rfl, rfl⟩
theorem b145 : Bears Proofs.Try.prog (155, 145) := ⟨Proofs.Try.f155, ⟨[(1, 1, 0), (5, 1, 4), (9, 1, 5), (16, 1, 5)], [], [], [(0, [1]), (1, [1, 3]), (2, [1, 3, 4]), (3, [1, 3, 4, 12]), (5, [1, 3, 4]), (4, [1, 3, 4]), (6, [2])], [(3, [1, 3, 4])], [], [], [], false, [], [], []⟩, g145, Proofs.Try.func155, by kernel_rfl, rfl⟩
theorem b113 : Bears Proofs.Try.prog (156, 113) := ⟨Proofs.Try.f156, ⟨[], [], [], [(0, [0]), (1, [2])], [], [], [], [], false, [], [], []⟩, g113, Proofs.Try.func156, by kernel_rfl, rfl⟩
theorem b114 : Bears Proofs.Try.prog (157, 114) := ⟨Proofs.Try.f157, ⟨[], [], [], [(0, [0]), (1, [2])], [], [], [], [], false, [], [], []⟩, g114, Proofs.Try.func157, by kernel_rfl, rfl⟩
theorem b146 : Bears Proofs.Try.prog (158, 146) := ⟨Proofs.Try.f158, ⟨[], [], [], [(0, [0]), (1, [0, 3]), (2, [0, 3, 4]), (3, [0, 3, 4, 8]), (5, [0, 3, 4]), (4, [0, 3, 4]), (6, [2])], [(3, [0, 3, 4])], [], [], [], false, [], [], []⟩, g146, Proofs.Try.func158, by kernel_rfl, rfl⟩
theorem b235 : Bare Proofs.Try.prog (101, 235) := ⟨⟨Proofs.Try.f101, bodyOf Proofs.Try.f101, Proofs.Try.func101, by kernel_rfl, by decide⟩, rfl⟩
theorem b233 : Bare Proofs.Try.prog (99, 233) := ⟨⟨Proofs.Try.f99, bodyOf Proofs.Try.f99, Proofs.Try.func99, by kernel_rfl, by decide⟩, rfl⟩
theorem b236 : Bare Proofs.Try.prog (102, 236) := ⟨⟨Proofs.Try.f102, bodyOf Proofs.Try.f102, Proofs.Try.func102, by kernel_rfl, by decide⟩, rfl⟩

theorem all_bear : ∀ q ∈ ns.g, Bears Proofs.Try.prog q ∨ Bare Proofs.Try.prog q := by
  intro q hq
  simp only [ns, List.mem_cons, List.not_mem_nil, or_false] at hq
  rcases hq with rfl | rfl | rfl | rfl | rfl | rfl | rfl | rfl | rfl | rfl | rfl | rfl | rfl | rfl | rfl | rfl | rfl | rfl | rfl | rfl | rfl | rfl | rfl | rfl | rfl | rfl | rfl | rfl | rfl | rfl | rfl | rfl | rfl | rfl | rfl | rfl | rfl | rfl | rfl | rfl | rfl | rfl | rfl | rfl | rfl | rfl | rfl | rfl | rfl | rfl | rfl | rfl | rfl | rfl | rfl | rfl | rfl | rfl | rfl | rfl | rfl | rfl | rfl | rfl | rfl | rfl | rfl | rfl | rfl | rfl | rfl | rfl | rfl | rfl | rfl | rfl | rfl | rfl | rfl | rfl | rfl | rfl | rfl | rfl | rfl | rfl | rfl | rfl | rfl | rfl | rfl | rfl | rfl | rfl | rfl | rfl | rfl | rfl | rfl | rfl | rfl
  · exact .inl b171
  · exact .inl b173
  · exact .inl b15
  · exact .inl b174
  · exact .inl b175
  · exact .inl b176
  · exact .inl b27
  · exact .inl b32
  · exact .inl b70
  · exact .inl b178
  · exact .inl b180
  · exact .inl b181
  · exact .inl b182
  · exact .inl b183
  · exact .inl b26
  · exact .inl b20
  · exact .inl b201
  · exact .inl b202
  · exact .inl b34
  · exact .inl b68
  · exact .inl b203
  · exact .inl b204
  · exact .inl b205
  · exact .inl b57
  · exact .inl b63
  · exact .inl b71
  · exact .inl b208
  · exact .inl b62
  · exact .inl b69
  · exact .inl b79
  · exact .inl b210
  · exact .inl b211
  · exact .inl b212
  · exact .inl b72
  · exact .inl b106
  · exact .inl b77
  · exact .inl b78
  · exact .inl b48
  · exact .inl b227
  · exact .inl b228
  · exact .inl b229
  · exact .inl b230
  · exact .inl b231
  · exact .inl b232
  · exact .inl b56
  · exact .inl b95
  · exact .inl b46
  · exact .inl b112
  · exact .inl b234
  · exact .inl b108
  · exact .inl b109
  · exact .inl b110
  · exact .inl b111
  · exact .inl b237
  · exact .inl b238
  · exact .inl b33
  · exact .inl b99
  · exact .inl b118
  · exact .inl b119
  · exact .inl b120
  · exact .inl b121
  · exact .inl b122
  · exact .inl b123
  · exact .inl b117
  · exact .inl b239
  · exact .inl b49
  · exact .inl b240
  · exact .inl b35
  · exact .inl b125
  · exact .inl b126
  · exact .inl b127
  · exact .inl b128
  · exact .inl b129
  · exact .inl b130
  · exact .inl b131
  · exact .inl b132
  · exact .inl b133
  · exact .inl b134
  · exact .inl b52
  · exact .inl b135
  · exact .inl b136
  · exact .inl b124
  · exact .inl b80
  · exact .inl b81
  · exact .inl b82
  · exact .inl b83
  · exact .inl b137
  · exact .inl b138
  · exact .inl b139
  · exact .inl b140
  · exact .inl b141
  · exact .inl b142
  · exact .inl b143
  · exact .inl b144
  · exact .inl b145
  · exact .inl b113
  · exact .inl b114
  · exact .inl b146
  · exact .inr b235
  · exact .inr b233
  · exact .inr b236

theorem u235 : ∀ q ∈ ns.g, q.2 = 235 → q.1 = 101 := by decide +kernel
theorem clone235 : Nonempty (CloneDat Proofs.Try.prog ns 101 5 64) := ⟨
  { fn := Proofs.Try.f101, A := ⟨[], [], [], [], [], [], [], [], false, [], [], []⟩, t := (binTypes (operOf Proofs.Try.f101 1 1)).1, el := elOf Proofs.Try.prog (binTypes (operOf Proofs.Try.f101 1 1)).1, ty := (binTypes (operOf Proofs.Try.f101 1 1)).2,
    o0 := operOf Proofs.Try.f101 0 0, m := operOf Proofs.Try.f101 1 0, e := operOf Proofs.Try.f101 1 1, o2 := operOf Proofs.Try.f101 2 0, b := operOf Proofs.Try.f101 3 0, m3 := operOf Proofs.Try.f101 3 1, ap := operOf Proofs.Try.f101 3 2, fi := operOf Proofs.Try.f101 3 3,
    r0 := regNo Proofs.Try.f101 0, r1 := regNo Proofs.Try.f101 1, r2 := regNo Proofs.Try.f101 2, r3 := regNo Proofs.Try.f101 3,
    hf := Proofs.Try.func101, hbody := by kernel_rfl, hres := by kernel_rfl, hN := by kernel_rfl, h0 := ⟨by kernel_rfl, by kernel_rfl, by kernel_rfl⟩, h1 := ⟨by kernel_rfl, by kernel_rfl, by kernel_rfl⟩, h2 := ⟨by kernel_rfl, by kernel_rfl, by kernel_rfl⟩, hu := by kernel_rfl, h3 := ⟨by kernel_rfl, by kernel_rfl, by kernel_rfl⟩, h4 := ⟨by kernel_rfl, by kernel_rfl, by kernel_rfl⟩, h5 := ⟨by kernel_rfl, by kernel_rfl, by kernel_rfl⟩, h6 := ⟨by kernel_rfl, by kernel_rfl, by kernel_rfl⟩, h7 := ⟨by kernel_rfl, by kernel_rfl, by kernel_rfl⟩ }⟩

theorem u233 : ∀ q ∈ ns.g, q.2 = 233 → q.1 = 99 := by decide +kernel
theorem back233 : Nonempty (BackDat Proofs.Try.prog ns 99 7 true) := ⟨
  { fn := Proofs.Try.f99, A := ⟨[], [], [], [], [], [], [], [], false, [], [], []⟩, o0 := regOf Proofs.Try.f99 0, o1 := regOf Proofs.Try.f99 1, o2 := regOf Proofs.Try.f99 3,
    m0 := operOf Proofs.Try.f99 2 0, as3 := ((regOf Proofs.Try.f99 2).toList.drop 1).take 5, y := operOf Proofs.Try.f99 2 6, nt := operOf Proofs.Try.f99 2 7,
    r0 := regNo Proofs.Try.f99 0, r1 := regNo Proofs.Try.f99 1, r2 := regNo Proofs.Try.f99 3, r3 := regNo Proofs.Try.f99 2, b0 := blockNo Proofs.Try.f99 0, b1 := blockNo Proofs.Try.f99 1,
    types := typesOf (operOf Proofs.Try.f99 2 6), tb := unType (operOf Proofs.Try.f99 2 7),
    hf := Proofs.Try.func99, hbody := by kernel_rfl, hres := by kernel_rfl, hN := by kernel_rfl, c0 := by kernel_rfl, c1 := by kernel_rfl, c2 := by kernel_rfl, h0 := ⟨by kernel_rfl, by kernel_rfl, by kernel_rfl⟩, c3 := by kernel_rfl, hy := ⟨by kernel_rfl, by kernel_rfl, by kernel_rfl⟩, hn := ⟨by kernel_rfl, by kernel_rfl, by kernel_rfl⟩ }⟩

theorem u236 : ∀ q ∈ ns.g, q.2 = 236 → q.1 = 102 := by decide +kernel
theorem back236 : Nonempty (BackDat Proofs.Try.prog ns 102 5 true) := ⟨
  { fn := Proofs.Try.f102, A := ⟨[], [], [], [], [], [], [], [], false, [], [], []⟩, o0 := regOf Proofs.Try.f102 0, o1 := regOf Proofs.Try.f102 1, o2 := regOf Proofs.Try.f102 3,
    m0 := operOf Proofs.Try.f102 2 0, as3 := ((regOf Proofs.Try.f102 2).toList.drop 1).take 5, y := operOf Proofs.Try.f102 2 6, nt := operOf Proofs.Try.f102 2 7,
    r0 := regNo Proofs.Try.f102 0, r1 := regNo Proofs.Try.f102 1, r2 := regNo Proofs.Try.f102 3, r3 := regNo Proofs.Try.f102 2, b0 := blockNo Proofs.Try.f102 0, b1 := blockNo Proofs.Try.f102 1,
    types := typesOf (operOf Proofs.Try.f102 2 6), tb := unType (operOf Proofs.Try.f102 2 7),
    hf := Proofs.Try.func102, hbody := by kernel_rfl, hres := by kernel_rfl, hN := by kernel_rfl, c0 := by kernel_rfl, c1 := by kernel_rfl, c2 := by kernel_rfl, h0 := ⟨by kernel_rfl, by kernel_rfl, by kernel_rfl⟩, c3 := by kernel_rfl, hy := ⟨by kernel_rfl, by kernel_rfl, by kernel_rfl⟩, hn := ⟨by kernel_rfl, by kernel_rfl, by kernel_rfl⟩ }⟩

theorem look_memI {α : Type} {t : Nat} {v : α} : ∀ {l : List (Nat × α)}, look l t = some v → (t, v) ∈ l
  | [], h => by simp [look] at h
  | (k, u) :: r, h => by
    simp only [look] at h
    split at h
    · rename_i e; cases h; subst e; exact List.mem_cons_self
    · exact List.mem_cons_of_mem _ (look_memI h)

theorem backs_ok : BacksOk Proofs.Try.prog ns := by
  intro gb sz ag h f hf
  simp only [ns, look] at h
  split at h
  · rename_i e; subst e; cases h
    have := u233 (f, 233) (look_memI hf) rfl
    simp only at this; subst this; exact back233
  split at h
  · rename_i e; subst e; cases h
    have := u236 (f, 236) (look_memI hf) rfl
    simp only at this; subst this; exact back236
  cases h

theorem clones_ok : ∀ g sz bytes f, look ns.cl g = some (sz, bytes) → ns.of f = some g → Nonempty (CloneDat Proofs.Try.prog ns f sz bytes) := by
  intro g sz bytes f h hf
  simp only [ns, look] at h
  split at h
  · rename_i e; subst e; cases h
    have := u235 (f, 235) (look_memI hf) rfl
    simp only at this; subst this; exact clone235
  cases h

theorem impl : Impl Proofs.Try.prog ns AP := ⟨by kernel_rfl, fun f g h => (all_bear (f, g) (look_memI h)).imp id fun ⟨h1, h2⟩ => ⟨h1, .inl h2⟩, backs_ok, clones_ok⟩

end Go.Ab
