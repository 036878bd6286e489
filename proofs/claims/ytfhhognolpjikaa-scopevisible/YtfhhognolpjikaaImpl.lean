import Derived.Test.YtfhhognolpjikaaRows
import Derived.Test.YtfhhognolpjikaaCodeA
import Derived.Test.YtfhhognolpjikaaAbDat
import Derived.Test.YtfhhognolpjikaaAbBridge
/-
  Each function of the given program that has slim code bears just that code: the kernel translates it anew and compares.
-/
namespace Go.Ab

def ns : Names := ⟨[(4, 424), (11, 401), (12, 15), (13, 26), (16, 247), (17, 32), (18, 405), (20, 145), (21, 408), (22, 404), (23, 432), (31, 27), (33, 106), (50, 406), (51, 407), (53, 68), (54, 175), (55, 79), (56, 214), (57, 190), (58, 415), (59, 185), (60, 414), (61, 409), (62, 411), (63, 364), (68, 380), (69, 410), (70, 412), (71, 413), (72, 439), (73, 440), (74, 69), (82, 34), (83, 62), (95, 250), (96, 416), (97, 417), (98, 418), (99, 419), (100, 112), (101, 223), (102, 215), (108, 421), (113, 77), (114, 78), (121, 118), (122, 119), (123, 134), (124, 139), (125, 135), (126, 136), (127, 120), (128, 121), (129, 122), (130, 123), (132, 108), (133, 109), (134, 110), (135, 111), (140, 117), (141, 125), (142, 126), (143, 132), (144, 128), (145, 127), (146, 140), (147, 141), (148, 142), (149, 143), (150, 144), (151, 129), (152, 130), (153, 131), (154, 133), (155, 52), (158, 124), (159, 137), (160, 138), (161, 146), (103, 422), (104, 420)],
  [247, 27, 68, 175, 412, 413, 416, 417, 418, 421, 119, 134, 139, 120, 121, 122, 126, 132, 128, 127, 140, 141, 129, 130, 131, 133], [], [(422, 11, 152), (420, 1, 16)]⟩

/-- A function's slim code is what its number stands for. -/
def Bears (P : Program) (q : Nat × Nat) : Prop := ∃ fn A af, P.funcs[q.1]? = some fn ∧ compF P ns A fn = some af ∧ AP q.2 = some af
/-- A function that is known by its code's shape. -/
def Bare (P : Program) (q : Nat × Nat) : Prop := (∃ fn b, P.funcs[q.1]? = some fn ∧ fn.body = some b ∧ fn.name ≠ "runtime.NumGoroutine") ∧ AP q.2 = none

theorem b424 : Bears Proofs.Try.prog (4, 424) := ⟨Proofs.Try.f4, ⟨[(10, 10, 0), (11, 11, 0)], [], [], [(0, [0, 1, 2, 3]), (1, [0, 1, 2, 3, 17]), (2, [8]), (3, [0, 1, 2, 3, 30]), (4, [8]), (5, [0, 2, 3, 9]), (6, [2, 3, 10]), (7, [2, 3, 10, 11]), (8, [2, 3, 10, 11, 12]), (9, [2, 3, 10, 11, 12, 13]), (10, [2, 3, 10, 11, 12, 13, 42]), (12, [2, 3, 10, 11, 12, 13, 14]), (13, [2, 3, 10, 11, 12, 13, 14, 49]), (14, [2, 3, 10, 11, 12, 13, 14, 15]), (15, [2, 3, 10, 11, 12, 13]), (11, [2, 3, 10, 11, 12, 13]), (16, [8])], [(10, [2, 3, 10, 11, 12, 13])], [], [], [], false, [], [], []⟩, g424, Proofs.Try.func4, by kernel_rfl, rfl⟩
theorem b401 : Bears Proofs.Try.prog (11, 401) := ⟨Proofs.Try.f11, ⟨[(1, 1, 0)], [], [], [(1, [1]), (2, [1, 2]), (3, [1, 2, 3, 4]), (4, [0])], [], [], [], [], false, [], [], []⟩, g401, Proofs.Try.func11, by kernel_rfl, rfl⟩
theorem b15 : Bears Proofs.Try.prog (12, 15) := ⟨Proofs.Try.f12, ⟨[], [], [], [(0, [0]), (1, [2])], [], [], [], [], false, [], [], []⟩, g15, Proofs.Try.func12, by kernel_rfl, rfl⟩
theorem b26 : Bears Proofs.Try.prog (13, 26) := ⟨Proofs.Try.f13, ⟨[], [], [], [(0, [0, 1]), (1, [0, 1, 6]), (2, [4]), (3, [0, 1]), (4, [0, 1, 11]), (5, [0]), (6, [4])], [], [], [], [], false, [], [], []⟩, g26, Proofs.Try.func13, by kernel_rfl, rfl⟩
theorem b247 : Bears Proofs.Try.prog (16, 247) := ⟨Proofs.Try.f16, ⟨[(6, 6, 0), (8, 8, 0), (9, 9, 0), (12, 12, 0), (13, 13, 0), (14, 14, 0), (16, 16, 0), (48, 8, 3), (51, 8, 3), (158, 13, 3), (164, 13, 3), (172, 13, 3), (182, 16, 2), (188, 16, 2), (194, 16, 3), (195, 14, 5), (200, 14, 5)], [46, 148], [], [(0, [0, 1, 2, 6]), (1, [0, 1, 2, 6, 7]), (2, [0, 1, 2, 6, 7, 21]), (3, [0, 1, 2, 6, 7]), (4, [0, 1, 2, 6, 24]), (5, [0, 1, 2, 6, 24, 25]), (6, [0, 1, 2, 6, 24, 25]), (8, [0, 1, 2, 6, 24, 31]), (10, [0, 1, 2, 6, 24, 36]), (15, [0, 1, 2, 6, 24, 60]), (17, [0, 1, 2, 6, 24, 63]), (18, [0, 1, 2, 6, 24, 63]), (20, [0, 1, 2, 6, 24, 75]), (21, [0, 1, 2, 6, 24, 75]), (22, [0, 1, 2, 6, 24, 75]), (25, [0, 1, 2, 6, 24, 92]), (30, [0, 1, 2, 6, 24, 114]), (32, [0, 1, 2, 6, 126]), (33, [6]), (31, [6]), (26, [0, 1, 2, 6, 10]), (27, [0, 1, 2, 6, 10, 11]), (28, [0, 1, 2, 6, 10, 11, 12]), (29, [6]), (23, [0, 1, 2, 6, 9]), (24, [6]), (19, [6]), (16, [6]), (11, [0, 1, 6, 40]), (12, [0, 6, 8]), (13, [6]), (14, [6]), (9, [6]), (7, [6]), (34, [0, 1, 2, 6, 137]), (35, [6]), (36, [0, 1, 2, 6, 13]), (37, [0, 1, 2, 6, 13, 14]), (38, [0, 1, 2, 6, 13, 14, 15]), (39, [0, 1, 2, 6, 13, 14, 15, 161]), (41, [0, 1, 2, 6, 13, 14, 15, 16]), (42, [0, 1, 2, 6, 13, 14, 15, 16, 17]), (43, [0, 1, 2, 6, 13, 14, 15, 16, 17, 179]), (45, [0, 1, 2, 6, 13, 14, 15, 16, 17]), (44, [0, 1, 2, 6, 13, 14, 15, 16, 17]), (46, [0, 1, 2, 6, 13, 14, 15, 16]), (47, [0, 1, 2, 6, 13, 14, 15]), (40, [0, 1, 2, 6, 13, 14, 15]), (48, [6])], [(39, [0, 1, 2, 6, 13, 14, 15]), (43, [0, 1, 2, 6, 13, 14, 15, 16, 17])], [], [], [], false, [], [], []⟩, g247, Proofs.Try.func16, by kernel_rfl, rfl⟩
theorem b32 : Bears Proofs.Try.prog (17, 32) := ⟨Proofs.Try.f17, ⟨[], [], [], [(0, [0]), (1, [0, 3]), (2, [0, 3, 4]), (3, [0, 3, 4, 14]), (4, [0, 3, 4]), (5, [0, 3, 4, 5]), (6, [0, 3, 4, 5, 24]), (8, [0, 3, 4, 5, 36]), (9, [0, 3, 4, 5]), (7, [0, 3, 4, 5]), (10, [2])], [(6, [0, 3, 4, 5])], [], [], [], false, [], [], []⟩, g32, Proofs.Try.func17, by kernel_rfl, rfl⟩
theorem b405 : Bears Proofs.Try.prog (18, 405) := ⟨Proofs.Try.f18, ⟨[(5, 5, 0), (6, 6, 0), (7, 7, 0), (13, 13, 0), (14, 14, 0), (15, 5, 0), (20, 5, 2), (24, 5, 1), (31, 5, 2), (39, 5, 1), (50, 5, 6), (56, 5, 1), (59, 7, 0), (79, 14, 0)], [], [], [(0, [0, 1, 5, 6]), (1, [0, 1, 5, 6, 7]), (2, [0, 1, 5, 6, 7, 16]), (3, [0, 1, 5, 6, 7, 16, 17]), (6, [0, 1, 5, 6, 7, 16, 27]), (10, [0, 1, 5, 6, 7, 16, 42]), (12, [0, 1, 5, 6, 7, 47]), (13, [0, 1, 5, 6, 7, 11]), (14, [0, 1, 5, 6, 7, 11, 54]), (15, [0, 1, 5, 6, 7]), (11, [0, 1, 5, 6, 7]), (7, [0, 1, 5, 6, 7, 10]), (8, [0, 1, 5, 6, 7, 38]), (9, [0, 1, 5, 6, 7]), (4, [0, 1, 5, 6, 7, 23]), (5, [0, 1, 5, 6, 7]), (16, [0, 1, 5, 6, 7, 61]), (17, [6]), (18, [0, 1, 5, 6, 64, 65, 66]), (19, [0, 1, 5, 6, 64, 65, 66, 67]), (20, [0, 1, 5, 6, 12, 13, 64, 65, 66]), (21, [0, 1, 5, 6, 14, 64, 65, 66]), (22, [0, 1, 5, 6, 14, 64, 65, 66, 81]), (23, [6]), (24, [0, 1, 5, 6, 64, 65, 66]), (25, [6])], [(19, [0, 1, 5, 6, 64, 65, 66])], [], [], [], false, [], [], []⟩, g405, Proofs.Try.func18, by kernel_rfl, rfl⟩
theorem b145 : Bears Proofs.Try.prog (20, 145) := ⟨Proofs.Try.f20, ⟨[(1, 1, 0), (5, 1, 4), (9, 1, 5), (16, 1, 5)], [20], [], [(0, [1]), (1, [1, 3]), (2, [1, 3, 4]), (3, [1, 3, 4, 12]), (5, [1, 3, 4]), (4, [1, 3, 4]), (6, [2])], [(3, [1, 3, 4])], [], [], [], true, [], [7, 23], []⟩, g145, Proofs.Try.func20, by kernel_rfl, rfl⟩
theorem b408 : Bears Proofs.Try.prog (21, 408) := ⟨Proofs.Try.f21, ⟨[], [], [], [(0, [0, 1]), (1, [0, 1, 10]), (2, [4]), (3, [0, 1, 5]), (4, [0, 1, 5, 14]), (6, [0, 1, 5, 25]), (7, [4]), (5, [0, 1, 5]), (8, [4])], [(4, [0, 1, 5])], [], [], [], false, [], [], []⟩, g408, Proofs.Try.func21, by kernel_rfl, rfl⟩
theorem b404 : Bears Proofs.Try.prog (22, 404) := ⟨Proofs.Try.f22, ⟨[(2, 2, 0), (5, 5, 0)], [11], [], [(0, [1, 2]), (1, [1, 2, 6]), (2, [1, 2, 19]), (3, [4]), (4, [1, 2, 7]), (5, [2, 7, 20, 21, 22]), (6, [2, 7, 20, 21, 22, 23]), (7, [2, 7, 9, 20, 21, 22]), (8, [2, 7, 9, 20, 21, 22, 28, 29, 30]), (9, [2, 7, 9, 20, 21, 22, 28, 29, 30, 31]), (10, [2, 7, 9, 11, 20, 21, 22, 28, 29, 30]), (11, [2, 7, 9, 11, 20, 21, 22, 28, 29, 30]), (12, [2, 7, 9, 20, 21, 22, 28, 29, 30]), (13, [2, 7, 9, 20, 21, 22, 28, 29, 30]), (14, [2, 7, 20, 21, 22]), (15, [2, 7, 20, 21, 22]), (16, [4])], [(6, [2, 7, 20, 21, 22]), (9, [2, 7, 9, 20, 21, 22, 28, 29, 30])], [36], [(36, [0])], [], false, [], [40], []⟩, g404, Proofs.Try.func22, by kernel_rfl, rfl⟩
theorem b432 : Bears Proofs.Try.prog (23, 432) := ⟨Proofs.Try.f23, ⟨[(2, 2, 0), (5, 5, 0)], [], [], [(0, [1, 2]), (1, [1, 2, 6]), (2, [1, 2, 16]), (3, [4]), (4, [1, 2, 7]), (5, [1, 2, 7, 8]), (6, [1, 2, 7, 8, 20]), (8, [1, 2, 7, 8]), (9, [1, 2, 7, 8]), (7, [1, 2, 7, 8]), (10, [4])], [(6, [1, 2, 7, 8])], [], [], [], false, [], [], []⟩, g432, Proofs.Try.func23, by kernel_rfl, rfl⟩
theorem b27 : Bears Proofs.Try.prog (31, 27) := ⟨Proofs.Try.f31, ⟨[(8, 8, 0), (10, 10, 0), (13, 13, 0), (62, 10, 2), (77, 10, 1)], [29, 59], [], [(0, [0, 1, 2, 3, 8]), (1, [0, 1, 2, 3, 8, 9]), (2, [0, 1, 2, 3, 8, 9, 16]), (4, [0, 1, 2, 3, 8, 9, 31]), (6, [0, 1, 2, 3, 8, 9, 39]), (7, [0, 1, 2, 3, 8, 39]), (8, [0, 1, 2, 3, 8, 10]), (9, [0, 1, 2, 3, 8, 10, 11]), (10, [0, 1, 2, 3, 8, 10, 11, 12]), (11, [0, 1, 2, 3, 8, 10, 11, 12, 65]), (13, [0, 1, 2, 3, 8, 10, 11, 12]), (12, [0, 1, 2, 3, 8, 10, 11, 12]), (14, [8]), (5, [8]), (3, [8]), (15, [0, 1, 2, 3, 8, 13]), (16, [8])], [(11, [0, 1, 2, 3, 8, 10, 11, 12])], [], [], [], false, [], [], []⟩, g27, Proofs.Try.func31, by kernel_rfl, rfl⟩
theorem b106 : Bears Proofs.Try.prog (33, 106) := ⟨Proofs.Try.f33, ⟨[(2, 2, 0)], [], [], [(0, [0, 2]), (1, [2])], [], [], [], [], false, [], [], []⟩, g106, Proofs.Try.func33, by kernel_rfl, rfl⟩
theorem b406 : Bears Proofs.Try.prog (50, 406) := ⟨Proofs.Try.f50, ⟨[(2, 2, 0), (3, 3, 0), (4, 4, 0)], [], [], [(0, [0, 2]), (1, [2, 3]), (2, [2])], [], [], [], [], false, [], [], []⟩, g406, Proofs.Try.func50, by kernel_rfl, rfl⟩
theorem b407 : Bears Proofs.Try.prog (51, 407) := ⟨Proofs.Try.f51, ⟨[], [], [], [(0, [0, 3]), (1, [6]), (2, [4, 5])], [], [], [], [], false, [], [], []⟩, g407, Proofs.Try.func51, by kernel_rfl, rfl⟩
theorem b68 : Bears Proofs.Try.prog (53, 68) := ⟨Proofs.Try.f53, ⟨[], [7, 11, 17, 24, 28], [], [(0, [0, 1]), (1, [0, 1, 14]), (2, [4]), (3, [0, 1]), (4, [4])], [], [], [], [], false, [], [], []⟩, g68, Proofs.Try.func53, by kernel_rfl, rfl⟩
theorem b175 : Bears Proofs.Try.prog (54, 175) := ⟨Proofs.Try.f54, ⟨[], [], [], [(0, [0]), (1, [2])], [], [], [], [], false, [], [], []⟩, g175, Proofs.Try.func54, by kernel_rfl, rfl⟩
theorem b79 : Bears Proofs.Try.prog (55, 79) := ⟨Proofs.Try.f55, ⟨[(1, 1, 0), (2, 2, 0), (7, 1, 0)], [], [], [(1, [1]), (2, [0])], [], [], [], [], false, [], [], []⟩, g79, Proofs.Try.func55, by kernel_rfl, rfl⟩
theorem b214 : Bears Proofs.Try.prog (56, 214) := ⟨Proofs.Try.f56, ⟨[], [], [], [(0, [0, 1]), (1, [4])], [], [], [], [], false, [], [], []⟩, g214, Proofs.Try.func56, by kernel_rfl, rfl⟩
theorem b190 : Bears Proofs.Try.prog (57, 190) := ⟨Proofs.Try.f57, ⟨[(8, 8, 0), (10, 10, 0), (18, 8, 3), (26, 10, 1)], [], [], [(0, [0, 1]), (1, [1, 11, 12, 13]), (2, [1, 11, 12, 13, 14]), (3, [1, 7, 8, 11, 12, 13]), (4, [1, 7, 11, 12, 13, 19, 20, 21]), (5, [1, 7, 11, 12, 13, 19, 20, 21, 22]), (6, [1, 7, 9, 10, 11, 12, 13, 19, 20, 21]), (7, [1, 7, 9, 11, 12, 13, 19, 20, 21, 29]), (8, [4, 5, 6]), (9, [1, 7, 11, 12, 13, 19, 20, 21]), (10, [1, 11, 12, 13]), (11, [4, 5, 6])], [(2, [1, 11, 12, 13]), (5, [1, 7, 11, 12, 13, 19, 20, 21])], [], [], [], false, [], [], []⟩, g190, Proofs.Try.func57, by kernel_rfl, rfl⟩
theorem b415 : Bears Proofs.Try.prog (58, 415) := ⟨Proofs.Try.f58, ⟨[(3, 3, 0), (4, 4, 0), (6, 6, 0), (13, 13, 0), (16, 3, 5), (25, 6, 1), (33, 6, 0), (39, 3, 5), (46, 3, 1), (49, 3, 5), (57, 13, 2), (71, 13, 0), (74, 13, 2), (82, 13, 2), (88, 13, 0)], [], [], [(0, [0, 3, 4]), (1, [0, 3, 4, 17, 18, 19]), (2, [0, 3, 4, 17, 18, 19, 20]), (3, [0, 3, 4, 6, 17, 18, 19]), (4, [0, 3, 4, 6, 9, 17, 18, 19]), (5, [0, 3, 4, 6, 17, 18, 19, 32]), (6, [4]), (7, [0, 3, 4, 17, 18, 19]), (8, [0, 3, 4, 10, 11]), (9, [0, 3, 4, 10, 45]), (10, [4]), (11, [0, 4, 10, 50, 51, 52]), (12, [0, 4, 10, 50, 51, 52, 53]), (13, [0, 4, 10, 12, 13, 50, 51, 52]), (14, [0, 4, 10, 13, 50, 51, 52, 70]), (15, [4]), (16, [0, 4, 10, 13, 50, 51, 52, 75, 76, 77]), (17, [0, 4, 10, 13, 50, 51, 52, 75, 76, 77, 78]), (18, [0, 4, 10, 13, 14, 15, 50, 51, 52, 75, 76, 77]), (19, [0, 4, 10, 13, 50, 51, 52, 75, 76, 77, 87]), (20, [4]), (21, [0, 4, 10, 13, 50, 51, 52, 75, 76, 77]), (22, [0, 4, 10, 50, 51, 52]), (23, [4])], [(2, [0, 3, 4, 17, 18, 19]), (12, [0, 4, 10, 50, 51, 52]), (17, [0, 4, 10, 13, 50, 51, 52, 75, 76, 77])], [], [], [], false, [], [], []⟩, g415, Proofs.Try.func58, by kernel_rfl, rfl⟩
theorem b185 : Bears Proofs.Try.prog (59, 185) := ⟨Proofs.Try.f59, ⟨[(4, 4, 0), (10, 10, 0), (12, 4, 0), (17, 4, 1), (25, 4, 1), (33, 4, 4), (37, 4, 4)], [], [], [(0, [0, 2, 4]), (1, [0, 2, 4, 13]), (2, [0, 2, 4, 13, 14]), (5, [0, 2, 4, 21]), (6, [0, 2, 4, 7, 8]), (7, [0, 2, 4, 7, 31]), (8, [6]), (9, [0, 2, 4, 36]), (10, [6]), (3, [0, 2, 4, 20]), (4, [6]), (11, [0, 2, 38, 39, 40]), (12, [0, 2, 38, 39, 40, 41]), (13, [0, 2, 10, 38, 39, 40]), (14, [0, 2, 11, 38, 39, 40]), (15, [0, 2, 11, 38, 39, 40, 49]), (16, [6]), (17, [0, 2, 38, 39, 40]), (18, [6])], [(12, [0, 2, 38, 39, 40])], [], [], [], false, [], [], []⟩, g185, Proofs.Try.func59, by kernel_rfl, rfl⟩
theorem b414 : Bears Proofs.Try.prog (60, 414) := ⟨Proofs.Try.f60, ⟨[(1, 1, 0), (5, 5, 0), (6, 1, 4), (9, 1, 5), (17, 5, 3)], [], [], [(0, [1]), (1, [1, 3]), (2, [3, 10, 11, 12]), (3, [3, 10, 11, 12, 13]), (4, [3, 5, 10, 11, 12]), (5, [3, 10, 11, 12]), (6, [3, 10, 11, 12]), (7, [2])], [(3, [3, 10, 11, 12])], [8], [], [], false, [], [], []⟩, g414, Proofs.Try.func60, by kernel_rfl, rfl⟩
theorem b409 : Bears Proofs.Try.prog (61, 409) := ⟨Proofs.Try.f61, ⟨[], [], [], [(0, [0, 1]), (1, [4])], [], [6], [], [], false, [], [], []⟩, g409, Proofs.Try.func61, by kernel_rfl, rfl⟩
theorem b411 : Bears Proofs.Try.prog (62, 411) := ⟨Proofs.Try.f62, ⟨[(2, 2, 0), (5, 2, 0), (10, 2, 2), (17, 2, 2), (23, 2, 4), (27, 2, 5), (30, 2, 4)], [], [], [(0, [1, 2]), (1, [1, 2, 6]), (2, [1, 2, 6, 7]), (3, [1, 2, 6, 7]), (5, [1, 2, 6, 13]), (8, [1, 2, 20]), (9, [1, 2, 26]), (10, [4]), (6, [2, 16]), (7, [4]), (4, [4]), (11, [4])], [], [], [], [], false, [], [], []⟩, g411, Proofs.Try.func62, by kernel_rfl, rfl⟩
theorem b364 : Bears Proofs.Try.prog (63, 364) := ⟨Proofs.Try.f63, ⟨[], [], [], [(0, [0, 1]), (1, [0, 1, 5]), (2, [0, 1, 5, 9]), (4, [0, 1, 5, 17]), (5, [4]), (3, [0, 1, 5]), (6, [4])], [(2, [0, 1, 5])], [], [], [], false, [], [], []⟩, g364, Proofs.Try.func63, by kernel_rfl, rfl⟩
theorem b380 : Bears Proofs.Try.prog (68, 380) := ⟨Proofs.Try.f68, ⟨[(2, 2, 0), (6, 2, 0), (9, 2, 0), (12, 2, 0), (19, 2, 2), (23, 2, 0), (30, 2, 5)], [], [], [(0, [1, 2]), (1, [1, 2, 5]), (2, [1, 2, 5]), (3, [1, 2, 5]), (5, [1, 2, 22]), (6, [4]), (4, [4]), (7, [4])], [], [], [], [], false, [], [], []⟩, g380, Proofs.Try.func68, by kernel_rfl, rfl⟩
theorem b410 : Bears Proofs.Try.prog (69, 410) := ⟨Proofs.Try.f69, ⟨[(2, 2, 0), (4, 4, 0)], [], [], [(0, [1, 2, 4]), (1, [2, 4, 9, 10, 11]), (2, [2, 4, 9, 10, 11, 12]), (3, [2, 4, 7, 9, 10, 11]), (4, [2, 4, 7, 8, 9, 10, 11]), (5, [2, 4, 7, 8, 9, 10, 11, 24]), (6, [4, 5]), (7, [2, 4, 9, 10, 11]), (8, [2, 4, 9, 10, 11]), (9, [4, 5])], [(2, [2, 4, 9, 10, 11])], [], [], [], false, [], [], []⟩, g410, Proofs.Try.func69, by kernel_rfl, rfl⟩
theorem b412 : Bears Proofs.Try.prog (70, 412) := ⟨Proofs.Try.f70, ⟨[], [24], [], [(0, [0, 1]), (1, [0, 1, 5]), (2, [0, 1, 5, 12]), (3, [4]), (4, [0, 1, 5, 6]), (5, [0, 1, 5, 6, 19]), (7, [0, 1, 5, 6, 7]), (8, [0, 1, 5, 6, 7, 29]), (9, [0, 1, 5, 6]), (10, [0, 1, 5, 6]), (6, [0, 1, 5, 6]), (11, [0, 5]), (12, [4])], [(5, [0, 1, 5, 6])], [], [], [], true, [], [38, 41], []⟩, g412, Proofs.Try.func70, by kernel_rfl, rfl⟩
theorem b413 : Bears Proofs.Try.prog (71, 413) := ⟨Proofs.Try.f71, ⟨[], [1], [], [(0, [0, 1]), (1, [3])], [], [], [], [], false, [], [], []⟩, g413, Proofs.Try.func71, by kernel_rfl, rfl⟩
theorem b439 : Bears Proofs.Try.prog (72, 439) := ⟨Proofs.Try.f72, ⟨[(2, 2, 0), (4, 4, 0)], [], [], [(0, [1, 2, 4]), (1, [1, 2, 4, 6]), (2, [1, 2, 4, 6, 11]), (4, [1, 2, 4, 6, 7]), (5, [1, 2, 4, 6, 7, 29]), (6, [4, 5]), (7, [1, 2, 4, 6]), (3, [1, 2, 4, 6]), (8, [4, 5])], [(2, [1, 2, 4, 6])], [], [], [], false, [], [], []⟩, g439, Proofs.Try.func72, by kernel_rfl, rfl⟩
theorem b440 : Bears Proofs.Try.prog (73, 440) := ⟨Proofs.Try.f73, ⟨[], [], [], [(0, [0]), (1, [0, 3]), (2, [0, 3, 4]), (3, [0, 3, 4, 8]), (5, [0, 3, 4, 20]), (6, [0, 3, 4]), (4, [0, 3, 4]), (7, [2])], [(3, [0, 3, 4])], [], [], [], false, [], [], []⟩, g440, Proofs.Try.func73, by kernel_rfl, rfl⟩
theorem b69 : Bears Proofs.Try.prog (74, 69) := ⟨Proofs.Try.f74, ⟨[(2, 2, 0), (3, 3, 0), (4, 4, 0)], [], [], [(0, [2, 3, 4]), (1, [4])], [], [], [], [], false, [], [], []⟩, g69, Proofs.Try.func74, by kernel_rfl, rfl⟩
theorem b34 : Bears Proofs.Try.prog (82, 34) := ⟨Proofs.Try.f82, ⟨[(0, 0, 0)], [], [], [(0, [0]), (1, [0])], [], [], [], [], false, [], [], []⟩, g34, Proofs.Try.func82, by kernel_rfl, rfl⟩
theorem b62 : Bears Proofs.Try.prog (83, 62) := ⟨Proofs.Try.f83, ⟨[(4, 4, 0)], [], [], [(0, [0, 1, 4]), (1, [4])], [], [], [], [], false, [], [], []⟩, g62, Proofs.Try.func83, by kernel_rfl, rfl⟩
theorem b250 : Bears Proofs.Try.prog (95, 250) := ⟨Proofs.Try.f95, ⟨[(2, 2, 0), (3, 3, 0), (5, 5, 0), (7, 7, 0), (15, 5, 0)], [26, 35, 40], [], [(0, [0, 2, 3]), (1, [2, 3, 4, 5]), (2, [2, 3, 4, 5, 17]), (3, [2, 3]), (4, [2, 3, 4, 5, 6]), (5, [2, 3, 4, 5, 6, 7]), (6, [2, 3, 5, 6, 7, 30]), (7, [2, 3, 5, 6, 7]), (8, [2, 3, 5, 6, 7, 36]), (9, [2, 3]), (10, [2, 3, 5, 7, 44]), (11, [2, 3]), (12, [2, 3, 5, 7, 8, 9]), (13, [2, 3, 5, 7, 8, 52]), (14, [2, 3]), (15, [2, 3])], [], [], [], [], false, [], [], []⟩, g250, Proofs.Try.func95, by kernel_rfl, rfl⟩
theorem b416 : Bears Proofs.Try.prog (96, 416) := ⟨Proofs.Try.f96, ⟨[], [14], [], [(0, [0, 1]), (1, [0, 1, 7, 8]), (2, [0, 1, 7, 8, 9]), (3, [0, 1, 5, 7, 8]), (4, [0, 1, 5, 7, 8, 16]), (5, [4]), (6, [0, 1, 7, 8]), (7, [4])], [(2, [0, 1, 7, 8])], [], [], [], false, [], [], []⟩, g416, Proofs.Try.func96, by kernel_rfl, rfl⟩
theorem b417 : Bears Proofs.Try.prog (97, 417) := ⟨Proofs.Try.f97, ⟨[(2, 2, 0), (4, 2, 3)], [1], [], [(0, [1, 2]), (1, [3])], [], [], [], [], false, [], [], []⟩, g417, Proofs.Try.func97, by kernel_rfl, rfl⟩
theorem b418 : Bears Proofs.Try.prog (98, 418) := ⟨Proofs.Try.f98, ⟨[(8, 8, 0), (9, 9, 0)], [20, 24], [], [(0, [0, 1, 2]), (1, [0, 1, 2, 14]), (2, [6]), (3, [1, 2, 15, 16, 17]), (4, [1, 2, 15, 16, 17, 18]), (5, [1, 2, 7, 8, 15, 16, 17]), (6, [1, 2, 8, 9, 15, 16, 17]), (7, [1, 2, 15, 16, 17, 30]), (8, [6]), (9, [1, 2, 15, 16, 17]), (10, [6])], [(4, [1, 2, 15, 16, 17])], [], [], [], false, [], [], []⟩, g418, Proofs.Try.func98, by kernel_rfl, rfl⟩
theorem b419 : Bears Proofs.Try.prog (99, 419) := ⟨Proofs.Try.f99, ⟨[(2, 2, 0), (3, 3, 0), (5, 2, 1), (7, 3, 1)], [], [], [(0, [2, 3]), (1, [4])], [], [], [], [], false, [], [], []⟩, g419, Proofs.Try.func99, by kernel_rfl, rfl⟩
theorem b112 : Bears Proofs.Try.prog (100, 112) := ⟨Proofs.Try.f100, ⟨[(2, 2, 0), (3, 3, 0), (5, 5, 0), (6, 6, 0), (13, 5, 0), (36, 6, 0), (42, 6, 0), (43, 6, 1), (49, 6, 1), (62, 5, 0)], [22, 28, 52, 57], [], [(0, [0, 2, 3]), (1, [2, 3, 4, 5]), (2, [2, 3, 4, 5, 15]), (3, [2, 3]), (4, [2, 3, 4, 5, 6]), (5, [2, 3, 4, 5, 6, 7]), (6, [2, 3, 4, 5, 6, 7, 33]), (7, [2, 3, 4, 5, 6, 7, 35]), (9, [2, 3, 4, 5, 6, 7]), (8, [2, 3, 4, 5, 6, 7]), (10, [2, 3, 5, 6, 7, 53]), (11, [2, 3]), (12, [2, 3, 5, 6]), (13, [2, 3, 5, 6, 64]), (14, [2, 3]), (15, [2, 3])], [(6, [2, 3, 4, 5, 6, 7])], [], [], [], true, [], [], []⟩, g112, Proofs.Try.func100, by kernel_rfl, rfl⟩
theorem b223 : Bears Proofs.Try.prog (101, 223) := ⟨Proofs.Try.f101, ⟨[], [], [], [(0, [0, 1]), (1, [0, 1, 7, 8]), (2, [0, 1, 7, 8, 9]), (3, [0, 1, 5, 7, 8]), (4, [0, 1, 5, 7, 8, 16]), (5, [4]), (6, [0, 1, 7, 8]), (7, [4])], [(2, [0, 1, 7, 8])], [], [], [], false, [], [], []⟩, g223, Proofs.Try.func101, by kernel_rfl, rfl⟩
theorem b215 : Bears Proofs.Try.prog (102, 215) := ⟨Proofs.Try.f102, ⟨[(7, 7, 0), (19, 7, 1), (23, 7, 2)], [], [], [(0, [0, 1]), (1, [0, 1, 8]), (2, [0, 1, 8, 9]), (4, [0, 1, 11]), (5, [4, 5]), (3, [4, 5]), (6, [1, 13, 14, 15]), (7, [1, 13, 14, 15, 16]), (8, [1, 7, 13, 14, 15]), (9, [1, 7, 13, 14, 15, 22]), (10, [4, 5]), (11, [1, 13, 14, 15]), (12, [4, 5])], [(7, [1, 13, 14, 15])], [], [], [], false, [], [], []⟩, g215, Proofs.Try.func102, by kernel_rfl, rfl⟩
theorem b421 : Bears Proofs.Try.prog (108, 421) := ⟨Proofs.Try.f108, ⟨[], [14], [], [(0, [0, 1]), (1, [0, 1, 7, 8]), (2, [0, 1, 7, 8, 9]), (3, [0, 1, 5, 7, 8]), (4, [0, 1, 5, 7, 8, 16]), (5, [4]), (6, [0, 1, 7, 8]), (7, [4])], [(2, [0, 1, 7, 8])], [], [], [], false, [], [], []⟩, g421, Proofs.Try.func108, by kernel_rfl, rfl⟩
theorem b77 : Bears Proofs.Try.prog (113, 77) := ⟨Proofs.Try.f113, ⟨[], [], [], [(0, [0]), (1, [2])], [], [], [], [], false, [], [], []⟩, g77, Proofs.Try.func113, by kernel_rfl, rfl⟩
theorem b78 : Bears Proofs.Try.prog (114, 78) := ⟨Proofs.Try.f114, ⟨[], [], [], [(0, [0]), (1, [2])], [], [], [], [], false, [], [], []⟩, g78, Proofs.Try.func114, by kernel_rfl, rfl⟩
theorem b118 : Bears Proofs.Try.prog (121, 118) := ⟨Proofs.Try.f121, ⟨[(3, 3, 0)], [], [], [(0, [0, 3]), (1, [0, 3, 11]), (2, [2, 3]), (3, [0, 3, 4]), (4, [0, 3, 4, 5]), (5, [0, 3, 4, 5, 16]), (6, [0, 3, 4, 5, 6]), (7, [0, 3, 4, 5, 6, 7]), (8, [0, 3, 4, 5, 6, 7, 22]), (10, [0, 3, 4, 5, 6, 7, 39]), (13, [0, 3, 4, 5, 6, 7, 54]), (16, [0, 3, 4, 5, 7, 69]), (17, [0, 3, 4, 5, 7]), (14, [0, 3, 4, 5, 7, 66]), (15, [0, 3, 4, 5, 7]), (11, [0, 3, 4, 5, 51]), (12, [0, 3, 4, 5]), (9, [0, 3, 4, 5]), (18, [0, 3, 4, 5, 7, 8]), (19, [0, 3, 4, 5, 7, 8, 92]), (20, [2, 3]), (21, [0, 3, 4, 7]), (22, [0, 3, 4, 5]), (23, [2, 3])], [(5, [0, 3, 4, 5]), (14, [0, 3, 4, 5, 7]), (11, [0, 3, 4, 5])], [], [], [], false, [], [], []⟩, g118, Proofs.Try.func121, by kernel_rfl, rfl⟩
theorem b119 : Bears Proofs.Try.prog (122, 119) := ⟨Proofs.Try.f122, ⟨[], [], [], [(0, [0, 1]), (1, [0, 1, 12]), (2, [0, 1]), (3, [4])], [], [], [], [], false, [], [], []⟩, g119, Proofs.Try.func122, by kernel_rfl, rfl⟩
theorem b134 : Bears Proofs.Try.prog (123, 134) := ⟨Proofs.Try.f123, ⟨[(2, 2, 0), (7, 7, 0), (8, 8, 0), (9, 9, 0), (101, 8, 1)], [21, 41, 50, 71, 77, 81, 89, 93], [], [(0, [0, 2]), (1, [0, 2, 3]), (2, [0, 2, 3, 12]), (8, [0, 2, 3, 30]), (21, [0, 2, 3, 61]), (22, [2]), (9, [0, 2, 3, 5]), (10, [0, 2, 3, 5, 34]), (11, [0, 2, 3, 5]), (12, [0, 2, 3, 5, 6]), (13, [0, 2, 3, 5, 6]), (14, [0, 2, 3, 5, 6, 42]), (15, [2]), (16, [0, 2, 3, 5, 6, 7]), (17, [0, 2, 3, 5, 6, 7]), (18, [0, 2, 3, 5, 6, 7, 51]), (19, [2]), (20, [2]), (3, [0, 2, 3, 4]), (4, [0, 2, 3, 4]), (5, [0, 2, 3, 4, 22]), (6, [2]), (7, [2]), (23, [0, 2, 8]), (24, [0, 2, 8, 98]), (25, [0, 2, 8, 9]), (26, [0, 2, 8]), (27, [2])], [(24, [0, 2, 8])], [], [], [], false, [], [], []⟩, g134, Proofs.Try.func123, by kernel_rfl, rfl⟩
theorem b139 : Bears Proofs.Try.prog (124, 139) := ⟨Proofs.Try.f124, ⟨[(2, 2, 0), (55, 2, 2), (57, 2, 1)], [5, 13, 17, 24, 28, 38, 44, 48], [], [(0, [0, 6]), (1, [0]), (2, [0, 10]), (4, [0, 35]), (5, [0, 2])], [], [], [], [], false, [], [], []⟩, g139, Proofs.Try.func124, by kernel_rfl, rfl⟩
theorem b135 : Bears Proofs.Try.prog (125, 135) := ⟨Proofs.Try.f125, ⟨[(1, 1, 0)], [], [], [(0, [1]), (1, [2])], [], [], [], [], false, [], [], []⟩, g135, Proofs.Try.func125, by kernel_rfl, rfl⟩
theorem b136 : Bears Proofs.Try.prog (126, 136) := ⟨Proofs.Try.f126, ⟨[(1, 1, 0), (10, 1, 5), (16, 1, 5), (24, 1, 5)], [], [], [(0, [1]), (1, [1, 4]), (2, [1, 4, 13]), (4, [1, 4, 23]), (5, [2, 3]), (3, [1, 4]), (6, [5]), (7, [5, 6]), (8, [5, 6, 35]), (10, [5, 6, 7, 8]), (11, [5, 6, 7, 46]), (12, [2, 3]), (9, [5, 6]), (13, [2, 3])], [(2, [1, 4]), (8, [5, 6])], [], [], [], false, [], [], []⟩, g136, Proofs.Try.func126, by kernel_rfl, rfl⟩
theorem b120 : Bears Proofs.Try.prog (127, 120) := ⟨Proofs.Try.f127, ⟨[], [7, 13, 17, 25, 29, 38, 42, 53, 57], [], [(0, [0, 1]), (1, [4])], [], [], [], [], false, [], [], []⟩, g120, Proofs.Try.func127, by kernel_rfl, rfl⟩
theorem b121 : Bears Proofs.Try.prog (128, 121) := ⟨Proofs.Try.f128, ⟨[(2, 2, 0), (3, 3, 0), (4, 4, 0), (12, 3, 1), (15, 3, 2), (21, 3, 2), (36, 4, 2), (42, 4, 2), (43, 3, 3), (48, 3, 3)], [26], [], [(0, [0, 2]), (1, [0, 2, 3]), (2, [0, 2, 3]), (3, [0, 2, 3]), (4, [0, 2, 3, 14]), (5, [0, 2, 3]), (6, [0, 2, 3]), (7, [0, 2, 3, 28]), (8, [0, 2, 3, 4]), (9, [0, 2, 3, 4, 35]), (10, [0, 2, 3, 4]), (11, [0, 2, 3]), (12, [0, 2, 3, 51]), (13, [2, 3]), (14, [2])], [(4, [0, 2, 3]), (7, [0, 2, 3]), (9, [0, 2, 3, 4])], [], [], [], false, [], [], []⟩, g121, Proofs.Try.func128, by kernel_rfl, rfl⟩
theorem b122 : Bears Proofs.Try.prog (129, 122) := ⟨Proofs.Try.f129, ⟨[(2, 2, 0), (3, 3, 0), (11, 3, 1), (14, 3, 2), (17, 3, 3), (20, 3, 4), (30, 3, 9)], [25], [], [(0, [0, 2]), (1, [0, 2, 3]), (2, [0, 2, 3]), (3, [0, 2, 3]), (4, [0, 2, 3]), (5, [0, 2, 3, 16]), (6, [0, 2, 3]), (7, [0, 2, 3]), (8, [0, 2, 3]), (9, [0, 2, 3, 27]), (10, [0, 2, 3]), (11, [2, 3]), (12, [2])], [], [], [], [], false, [], [], []⟩, g122, Proofs.Try.func129, by kernel_rfl, rfl⟩
theorem b123 : Bears Proofs.Try.prog (130, 123) := ⟨Proofs.Try.f130, ⟨[(1, 1, 0), (2, 2, 0), (4, 4, 0), (7, 7, 0), (11, 11, 0), (15, 1, 0), (21, 1, 0), (29, 4, 2), (35, 4, 3), (40, 4, 0), (44, 4, 3), (50, 4, 3), (58, 4, 3), (65, 1, 1), (69, 1, 1), (76, 1, 0), (82, 1, 0), (88, 7, 3), (95, 7, 3), (105, 7, 3), (116, 7, 0), (120, 1, 1), (126, 1, 1), (131, 11, 3), (134, 11, 4), (140, 11, 9), (144, 11, 0), (148, 11, 9)], [], [], [(0, [1, 2]), (1, [1, 2, 3]), (2, [1, 2, 3, 18]), (4, [1, 2, 3, 4]), (5, [1, 2, 3, 4, 39]), (6, [2]), (7, [1, 2, 3, 4, 5]), (8, [1, 2, 3, 4, 5, 47]), (10, [1, 2, 3, 4, 5, 57]), (11, [2]), (9, [1, 2, 3, 4, 5]), (3, [1, 2, 3]), (12, [1, 2, 68]), (13, [2]), (14, [1, 2, 6]), (15, [1, 2, 6, 79]), (17, [1, 2, 6, 7]), (18, [1, 2, 6, 7, 8]), (19, [1, 2, 6, 7, 8, 91]), (21, [1, 2, 6, 7, 8, 9]), (22, [1, 2, 6, 7, 8, 9, 102]), (24, [1, 2, 6, 7, 8, 9, 115]), (25, [2]), (23, [1, 2, 6, 7, 8, 9]), (20, [1, 2, 6, 7, 8]), (16, [1, 2, 6]), (26, [1, 2, 10]), (27, [1, 2, 10, 123]), (29, [1, 2, 10, 11]), (30, [1, 2, 10, 11, 143]), (31, [2]), (32, [1, 2, 10, 12, 13]), (33, [1, 2, 10, 12, 153]), (34, [2]), (28, [1, 2, 10]), (35, [2])], [(2, [1, 2, 3]), (8, [1, 2, 3, 4, 5]), (15, [1, 2, 6]), (19, [1, 2, 6, 7, 8]), (22, [1, 2, 6, 7, 8, 9]), (27, [1, 2, 10])], [], [], [], false, [], [], []⟩, g123, Proofs.Try.func130, by kernel_rfl, rfl⟩
theorem b108 : Bears Proofs.Try.prog (132, 108) := ⟨Proofs.Try.f132, ⟨[], [], [], [(0, [0]), (1, [0, 3]), (2, [0, 3, 7]), (4, [0, 3, 14]), (5, [2]), (3, [0, 3]), (6, [2])], [(2, [0, 3])], [], [], [], false, [], [], []⟩, g108, Proofs.Try.func132, by kernel_rfl, rfl⟩
theorem b109 : Bears Proofs.Try.prog (133, 109) := ⟨Proofs.Try.f133, ⟨[], [], [], [(0, [0]), (1, [2])], [], [], [], [], false, [], [], []⟩, g109, Proofs.Try.func133, by kernel_rfl, rfl⟩
theorem b110 : Bears Proofs.Try.prog (134, 110) := ⟨Proofs.Try.f134, ⟨[], [], [], [(0, [0]), (1, [0, 3]), (2, [0, 3, 4]), (3, [0, 3, 4, 9]), (5, [0, 3, 4, 17]), (6, [2]), (4, [0, 3, 4]), (7, [2])], [(3, [0, 3, 4])], [], [], [], false, [], [], []⟩, g110, Proofs.Try.func134, by kernel_rfl, rfl⟩
theorem b111 : Bears Proofs.Try.prog (135, 111) := ⟨Proofs.Try.f135, ⟨[], [], [], [(0, [0]), (1, [2])], [], [], [], [], false, [], [], []⟩, g111, Proofs.Try.func135, by kernel_rfl, rfl⟩
theorem b117 : Bears Proofs.Try.prog (140, 117) := ⟨Proofs.Try.f140, ⟨[], [], [], [(0, [0]), (1, [2])], [], [], [], [], false, [], [], []⟩, g117, Proofs.Try.func140, by kernel_rfl, rfl⟩
theorem b125 : Bears Proofs.Try.prog (141, 125) := ⟨Proofs.Try.f141, ⟨[], [], [], [(0, [0]), (1, [0, 3]), (3, [0, 6]), (5, [0, 9]), (7, [0, 12]), (9, [15]), (10, [2]), (8, [2]), (6, [2]), (4, [2]), (2, [2]), (11, [2])], [], [], [], [], false, [], [], []⟩, g125, Proofs.Try.func141, by kernel_rfl, rfl⟩
theorem b126 : Bears Proofs.Try.prog (142, 126) := ⟨Proofs.Try.f142, ⟨[], [5, 9, 15, 19], [], [(0, [0]), (1, [0, 12]), (2, [2]), (3, [2])], [], [], [], [], false, [], [], []⟩, g126, Proofs.Try.func142, by kernel_rfl, rfl⟩
theorem b132 : Bears Proofs.Try.prog (143, 132) := ⟨Proofs.Try.f143, ⟨[], [10], [], [(0, [0, 1]), (1, [0, 7]), (3, [4]), (4, [4])], [], [], [], [], false, [], [], []⟩, g132, Proofs.Try.func143, by kernel_rfl, rfl⟩
theorem b128 : Bears Proofs.Try.prog (144, 128) := ⟨Proofs.Try.f144, ⟨[], [13, 20, 24], [], [(0, [0, 1]), (1, [0, 8]), (3, [4]), (4, [0]), (5, [4])], [], [], [], [], false, [], [], []⟩, g128, Proofs.Try.func144, by kernel_rfl, rfl⟩
theorem b127 : Bears Proofs.Try.prog (145, 127) := ⟨Proofs.Try.f145, ⟨[], [], [], [(0, [0, 7])], [], [], [], [], false, [], [], []⟩, g127, Proofs.Try.func145, by kernel_rfl, rfl⟩
theorem b140 : Bears Proofs.Try.prog (146, 140) := ⟨Proofs.Try.f146, ⟨[(4, 4, 0), (5, 5, 0), (6, 6, 0), (21, 6, 2), (27, 6, 2), (37, 6, 3), (38, 5, 5), (43, 5, 5)], [32], [], [(0, [0, 1, 4]), (1, [0, 4, 5]), (2, [0, 4, 5]), (3, [0, 4, 5, 6]), (4, [0, 4, 5, 6, 20]), (5, [0, 4, 5, 6]), (6, [0, 4, 5, 6]), (7, [0, 4, 5, 6, 33]), (8, [4]), (9, [0, 4, 5, 6]), (10, [0, 4, 5]), (11, [0, 4, 5, 46]), (12, [4, 5]), (13, [4])], [(3, [0, 4, 5]), (4, [0, 4, 5, 6])], [], [], [], false, [], [], []⟩, g140, Proofs.Try.func146, by kernel_rfl, rfl⟩
theorem b141 : Bears Proofs.Try.prog (147, 141) := ⟨Proofs.Try.f147, ⟨[(2, 2, 0), (4, 4, 0), (5, 5, 0), (6, 6, 0)], [51], [], [(0, [0, 2]), (1, [0, 2, 3]), (2, [0, 2, 3, 9]), (4, [0, 2, 3, 16]), (6, [0, 2, 3, 23]), (8, [0, 2, 3, 31]), (10, [0, 2, 3, 36]), (11, [0, 2, 3, 4]), (12, [2, 3, 4]), (13, [2]), (9, [2]), (7, [2]), (5, [2]), (3, [2]), (14, [0, 2, 3]), (15, [0, 2, 3, 52]), (16, [2]), (17, [0, 2, 3, 5]), (18, [0, 2, 3, 5, 57]), (19, [0, 2, 3, 5, 6]), (20, [0, 2, 5]), (21, [2, 5]), (22, [2])], [], [], [], [], false, [], [], []⟩, g141, Proofs.Try.func147, by kernel_rfl, rfl⟩
theorem b142 : Bears Proofs.Try.prog (148, 142) := ⟨Proofs.Try.f148, ⟨[(1, 1, 0), (3, 1, 0), (11, 1, 1), (15, 1, 1), (20, 1, 1)], [], [], [(0, [1]), (1, [1, 4]), (2, [1, 4, 5]), (3, [1, 4, 5]), (4, [1, 4, 5]), (6, [1, 9]), (7, [2]), (5, [2]), (8, [2])], [], [], [], [], false, [], [], []⟩, g142, Proofs.Try.func148, by kernel_rfl, rfl⟩
theorem b143 : Bears Proofs.Try.prog (149, 143) := ⟨Proofs.Try.f149, ⟨[(1, 1, 0)], [], [], [(0, [1]), (1, [1, 3]), (2, [3, 4]), (3, [3, 4, 5]), (4, [3, 4, 5, 11]), (6, [3, 4, 5]), (5, [3, 4, 5]), (7, [2])], [(4, [3, 4, 5])], [], [], [], false, [], [], []⟩, g143, Proofs.Try.func149, by kernel_rfl, rfl⟩
theorem b144 : Bears Proofs.Try.prog (150, 144) := ⟨Proofs.Try.f150, ⟨[(1, 1, 0), (5, 1, 0), (9, 1, 6)], [], [], [(0, [1]), (1, [1, 13]), (2, [2]), (3, [3]), (4, [3, 4]), (5, [3, 4, 19]), (7, [3, 4, 26]), (8, [2]), (6, [3, 4]), (9, [2])], [(5, [3, 4])], [], [], [], false, [], [], []⟩, g144, Proofs.Try.func150, by kernel_rfl, rfl⟩
theorem b129 : Bears Proofs.Try.prog (151, 129) := ⟨Proofs.Try.f151, ⟨[], [7, 13, 17, 25, 29], [], [(0, [0, 1]), (1, [4])], [], [], [], [], false, [], [], []⟩, g129, Proofs.Try.func151, by kernel_rfl, rfl⟩
theorem b130 : Bears Proofs.Try.prog (152, 130) := ⟨Proofs.Try.f152, ⟨[], [], [], [(0, [0]), (1, [2])], [], [], [], [], false, [], [], []⟩, g130, Proofs.Try.func152, by kernel_rfl, rfl⟩
theorem b131 : Bears Proofs.Try.prog (153, 131) := ⟨Proofs.Try.f153, ⟨[(2, 2, 0), (3, 3, 0)], [20], [], [(0, [0, 2]), (1, [0, 2, 4]), (3, [0, 2, 10]), (4, [2]), (2, [2]), (5, [0, 2]), (6, [0, 2, 21]), (7, [2]), (8, [0, 2, 3]), (9, [2, 3]), (10, [2])], [], [15], [], [], false, [], [], []⟩, g131, Proofs.Try.func153, by kernel_rfl, rfl⟩
theorem b133 : Bears Proofs.Try.prog (154, 133) := ⟨Proofs.Try.f154, ⟨[(2, 2, 0), (3, 3, 0), (11, 3, 4), (17, 3, 4)], [], [], [(0, [0, 2]), (1, [0, 2, 3]), (2, [0, 2, 3, 5]), (6, [0, 2, 3]), (3, [0, 2, 3]), (4, [0, 2, 3, 10]), (5, [0, 2, 3]), (7, [0, 2, 3, 21]), (8, [2]), (9, [2])], [(4, [0, 2, 3])], [8], [], [], false, [], [], []⟩, g133, Proofs.Try.func154, by kernel_rfl, rfl⟩
theorem b52 : Bears Proofs.Try.prog (155, 52) := ⟨Proofs.Try.f155, ⟨[(1, 1, 0), (6, 1, 4), (13, 1, 4)], [], [], [(0, [1]), (1, [1, 3]), (2, [1, 3, 4]), (3, [1, 3, 4, 9]), (5, [1, 3, 4]), (4, [1, 3, 4]), (6, [2])], [(3, [1, 3, 4])], [], [], [], false, [], [], []⟩, g52, Proofs.Try.func155, by kernel_rfl, rfl⟩
theorem b124 : Bears Proofs.Try.prog (158, 124) := ⟨Proofs.Try.f158, ⟨[], [], [], [(0, [0]), (1, [2])], [], [], [], [], false, [], [], []⟩, g124, Proofs.Try.func158, by kernel_rfl, rfl⟩
theorem b137 : Bears Proofs.Try.prog (159, 137) := ⟨Proofs.Try.f159, ⟨[], [], [], [(0, [0]), (1, [0, 20]), (2, [2]), (3, [0, 3]), (4, [0, 3, 24]), (6, [0, 3, 31]), (7, [2]), (5, [0, 3]), (8, [2])], [(4, [0, 3])], [], [], [], false, [], [], []⟩, g137, Proofs.Try.func159, by kernel_rfl, rfl⟩
theorem b138 : Bears Proofs.Try.prog (160, 138) := ⟨Proofs.Try.f160, ⟨[], [], [], [(0, [0]), (1, [0, 5]), (2, [2]), (3, [0, 3]), (4, [0, 3, 7]), (6, [0, 3, 15]), (7, [2]), (5, [0, 3]), (8, [2])], [(4, [0, 3])], [], [], [], false, [], [], []⟩, g138, Proofs.Try.func160, by kernel_rfl, rfl⟩
theorem b146 : Bears Proofs.Try.prog (161, 146) := ⟨Proofs.Try.f161, ⟨[], [], [], [(0, [0]), (1, [0, 3]), (2, [0, 3, 4]), (3, [0, 3, 4, 8]), (5, [0, 3, 4]), (4, [0, 3, 4]), (6, [2])], [(3, [0, 3, 4])], [], [], [], false, [], [], []⟩, g146, Proofs.Try.func161, by kernel_rfl, rfl⟩
theorem b422 : Bare Proofs.Try.prog (103, 422) := ⟨⟨Proofs.Try.f103, bodyOf Proofs.Try.f103, Proofs.Try.func103, by kernel_rfl, by decide⟩, rfl⟩
theorem b420 : Bare Proofs.Try.prog (104, 420) := ⟨⟨Proofs.Try.f104, bodyOf Proofs.Try.f104, Proofs.Try.func104, by kernel_rfl, by decide⟩, rfl⟩

theorem all_bear : ∀ q ∈ ns.g, Bears Proofs.Try.prog q ∨ Bare Proofs.Try.prog q := by
  intro q hq
  simp only [ns, List.mem_cons, List.not_mem_nil, or_false] at hq
  rcases hq with rfl | rfl | rfl | rfl | rfl | rfl | rfl | rfl | rfl | rfl | rfl | rfl | rfl | rfl | rfl | rfl | rfl | rfl | rfl | rfl | rfl | rfl | rfl | rfl | rfl | rfl | rfl | rfl | rfl | rfl | rfl | rfl | rfl | rfl | rfl | rfl | rfl | rfl | rfl | rfl | rfl | rfl | rfl | rfl | rfl | rfl | rfl | rfl | rfl | rfl | rfl | rfl | rfl | rfl | rfl | rfl | rfl | rfl | rfl | rfl | rfl | rfl | rfl | rfl | rfl | rfl | rfl | rfl | rfl | rfl | rfl | rfl | rfl | rfl | rfl | rfl | rfl | rfl | rfl | rfl | rfl | rfl
  · exact .inl b424
  · exact .inl b401
  · exact .inl b15
  · exact .inl b26
  · exact .inl b247
  · exact .inl b32
  · exact .inl b405
  · exact .inl b145
  · exact .inl b408
  · exact .inl b404
  · exact .inl b432
  · exact .inl b27
  · exact .inl b106
  · exact .inl b406
  · exact .inl b407
  · exact .inl b68
  · exact .inl b175
  · exact .inl b79
  · exact .inl b214
  · exact .inl b190
  · exact .inl b415
  · exact .inl b185
  · exact .inl b414
  · exact .inl b409
  · exact .inl b411
  · exact .inl b364
  · exact .inl b380
  · exact .inl b410
  · exact .inl b412
  · exact .inl b413
  · exact .inl b439
  · exact .inl b440
  · exact .inl b69
  · exact .inl b34
  · exact .inl b62
  · exact .inl b250
  · exact .inl b416
  · exact .inl b417
  · exact .inl b418
  · exact .inl b419
  · exact .inl b112
  · exact .inl b223
  · exact .inl b215
  · exact .inl b421
  · exact .inl b77
  · exact .inl b78
  · exact .inl b118
  · exact .inl b119
  · exact .inl b134
  · exact .inl b139
  · exact .inl b135
  · exact .inl b136
  · exact .inl b120
  · exact .inl b121
  · exact .inl b122
  · exact .inl b123
  · exact .inl b108
  · exact .inl b109
  · exact .inl b110
  · exact .inl b111
  · exact .inl b117
  · exact .inl b125
  · exact .inl b126
  · exact .inl b132
  · exact .inl b128
  · exact .inl b127
  · exact .inl b140
  · exact .inl b141
  · exact .inl b142
  · exact .inl b143
  · exact .inl b144
  · exact .inl b129
  · exact .inl b130
  · exact .inl b131
  · exact .inl b133
  · exact .inl b52
  · exact .inl b124
  · exact .inl b137
  · exact .inl b138
  · exact .inl b146
  · exact .inr b422
  · exact .inr b420

theorem u422 : ∀ q ∈ ns.g, q.2 = 422 → q.1 = 103 := by decide +kernel
theorem clone422 : Nonempty (CloneDat Proofs.Try.prog ns 103 11 152) := ⟨
  { fn := Proofs.Try.f103, A := ⟨[], [], [], [], [], [], [], [], false, [], [], []⟩, t := (binTypes (operOf Proofs.Try.f103 1 1)).1, el := elOf Proofs.Try.prog (binTypes (operOf Proofs.Try.f103 1 1)).1, ty := (binTypes (operOf Proofs.Try.f103 1 1)).2,
    o0 := operOf Proofs.Try.f103 0 0, m := operOf Proofs.Try.f103 1 0, e := operOf Proofs.Try.f103 1 1, o2 := operOf Proofs.Try.f103 2 0, b := operOf Proofs.Try.f103 3 0, m3 := operOf Proofs.Try.f103 3 1, ap := operOf Proofs.Try.f103 3 2, fi := operOf Proofs.Try.f103 3 3,
    r0 := regNo Proofs.Try.f103 0, r1 := regNo Proofs.Try.f103 1, r2 := regNo Proofs.Try.f103 2, r3 := regNo Proofs.Try.f103 3,
    hf := Proofs.Try.func103, hbody := by kernel_rfl, hres := by kernel_rfl, hN := by kernel_rfl, h0 := ⟨by kernel_rfl, by kernel_rfl, by kernel_rfl⟩, h1 := ⟨by kernel_rfl, by kernel_rfl, by kernel_rfl⟩, h2 := ⟨by kernel_rfl, by kernel_rfl, by kernel_rfl⟩, hu := by kernel_rfl, h3 := ⟨by kernel_rfl, by kernel_rfl, by kernel_rfl⟩, h4 := ⟨by kernel_rfl, by kernel_rfl, by kernel_rfl⟩, h5 := ⟨by kernel_rfl, by kernel_rfl, by kernel_rfl⟩, h6 := ⟨by kernel_rfl, by kernel_rfl, by kernel_rfl⟩, h7 := ⟨by kernel_rfl, by kernel_rfl, by kernel_rfl⟩ }⟩

theorem u420 : ∀ q ∈ ns.g, q.2 = 420 → q.1 = 104 := by decide +kernel
theorem clone420 : Nonempty (CloneDat Proofs.Try.prog ns 104 1 16) := ⟨
  { fn := Proofs.Try.f104, A := ⟨[], [], [], [], [], [], [], [], false, [], [], []⟩, t := (binTypes (operOf Proofs.Try.f104 1 1)).1, el := elOf Proofs.Try.prog (binTypes (operOf Proofs.Try.f104 1 1)).1, ty := (binTypes (operOf Proofs.Try.f104 1 1)).2,
    o0 := operOf Proofs.Try.f104 0 0, m := operOf Proofs.Try.f104 1 0, e := operOf Proofs.Try.f104 1 1, o2 := operOf Proofs.Try.f104 2 0, b := operOf Proofs.Try.f104 3 0, m3 := operOf Proofs.Try.f104 3 1, ap := operOf Proofs.Try.f104 3 2, fi := operOf Proofs.Try.f104 3 3,
    r0 := regNo Proofs.Try.f104 0, r1 := regNo Proofs.Try.f104 1, r2 := regNo Proofs.Try.f104 2, r3 := regNo Proofs.Try.f104 3,
    hf := Proofs.Try.func104, hbody := by kernel_rfl, hres := by kernel_rfl, hN := by kernel_rfl, h0 := ⟨by kernel_rfl, by kernel_rfl, by kernel_rfl⟩, h1 := ⟨by kernel_rfl, by kernel_rfl, by kernel_rfl⟩, h2 := ⟨by kernel_rfl, by kernel_rfl, by kernel_rfl⟩, hu := by kernel_rfl, h3 := ⟨by kernel_rfl, by kernel_rfl, by kernel_rfl⟩, h4 := ⟨by kernel_rfl, by kernel_rfl, by kernel_rfl⟩, h5 := ⟨by kernel_rfl, by kernel_rfl, by kernel_rfl⟩, h6 := ⟨by kernel_rfl, by kernel_rfl, by kernel_rfl⟩, h7 := ⟨by kernel_rfl, by kernel_rfl, by kernel_rfl⟩ }⟩

theorem look_memI {α : Type} {t : Nat} {v : α} : ∀ {l : List (Nat × α)}, look l t = some v → (t, v) ∈ l
  | [], h => by simp [look] at h
  | (k, u) :: r, h => by
    simp only [look] at h
    split at h
    · rename_i e; cases h; subst e; exact List.mem_cons_self
    · exact List.mem_cons_of_mem _ (look_memI h)

theorem backs_ok : BacksOk Proofs.Try.prog ns := by
  intro gb sz ag h f hf
  simp [look, ns] at h

theorem clones_ok : ∀ g sz bytes f, look ns.cl g = some (sz, bytes) → ns.of f = some g → Nonempty (CloneDat Proofs.Try.prog ns f sz bytes) := by
  intro g sz bytes f h hf
  simp only [ns, look] at h
  split at h
  · rename_i e; subst e; cases h
    have := u422 (f, 422) (look_memI hf) rfl
    simp only at this; subst this; exact clone422
  split at h
  · rename_i e; subst e; cases h
    have := u420 (f, 420) (look_memI hf) rfl
    simp only at this; subst this; exact clone420
  cases h

theorem impl : Impl Proofs.Try.prog ns AP := ⟨by kernel_rfl, fun f g h => (all_bear (f, g) (look_memI h)).imp id fun ⟨h1, h2⟩ => ⟨h1, .inl h2⟩, backs_ok, clones_ok⟩

end Go.Ab
