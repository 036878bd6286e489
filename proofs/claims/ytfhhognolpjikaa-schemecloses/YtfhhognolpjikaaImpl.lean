import Derived.Test.YtfhhognolpjikaaRows
import Derived.Test.YtfhhognolpjikaaCodeA
import Derived.Test.YtfhhognolpjikaaAbDat
import Derived.Test.YtfhhognolpjikaaAbBridge
/-
  Each function of the given program that has slim code bears just that code: the kernel translates it anew and compares.
-/
namespace Go.Ab

def ns : Names := ⟨[(7, 427), (12, 15), (13, 26), (17, 32), (20, 145), (24, 433), (25, 434), (26, 208), (27, 237), (29, 57), (31, 27), (32, 72), (33, 106), (34, 435), (36, 437), (37, 438), (38, 63), (39, 95), (40, 183), (41, 46), (42, 176), (44, 229), (47, 56), (53, 68), (55, 79), (74, 69), (75, 20), (76, 70), (77, 71), (78, 239), (79, 49), (82, 34), (83, 62), (84, 441), (85, 29), (89, 55), (90, 98), (91, 45), (93, 33), (94, 99), (100, 112), (109, 73), (110, 74), (111, 75), (112, 76), (113, 77), (114, 78), (115, 96), (116, 97), (117, 116), (118, 91), (119, 92), (120, 35), (121, 118), (122, 119), (123, 134), (124, 139), (125, 135), (126, 136), (127, 120), (128, 121), (129, 122), (130, 123), (131, 107), (132, 108), (133, 109), (134, 110), (135, 111), (136, 80), (137, 81), (138, 82), (139, 83), (140, 117), (141, 125), (142, 126), (143, 132), (144, 128), (145, 127), (146, 140), (147, 141), (148, 142), (149, 143), (150, 144), (151, 129), (152, 130), (153, 131), (154, 133), (155, 52), (156, 113), (157, 114), (158, 124), (159, 137), (160, 138), (161, 146), (103, 422), (104, 420)],
  [434, 27, 68, 239, 75, 96, 97, 91, 92, 119, 134, 139, 120, 121, 122, 107, 83, 126, 132, 128, 127, 140, 141, 129, 130, 131, 133], [], [(422, 11, 152), (420, 1, 16)]⟩

/-- A function's slim code is what its number stands for. -/
def Bears (P : Program) (q : Nat × Nat) : Prop := ∃ fn A af, P.funcs[q.1]? = some fn ∧ compF P ns A fn = some af ∧ AP q.2 = some af
/-- A function that is known by its code's shape. -/
def Bare (P : Program) (q : Nat × Nat) : Prop := (∃ fn b, P.funcs[q.1]? = some fn ∧ fn.body = some b ∧ fn.name ≠ "runtime.NumGoroutine") ∧ AP q.2 = none

theorem b427 : Bears Proofs.Try.prog (7, 427) := ⟨Proofs.Try.f7, ⟨[(8, 8, 0), (13, 13, 0)], [59], [74], [(0, [0, 1, 2]), (1, [0, 1, 2, 15]), (2, [6]), (3, [0, 1, 2, 18]), (4, [6]), (5, [0, 2, 7]), (6, [2, 8, 9]), (7, [2, 8, 9, 10]), (8, [2, 8, 9, 10, 11]), (9, [2, 8, 9, 10, 11, 12]), (10, [2, 8, 9, 10, 11, 12, 29]), (12, [2, 8, 9, 10, 11, 12]), (13, [2, 8, 9, 10, 11, 12, 41]), (14, [2, 8, 9, 10, 11, 12]), (15, [2, 8, 9, 10, 11, 12]), (11, [2, 8, 9, 10, 11, 12]), (16, [8, 9, 10, 11, 13]), (17, [6])], [(10, [2, 8, 9, 10, 11, 12])], [], [], [], false, [], [38], [(16, [10])]⟩, g427, Proofs.Try.func7, by kernel_rfl, rfl⟩
theorem b15 : Bears Proofs.Try.prog (12, 15) := ⟨Proofs.Try.f12, ⟨[], [], [], [(0, [0]), (1, [2])], [], [], [], [], false, [], [], []⟩, g15, Proofs.Try.func12, by kernel_rfl, rfl⟩
theorem b26 : Bears Proofs.Try.prog (13, 26) := ⟨Proofs.Try.f13, ⟨[], [], [], [(0, [0, 1]), (1, [0, 1, 6]), (2, [4]), (3, [0, 1]), (4, [0, 1, 11]), (5, [0]), (6, [4])], [], [], [], [], false, [], [], []⟩, g26, Proofs.Try.func13, by kernel_rfl, rfl⟩
theorem b32 : Bears Proofs.Try.prog (17, 32) := ⟨Proofs.Try.f17, ⟨[], [], [], [(0, [0]), (1, [0, 3]), (2, [0, 3, 4]), (3, [0, 3, 4, 14]), (4, [0, 3, 4]), (5, [0, 3, 4, 5]), (6, [0, 3, 4, 5, 24]), (8, [0, 3, 4, 5, 36]), (9, [0, 3, 4, 5]), (7, [0, 3, 4, 5]), (10, [2])], [(6, [0, 3, 4, 5])], [], [], [], false, [], [], []⟩, g32, Proofs.Try.func17, by kernel_rfl, rfl⟩
theorem b145 : Bears Proofs.Try.prog (20, 145) := ⟨Proofs.Try.f20, ⟨[(1, 1, 0), (5, 1, 4), (9, 1, 5), (16, 1, 5)], [], [], [(0, [1]), (1, [1, 3]), (2, [1, 3, 4]), (3, [1, 3, 4, 12]), (5, [1, 3, 4]), (4, [1, 3, 4]), (6, [2])], [(3, [1, 3, 4])], [], [], [], false, [], [], []⟩, g145, Proofs.Try.func20, by kernel_rfl, rfl⟩
theorem b433 : Bears Proofs.Try.prog (24, 433) := ⟨Proofs.Try.f24, ⟨[(1, 1, 0), (2, 2, 0), (3, 3, 0), (27, 3, 0), (32, 3, 1)], [], [], [(1, [1]), (2, [1, 2]), (3, [1, 2, 3]), (4, [0])], [], [], [], [], false, [], [], []⟩, g433, Proofs.Try.func24, by kernel_rfl, rfl⟩
theorem b434 : Bears Proofs.Try.prog (25, 434) := ⟨Proofs.Try.f25, ⟨[(4, 4, 0), (6, 6, 0)], [], [], [(0, [0, 1, 4]), (1, [0, 4, 6]), (2, [0, 4, 6, 7]), (3, [0, 4, 6, 7, 8]), (4, [0, 4, 6, 7, 8, 20]), (6, [0, 4, 6, 7, 8]), (5, [0, 4, 6, 7, 8]), (7, [4, 5])], [(4, [0, 4, 6, 7, 8])], [12], [], [], false, [], [], []⟩, g434, Proofs.Try.func25, by kernel_rfl, rfl⟩
theorem b208 : Bears Proofs.Try.prog (26, 208) := ⟨Proofs.Try.f26, ⟨[(2, 2, 0), (4, 4, 0)], [], [], [(0, [1, 2, 4]), (1, [1, 2, 4, 5]), (2, [1, 2, 4, 5, 6]), (3, [1, 2, 4, 5, 6, 7]), (4, [1, 2, 4, 5, 6, 7, 14]), (6, [1, 2, 4, 5, 6, 7, 22]), (7, [1, 2, 4, 5, 6, 7]), (5, [1, 2, 4, 5, 6, 7]), (8, [4])], [(4, [1, 2, 4, 5, 6, 7])], [], [], [], false, [], [], []⟩, g208, Proofs.Try.func26, by kernel_rfl, rfl⟩
theorem b237 : Bears Proofs.Try.prog (27, 237) := ⟨Proofs.Try.f27, ⟨[(2, 2, 0), (3, 3, 0), (11, 2, 1), (16, 2, 0), (19, 2, 1)], [], [], [(0, [2, 3]), (1, [2, 3, 6]), (2, [2, 6, 15]), (3, [4, 5]), (4, [6, 7]), (5, [6, 7, 25, 26]), (6, [6, 7, 25, 26, 27]), (7, [6, 7, 8, 25, 26]), (8, [6, 7, 25, 26]), (9, [6, 7, 25, 26]), (10, [4, 5])], [(6, [6, 7, 25, 26])], [], [], [], false, [], [], []⟩, g237, Proofs.Try.func27, by kernel_rfl, rfl⟩
theorem b57 : Bears Proofs.Try.prog (29, 57) := ⟨Proofs.Try.f29, ⟨[], [], [], [(0, [0, 1]), (1, [0, 1, 10]), (2, [4]), (3, [0, 1, 5]), (4, [0, 1, 5, 14]), (6, [0, 1, 5, 26]), (7, [4]), (5, [0, 1, 5]), (8, [4])], [(4, [0, 1, 5])], [], [], [], false, [], [], []⟩, g57, Proofs.Try.func29, by kernel_rfl, rfl⟩
theorem b27 : Bears Proofs.Try.prog (31, 27) := ⟨Proofs.Try.f31, ⟨[(8, 8, 0), (10, 10, 0), (13, 13, 0), (62, 10, 2), (77, 10, 1)], [29, 59], [], [(0, [0, 1, 2, 3, 8]), (1, [0, 1, 2, 3, 8, 9]), (2, [0, 1, 2, 3, 8, 9, 16]), (4, [0, 1, 2, 3, 8, 9, 31]), (6, [0, 1, 2, 3, 8, 9, 39]), (7, [0, 1, 2, 3, 8, 39]), (8, [0, 1, 2, 3, 8, 10]), (9, [0, 1, 2, 3, 8, 10, 11]), (10, [0, 1, 2, 3, 8, 10, 11, 12]), (11, [0, 1, 2, 3, 8, 10, 11, 12, 65]), (13, [0, 1, 2, 3, 8, 10, 11, 12]), (12, [0, 1, 2, 3, 8, 10, 11, 12]), (14, [8]), (5, [8]), (3, [8]), (15, [0, 1, 2, 3, 8, 13]), (16, [8])], [(11, [0, 1, 2, 3, 8, 10, 11, 12])], [], [], [], false, [], [], []⟩, g27, Proofs.Try.func31, by kernel_rfl, rfl⟩
theorem b72 : Bears Proofs.Try.prog (32, 72) := ⟨Proofs.Try.f32, ⟨[(2, 2, 0)], [], [], [(0, [0, 2]), (1, [2])], [], [], [], [], false, [], [], []⟩, g72, Proofs.Try.func32, by kernel_rfl, rfl⟩
theorem b106 : Bears Proofs.Try.prog (33, 106) := ⟨Proofs.Try.f33, ⟨[(2, 2, 0)], [], [], [(0, [0, 2]), (1, [2])], [], [], [], [], false, [], [], []⟩, g106, Proofs.Try.func33, by kernel_rfl, rfl⟩
theorem b435 : Bears Proofs.Try.prog (34, 435) := ⟨Proofs.Try.f34, ⟨[(1, 1, 0), (8, 1, 1), (16, 1, 1), (24, 1, 0)], [], [], [(0, [1]), (1, [1, 3, 4]), (2, [3, 27]), (3, [2]), (4, [28, 29, 30]), (5, [28, 29, 30, 31]), (6, [5, 6, 28, 29, 30]), (7, [28, 29, 30, 37]), (8, [2]), (9, [28, 29, 30]), (10, [2])], [(5, [28, 29, 30])], [], [], [], false, [], [], []⟩, g435, Proofs.Try.func34, by kernel_rfl, rfl⟩
theorem b437 : Bears Proofs.Try.prog (36, 437) := ⟨Proofs.Try.f36, ⟨[(2, 2, 0), (4, 4, 0)], [], [], [(0, [1, 2, 4]), (1, [1, 2, 4, 5]), (2, [1, 2, 4, 5, 10, 11, 12]), (3, [1, 2, 4, 5, 10, 11, 12, 13]), (4, [1, 2, 4, 5, 7, 10, 11, 12]), (5, [1, 2, 4, 5, 7, 10, 11, 12, 18]), (6, [1, 2, 4, 5, 10, 11, 12]), (7, [1, 2, 4, 5, 10, 11, 12]), (8, [4])], [(3, [1, 2, 4, 5, 10, 11, 12])], [], [], [], false, [], [], []⟩, g437, Proofs.Try.func36, by kernel_rfl, rfl⟩
theorem b438 : Bears Proofs.Try.prog (37, 438) := ⟨Proofs.Try.f37, ⟨[(1, 1, 0), (2, 2, 0)], [], [], [(0, [1, 2]), (1, [2])], [], [], [], [], false, [], [], []⟩, g438, Proofs.Try.func37, by kernel_rfl, rfl⟩
theorem b63 : Bears Proofs.Try.prog (38, 63) := ⟨Proofs.Try.f38, ⟨[(2, 2, 0)], [], [], [(0, [0, 2]), (1, [2])], [], [], [], [], false, [], [], []⟩, g63, Proofs.Try.func38, by kernel_rfl, rfl⟩
theorem b95 : Bears Proofs.Try.prog (39, 95) := ⟨Proofs.Try.f39, ⟨[], [], [], [(0, [0, 1]), (1, [0, 1, 5]), (2, [0, 1, 5, 9]), (4, [0, 1, 5, 17]), (5, [4]), (3, [0, 1, 5]), (6, [4])], [(2, [0, 1, 5])], [], [], [], false, [], [], []⟩, g95, Proofs.Try.func39, by kernel_rfl, rfl⟩
theorem b183 : Bears Proofs.Try.prog (40, 183) := ⟨Proofs.Try.f40, ⟨[(2, 2, 0), (3, 3, 0), (5, 2, 0), (7, 3, 0), (11, 2, 1), (13, 3, 1)], [], [], [(0, [2, 3]), (1, [4])], [], [], [], [], false, [], [], []⟩, g183, Proofs.Try.func40, by kernel_rfl, rfl⟩
theorem b46 : Bears Proofs.Try.prog (41, 46) := ⟨Proofs.Try.f41, ⟨[(2, 2, 0), (4, 4, 0), (6, 6, 0), (8, 2, 0), (22, 2, 2), (32, 6, 4), (34, 2, 4), (40, 6, 4), (42, 2, 4), (51, 6, 4)], [], [], [(0, [1, 2, 4]), (1, [1, 2, 4, 10]), (2, [1, 2, 4, 5]), (3, [1, 2, 4, 5, 14]), (5, [1, 2, 4, 5, 24]), (6, [4]), (4, [1, 2, 4, 5]), (7, [4]), (8, [1, 2, 4, 6]), (9, [1, 2, 4, 6]), (10, [1, 2, 4, 6, 7]), (11, [1, 2, 4, 6, 7, 37]), (13, [1, 2, 4, 6, 7]), (12, [1, 2, 4, 6, 7]), (14, [4])], [(3, [1, 2, 4, 5]), (11, [1, 2, 4, 6, 7])], [], [], [], false, [], [], []⟩, g46, Proofs.Try.func41, by kernel_rfl, rfl⟩
theorem b176 : Bears Proofs.Try.prog (42, 176) := ⟨Proofs.Try.f42, ⟨[(1, 1, 0), (2, 2, 0)], [], [], [(0, [1, 2]), (1, [2])], [], [], [], [], false, [], [], []⟩, g176, Proofs.Try.func42, by kernel_rfl, rfl⟩
theorem b229 : Bears Proofs.Try.prog (44, 229) := ⟨Proofs.Try.f44, ⟨[(2, 2, 0), (3, 3, 0), (9, 3, 1)], [], [], [(0, [2, 3]), (1, [6]), (2, [4])], [], [], [], [], false, [], [], []⟩, g229, Proofs.Try.func44, by kernel_rfl, rfl⟩
theorem b56 : Bears Proofs.Try.prog (47, 56) := ⟨Proofs.Try.f47, ⟨[], [], [], [(0, [0]), (1, [0, 3]), (2, [0, 3, 4]), (3, [0, 3, 4, 10]), (5, [0, 3, 4]), (4, [0, 3, 4]), (6, [3, 5]), (7, [3, 5, 6]), (8, [3, 5, 6, 22]), (10, [3, 5, 6, 32]), (11, [3, 5, 6]), (9, [3, 5, 6]), (12, [2])], [(3, [0, 3, 4]), (8, [3, 5, 6])], [18], [(18, [0])], [], false, [], [], []⟩, g56, Proofs.Try.func47, by kernel_rfl, rfl⟩
theorem b68 : Bears Proofs.Try.prog (53, 68) := ⟨Proofs.Try.f53, ⟨[], [7, 11, 17, 24, 28], [], [(0, [0, 1]), (1, [0, 1, 14]), (2, [4]), (3, [0, 1]), (4, [4])], [], [], [], [], false, [], [], []⟩, g68, Proofs.Try.func53, by kernel_rfl, rfl⟩
theorem b79 : Bears Proofs.Try.prog (55, 79) := ⟨Proofs.Try.f55, ⟨[(1, 1, 0), (2, 2, 0), (7, 1, 0)], [], [], [(1, [1]), (2, [0])], [], [], [], [], false, [], [], []⟩, g79, Proofs.Try.func55, by kernel_rfl, rfl⟩
theorem b69 : Bears Proofs.Try.prog (74, 69) := ⟨Proofs.Try.f74, ⟨[(2, 2, 0), (3, 3, 0), (4, 4, 0)], [], [], [(0, [2, 3, 4]), (1, [4])], [], [], [], [], false, [], [], []⟩, g69, Proofs.Try.func74, by kernel_rfl, rfl⟩
theorem b20 : Bears Proofs.Try.prog (75, 20) := ⟨Proofs.Try.f75, ⟨[(2, 2, 0), (3, 3, 0), (5, 2, 0), (7, 3, 0), (11, 2, 1), (13, 3, 1), (18, 2, 2), (20, 3, 2), (25, 2, 3), (27, 3, 3), (31, 2, 4), (33, 3, 4)], [], [], [(0, [2, 3]), (1, [2, 3, 30]), (2, [4]), (3, [4])], [], [], [], [], false, [], [], []⟩, g20, Proofs.Try.func75, by kernel_rfl, rfl⟩
theorem b70 : Bears Proofs.Try.prog (76, 70) := ⟨Proofs.Try.f76, ⟨[], [], [], [(0, [0]), (1, [0, 3]), (2, [0, 3, 4]), (3, [0, 3, 4, 7]), (5, [0, 3, 4]), (4, [0, 3, 4]), (6, [2])], [(3, [0, 3, 4])], [], [], [], false, [], [], []⟩, g70, Proofs.Try.func76, by kernel_rfl, rfl⟩
theorem b71 : Bears Proofs.Try.prog (77, 71) := ⟨Proofs.Try.f77, ⟨[(4, 4, 0)], [], [], [(0, [0, 1, 4]), (1, [4])], [], [], [], [], false, [], [], []⟩, g71, Proofs.Try.func77, by kernel_rfl, rfl⟩
theorem b239 : Bears Proofs.Try.prog (78, 239) := ⟨Proofs.Try.f78, ⟨[(4, 4, 0), (5, 5, 0), (7, 7, 0), (10, 4, 0), (15, 4, 2), (21, 4, 2), (31, 4, 0), (33, 5, 0), (37, 4, 1), (39, 5, 1), (44, 4, 2), (46, 5, 2), (51, 4, 3), (53, 5, 3), (58, 4, 4), (61, 5, 4), (66, 5, 4), (73, 4, 4), (78, 5, 4)], [], [], [(0, [0, 4, 5]), (1, [0, 4, 5, 12]), (2, [0, 4, 5, 7, 8]), (3, [5, 7, 8]), (4, [6]), (5, [0, 4, 5, 65]), (6, [6]), (7, [0, 4, 5, 68, 69]), (8, [0, 4, 5, 68, 69, 70]), (9, [0, 4, 5, 9, 68, 69]), (10, [0, 4, 5, 68, 69, 84]), (11, [6]), (12, [0, 4, 5, 68, 69]), (13, [6])], [(8, [0, 4, 5, 68, 69])], [], [], [], false, [], [], []⟩, g239, Proofs.Try.func78, by kernel_rfl, rfl⟩
theorem b49 : Bears Proofs.Try.prog (79, 49) := ⟨Proofs.Try.f79, ⟨[(1, 1, 0), (5, 5, 0), (6, 1, 4)], [], [], [(0, [1]), (1, [1, 3]), (2, [3, 7, 8, 9]), (3, [3, 7, 8, 9, 10]), (4, [3, 5, 7, 8, 9]), (5, [3, 7, 8, 9]), (6, [3, 7, 8, 9]), (7, [2])], [(3, [3, 7, 8, 9])], [], [], [], false, [], [], []⟩, g49, Proofs.Try.func79, by kernel_rfl, rfl⟩
theorem b34 : Bears Proofs.Try.prog (82, 34) := ⟨Proofs.Try.f82, ⟨[(0, 0, 0)], [], [], [(0, [0]), (1, [0])], [], [], [], [], false, [], [], []⟩, g34, Proofs.Try.func82, by kernel_rfl, rfl⟩
theorem b62 : Bears Proofs.Try.prog (83, 62) := ⟨Proofs.Try.f83, ⟨[(4, 4, 0)], [], [], [(0, [0, 1, 4]), (1, [4])], [], [], [], [], false, [], [], []⟩, g62, Proofs.Try.func83, by kernel_rfl, rfl⟩
theorem b441 : Bears Proofs.Try.prog (84, 441) := ⟨Proofs.Try.f84, ⟨[(1, 1, 0), (6, 6, 0), (11, 1, 0), (15, 1, 2), (20, 1, 4)], [], [], [(0, [1]), (1, [1, 12]), (2, [1, 12, 13]), (4, [1, 18]), (5, [2, 3]), (3, [2, 3]), (6, [1, 4]), (7, [4, 21, 22, 23]), (8, [4, 21, 22, 23, 24]), (9, [4, 6, 21, 22, 23]), (10, [4, 7, 8, 21, 22, 23]), (11, [4, 7, 21, 22, 23, 33]), (12, [2, 3]), (13, [4, 21, 22, 23, 34, 35, 36]), (14, [4, 21, 22, 23, 34, 35, 36, 37]), (15, [4, 10, 21, 22, 23, 34, 35, 36]), (16, [4, 10, 21, 22, 23, 34, 35, 36, 43]), (17, [4, 21, 22, 23, 34, 35, 36]), (18, [4, 21, 22, 23, 34, 35, 36]), (19, [4, 21, 22, 23]), (20, [2, 3])], [(8, [4, 21, 22, 23]), (14, [4, 21, 22, 23, 34, 35, 36])], [], [], [], false, [], [], []⟩, g441, Proofs.Try.func84, by kernel_rfl, rfl⟩
theorem b29 : Bears Proofs.Try.prog (85, 29) := ⟨Proofs.Try.f85, ⟨[(1, 1, 0), (4, 1, 1), (8, 1, 4), (14, 1, 2), (19, 1, 2), (23, 1, 0), (30, 1, 3), (38, 1, 3), (43, 1, 3), (49, 1, 4), (54, 1, 2), (59, 1, 3), (64, 1, 1), (70, 1, 2), (74, 1, 3), (79, 1, 1), (81, 1, 4), (87, 1, 4)], [], [], [(0, [1]), (1, [1, 3]), (2, [1, 3, 24]), (3, [1, 3, 24, 25]), (4, [1, 3, 24, 25]), (6, [1, 3, 24, 34]), (8, [1, 24, 47]), (10, [1, 68]), (11, [2]), (9, [2]), (7, [2]), (5, [2]), (12, [2])], [], [], [], [], false, [], [], []⟩, g29, Proofs.Try.func85, by kernel_rfl, rfl⟩
theorem b55 : Bears Proofs.Try.prog (89, 55) := ⟨Proofs.Try.f89, ⟨[(5, 5, 0)], [3], [], [(0, [0]), (1, [0, 3]), (2, [3, 6, 7, 8]), (3, [3, 6, 7, 8, 9]), (4, [3, 5, 6, 7, 8]), (5, [3, 6, 7, 8]), (6, [3, 6, 7, 8]), (7, [2])], [(3, [3, 6, 7, 8])], [], [], [], false, [], [], []⟩, g55, Proofs.Try.func89, by kernel_rfl, rfl⟩
theorem b98 : Bears Proofs.Try.prog (90, 98) := ⟨Proofs.Try.f90, ⟨[], [], [], [(0, [0, 1]), (1, [4])], [], [], [], [], false, [], [], []⟩, g98, Proofs.Try.func90, by kernel_rfl, rfl⟩
theorem b45 : Bears Proofs.Try.prog (91, 45) := ⟨Proofs.Try.f91, ⟨[(2, 2, 0), (4, 4, 0)], [], [], [(0, [2, 3, 4]), (1, [4])], [], [], [], [], false, [], [], []⟩, g45, Proofs.Try.func91, by kernel_rfl, rfl⟩
theorem b33 : Bears Proofs.Try.prog (93, 33) := ⟨Proofs.Try.f93, ⟨[(2, 2, 0), (3, 3, 0)], [], [], [(0, [2, 3]), (1, [4])], [], [], [], [], false, [], [], []⟩, g33, Proofs.Try.func93, by kernel_rfl, rfl⟩
theorem b99 : Bears Proofs.Try.prog (94, 99) := ⟨Proofs.Try.f94, ⟨[(4, 4, 0), (9, 4, 0), (14, 4, 4), (37, 4, 4), (44, 4, 4)], [], [], [(0, [0, 2, 4]), (1, [0, 2, 4, 18]), (2, [0, 4, 7]), (3, [0, 4, 7, 22]), (5, [0, 4, 7, 30]), (6, [6]), (4, [0, 4, 7]), (7, [6]), (8, [0, 2, 4, 8]), (9, [0, 2, 4, 8, 40]), (11, [0, 2, 4, 8]), (10, [0, 2, 4, 8]), (12, [6])], [(3, [0, 4, 7]), (9, [0, 2, 4, 8])], [50], [(50, [0])], [], false, [], [], []⟩, g99, Proofs.Try.func94, by kernel_rfl, rfl⟩
theorem b112 : Bears Proofs.Try.prog (100, 112) := ⟨Proofs.Try.f100, ⟨[(2, 2, 0), (3, 3, 0), (5, 5, 0), (6, 6, 0), (13, 5, 0), (36, 6, 0), (42, 6, 0), (43, 6, 1), (49, 6, 1), (62, 5, 0)], [22, 28, 52, 57], [], [(0, [0, 2, 3]), (1, [2, 3, 4, 5]), (2, [2, 3, 4, 5, 15]), (3, [2, 3]), (4, [2, 3, 4, 5, 6]), (5, [2, 3, 4, 5, 6, 7]), (6, [2, 3, 4, 5, 6, 7, 33]), (7, [2, 3, 4, 5, 6, 7, 35]), (9, [2, 3, 4, 5, 6, 7]), (8, [2, 3, 4, 5, 6, 7]), (10, [2, 3, 5, 6, 7, 53]), (11, [2, 3]), (12, [2, 3, 5, 6]), (13, [2, 3, 5, 6, 64]), (14, [2, 3]), (15, [2, 3])], [(6, [2, 3, 4, 5, 6, 7])], [], [], [], true, [], [], []⟩, g112, Proofs.Try.func100, by kernel_rfl, rfl⟩
theorem b73 : Bears Proofs.Try.prog (109, 73) := ⟨Proofs.Try.f109, ⟨[], [], [], [(0, [0, 1, 2]), (1, [0, 29]), (2, [6]), (3, [0, 31, 32]), (4, [0, 31, 32, 33]), (5, [0, 7, 31, 32]), (6, [0, 8, 31, 32]), (7, [0, 8, 9, 31, 32]), (8, [0, 31, 32, 65]), (9, [6]), (10, [0, 31, 32]), (11, [67]), (12, [67, 68]), (13, [67, 68]), (14, [67, 68]), (15, [67, 68]), (16, [67, 68]), (17, [67, 68]), (18, [68]), (19, [6]), (20, [6])], [(4, [0, 31, 32])], [], [], [], false, [], [], []⟩, g73, Proofs.Try.func109, by kernel_rfl, rfl⟩
theorem b74 : Bears Proofs.Try.prog (110, 74) := ⟨Proofs.Try.f110, ⟨[], [], [], [(0, [0, 1]), (1, [0, 1, 5]), (2, [0, 1, 5, 6]), (4, [0, 1, 10]), (5, [4]), (3, [4]), (6, [4])], [], [], [], [], false, [], [], []⟩, g74, Proofs.Try.func110, by kernel_rfl, rfl⟩
theorem b75 : Bears Proofs.Try.prog (111, 75) := ⟨Proofs.Try.f111, ⟨[], [], [], [(0, [0, 1]), (1, [4])], [], [], [], [], false, [], [], []⟩, g75, Proofs.Try.func111, by kernel_rfl, rfl⟩
theorem b76 : Bears Proofs.Try.prog (112, 76) := ⟨Proofs.Try.f112, ⟨[(1, 1, 0)], [], [], [(0, [1]), (1, [2])], [], [], [], [], false, [], [], []⟩, g76, Proofs.Try.func112, by kernel_rfl, rfl⟩
theorem b77 : Bears Proofs.Try.prog (113, 77) := ⟨Proofs.Try.f113, ⟨[], [], [], [(0, [0]), (1, [2])], [], [], [], [], false, [], [], []⟩, g77, Proofs.Try.func113, by kernel_rfl, rfl⟩
theorem b78 : Bears Proofs.Try.prog (114, 78) := ⟨Proofs.Try.f114, ⟨[], [], [], [(0, [0]), (1, [2])], [], [], [], [], false, [], [], []⟩, g78, Proofs.Try.func114, by kernel_rfl, rfl⟩
theorem b96 : Bears Proofs.Try.prog (115, 96) := ⟨Proofs.Try.f115, ⟨[(2, 2, 0), (5, 5, 0), (9, 2, 4)], [], [], [(0, [1, 2]), (1, [1, 2]), (2, [1, 10, 11, 12]), (3, [1, 10, 11, 12, 13]), (4, [1, 5, 10, 11, 12]), (5, [1, 10, 11, 12]), (6, [1, 10, 11, 12])], [(3, [1, 10, 11, 12])], [], [], [], false, [], [], []⟩, g96, Proofs.Try.func115, by kernel_rfl, rfl⟩
theorem b97 : Bears Proofs.Try.prog (116, 97) := ⟨Proofs.Try.f116, ⟨[(2, 2, 0), (3, 2, 0), (8, 2, 2), (14, 2, 2)], [1], [], [(0, [1, 2]), (1, [1, 2, 12])], [], [], [], [], false, [], [], []⟩, g97, Proofs.Try.func116, by kernel_rfl, rfl⟩
theorem b116 : Bears Proofs.Try.prog (117, 116) := ⟨Proofs.Try.f117, ⟨[], [], [], [(0, [0, 1]), (1, [0, 1, 7, 8]), (2, [0, 1, 7, 8, 9]), (3, [0, 1, 5, 7, 8]), (4, [0, 1, 5, 7, 8, 16]), (5, [4]), (6, [0, 1, 7, 8]), (7, [4])], [(2, [0, 1, 7, 8])], [], [], [], false, [], [], []⟩, g116, Proofs.Try.func117, by kernel_rfl, rfl⟩
theorem b91 : Bears Proofs.Try.prog (118, 91) := ⟨Proofs.Try.f118, ⟨[(2, 2, 0), (4, 4, 0), (7, 7, 0), (8, 2, 4), (15, 2, 4), (19, 2, 4), (35, 2, 4)], [25], [], [(0, [1, 2, 4]), (1, [1, 2, 4, 11]), (2, [4]), (3, [1, 2, 4, 5]), (4, [1, 2, 4, 5, 20, 21, 22]), (5, [1, 2, 4, 5, 20, 21, 22, 23]), (6, [1, 2, 4, 5, 6, 7, 20, 21, 22]), (7, [1, 2, 4, 5, 20, 21, 22]), (8, [1, 2, 4, 5, 20, 21, 22]), (9, [2, 4]), (10, [4])], [(5, [1, 2, 4, 5, 20, 21, 22])], [], [], [], false, [], [], []⟩, g91, Proofs.Try.func118, by kernel_rfl, rfl⟩
theorem b92 : Bears Proofs.Try.prog (119, 92) := ⟨Proofs.Try.f119, ⟨[(2, 2, 0), (3, 3, 0), (5, 5, 0), (6, 2, 0), (15, 5, 0), (17, 2, 2), (20, 5, 1)], [1], [], [(0, [1, 2, 3]), (1, [1, 2, 3, 8]), (2, [2, 3, 9, 10, 11]), (3, [2, 3, 9, 10, 11, 12]), (4, [2, 3, 5, 9, 10, 11]), (5, [2, 3, 5, 9, 10, 11, 19]), (6, [3]), (7, [2, 3, 9, 10, 11]), (8, [3])], [(3, [2, 3, 9, 10, 11])], [], [], [], false, [], [], []⟩, g92, Proofs.Try.func119, by kernel_rfl, rfl⟩
theorem b35 : Bears Proofs.Try.prog (120, 35) := ⟨Proofs.Try.f120, ⟨[(2, 2, 0), (3, 3, 0), (6, 2, 0), (8, 3, 0), (11, 2, 1), (13, 3, 1), (16, 2, 2), (18, 3, 2), (21, 2, 3), (23, 3, 3), (26, 2, 4), (29, 3, 4), (38, 2, 4), (40, 3, 4)], [], [], [(0, [2, 3]), (1, [2, 3, 5]), (2, [2, 3, 5, 36]), (3, [4]), (4, [4])], [], [], [], [], false, [], [], []⟩, g35, Proofs.Try.func120, by kernel_rfl, rfl⟩
theorem b118 : Bears Proofs.Try.prog (121, 118) := ⟨Proofs.Try.f121, ⟨[(3, 3, 0)], [], [], [(0, [0, 3]), (1, [0, 3, 11]), (2, [2, 3]), (3, [0, 3, 4]), (4, [0, 3, 4, 5]), (5, [0, 3, 4, 5, 16]), (6, [0, 3, 4, 5, 6]), (7, [0, 3, 4, 5, 6, 7]), (8, [0, 3, 4, 5, 6, 7, 22]), (10, [0, 3, 4, 5, 6, 7, 39]), (13, [0, 3, 4, 5, 6, 7, 54]), (16, [0, 3, 4, 5, 7, 69]), (17, [0, 3, 4, 5, 7]), (14, [0, 3, 4, 5, 7, 66]), (15, [0, 3, 4, 5, 7]), (11, [0, 3, 4, 5, 51]), (12, [0, 3, 4, 5]), (9, [0, 3, 4, 5]), (18, [0, 3, 4, 5, 7, 8]), (19, [0, 3, 4, 5, 7, 8, 92]), (20, [2, 3]), (21, [0, 3, 4, 7]), (22, [0, 3, 4, 5]), (23, [2, 3])], [(5, [0, 3, 4, 5]), (14, [0, 3, 4, 5, 7]), (11, [0, 3, 4, 5])], [], [], [], false, [], [], []⟩, g118, Proofs.Try.func121, by kernel_rfl, rfl⟩
theorem b119 : Bears Proofs.Try.prog (122, 119) := ⟨Proofs.Try.f122, ⟨[], [], [], [(0, [0, 1]), (1, [0, 1, 12]), (2, [0, 1]), (3, [4])], [], [], [], [], false, [], [], []⟩, g119, Proofs.Try.func122, by kernel_rfl, rfl⟩
theorem b134 : Bears Proofs.Try.prog (123, 134) := ⟨Proofs.Try.f123, ⟨[(2, 2, 0), (7, 7, 0), (8, 8, 0), (9, 9, 0), (101, 8, 1)], [21, 41, 50, 71, 77, 81, 89, 93], [], [(0, [0, 2]), (1, [0, 2, 3]), (2, [0, 2, 3, 12]), (8, [0, 2, 3, 30]), (21, [0, 2, 3, 61]), (22, [2]), (9, [0, 2, 3, 5]), (10, [0, 2, 3, 5, 34]), (11, [0, 2, 3, 5]), (12, [0, 2, 3, 5, 6]), (13, [0, 2, 3, 5, 6]), (14, [0, 2, 3, 5, 6, 42]), (15, [2]), (16, [0, 2, 3, 5, 6, 7]), (17, [0, 2, 3, 5, 6, 7]), (18, [0, 2, 3, 5, 6, 7, 51]), (19, [2]), (20, [2]), (3, [0, 2, 3, 4]), (4, [0, 2, 3, 4]), (5, [0, 2, 3, 4, 22]), (6, [2]), (7, [2]), (23, [0, 2, 8]), (24, [0, 2, 8, 98]), (25, [0, 2, 8, 9]), (26, [0, 2, 8]), (27, [2])], [(24, [0, 2, 8])], [], [], [], false, [], [], []⟩, g134, Proofs.Try.func123, by kernel_rfl, rfl⟩
theorem b139 : Bears Proofs.Try.prog (124, 139) := ⟨Proofs.Try.f124, ⟨[(2, 2, 0), (55, 2, 2), (57, 2, 1)], [5, 13, 17, 24, 28, 38, 44, 48], [], [(0, [0, 6]), (1, [0]), (2, [0, 10]), (4, [0, 35]), (5, [0, 2])], [], [], [], [], false, [], [], []⟩, g139, Proofs.Try.func124, by kernel_rfl, rfl⟩
theorem b135 : Bears Proofs.Try.prog (125, 135) := ⟨Proofs.Try.f125, ⟨[(1, 1, 0)], [], [], [(0, [1]), (1, [2])], [], [], [], [], false, [], [], []⟩, g135, Proofs.Try.func125, by kernel_rfl, rfl⟩
theorem b136 : Bears Proofs.Try.prog (126, 136) := ⟨Proofs.Try.f126, ⟨[(1, 1, 0), (10, 1, 5), (16, 1, 5), (24, 1, 5)], [], [], [(0, [1]), (1, [1, 4]), (2, [1, 4, 13]), (4, [1, 4, 23]), (5, [2, 3]), (3, [1, 4]), (6, [5]), (7, [5, 6]), (8, [5, 6, 35]), (10, [5, 6, 7, 8]), (11, [5, 6, 7, 46]), (12, [2, 3]), (9, [5, 6]), (13, [2, 3])], [(2, [1, 4]), (8, [5, 6])], [], [], [], false, [], [], []⟩, g136, Proofs.Try.func126, by kernel_rfl, rfl⟩
theorem b120 : Bears Proofs.Try.prog (127, 120) := ⟨Proofs.Try.f127, ⟨[], [7, 13, 17, 25, 29, 38, 42, 53, 57], [], [(0, [0, 1]), (1, [4])], [], [], [], [], false, [], [], []⟩, g120, Proofs.Try.func127, by kernel_rfl, rfl⟩
theorem b121 : Bears Proofs.Try.prog (128, 121) := ⟨Proofs.Try.f128, ⟨[(2, 2, 0), (3, 3, 0), (4, 4, 0), (12, 3, 1), (15, 3, 2), (21, 3, 2), (36, 4, 2), (42, 4, 2), (43, 3, 3), (48, 3, 3)], [26], [], [(0, [0, 2]), (1, [0, 2, 3]), (2, [0, 2, 3]), (3, [0, 2, 3]), (4, [0, 2, 3, 14]), (5, [0, 2, 3]), (6, [0, 2, 3]), (7, [0, 2, 3, 28]), (8, [0, 2, 3, 4]), (9, [0, 2, 3, 4, 35]), (10, [0, 2, 3, 4]), (11, [0, 2, 3]), (12, [0, 2, 3, 51]), (13, [2, 3]), (14, [2])], [(4, [0, 2, 3]), (7, [0, 2, 3]), (9, [0, 2, 3, 4])], [], [], [], false, [], [], []⟩, g121, Proofs.Try.func128, by kernel_rfl, rfl⟩
theorem b122 : Bears Proofs.Try.prog (129, 122) := ⟨Proofs.Try.f129, ⟨[(2, 2, 0), (3, 3, 0), (11, 3, 1), (14, 3, 2), (17, 3, 3), (20, 3, 4), (30, 3, 9)], [25], [], [(0, [0, 2]), (1, [0, 2, 3]), (2, [0, 2, 3]), (3, [0, 2, 3]), (4, [0, 2, 3]), (5, [0, 2, 3, 16]), (6, [0, 2, 3]), (7, [0, 2, 3]), (8, [0, 2, 3]), (9, [0, 2, 3, 27]), (10, [0, 2, 3]), (11, [2, 3]), (12, [2])], [], [], [], [], false, [], [], []⟩, g122, Proofs.Try.func129, by kernel_rfl, rfl⟩
theorem b123 : Bears Proofs.Try.prog (130, 123) := ⟨Proofs.Try.f130, ⟨[(1, 1, 0), (2, 2, 0), (4, 4, 0), (7, 7, 0), (11, 11, 0), (15, 1, 0), (21, 1, 0), (29, 4, 2), (35, 4, 3), (40, 4, 0), (44, 4, 3), (50, 4, 3), (58, 4, 3), (65, 1, 1), (69, 1, 1), (76, 1, 0), (82, 1, 0), (88, 7, 3), (95, 7, 3), (105, 7, 3), (116, 7, 0), (120, 1, 1), (126, 1, 1), (131, 11, 3), (134, 11, 4), (140, 11, 9), (144, 11, 0), (148, 11, 9)], [], [], [(0, [1, 2]), (1, [1, 2, 3]), (2, [1, 2, 3, 18]), (4, [1, 2, 3, 4]), (5, [1, 2, 3, 4, 39]), (6, [2]), (7, [1, 2, 3, 4, 5]), (8, [1, 2, 3, 4, 5, 47]), (10, [1, 2, 3, 4, 5, 57]), (11, [2]), (9, [1, 2, 3, 4, 5]), (3, [1, 2, 3]), (12, [1, 2, 68]), (13, [2]), (14, [1, 2, 6]), (15, [1, 2, 6, 79]), (17, [1, 2, 6, 7]), (18, [1, 2, 6, 7, 8]), (19, [1, 2, 6, 7, 8, 91]), (21, [1, 2, 6, 7, 8, 9]), (22, [1, 2, 6, 7, 8, 9, 102]), (24, [1, 2, 6, 7, 8, 9, 115]), (25, [2]), (23, [1, 2, 6, 7, 8, 9]), (20, [1, 2, 6, 7, 8]), (16, [1, 2, 6]), (26, [1, 2, 10]), (27, [1, 2, 10, 123]), (29, [1, 2, 10, 11]), (30, [1, 2, 10, 11, 143]), (31, [2]), (32, [1, 2, 10, 12, 13]), (33, [1, 2, 10, 12, 153]), (34, [2]), (28, [1, 2, 10]), (35, [2])], [(2, [1, 2, 3]), (8, [1, 2, 3, 4, 5]), (15, [1, 2, 6]), (19, [1, 2, 6, 7, 8]), (22, [1, 2, 6, 7, 8, 9]), (27, [1, 2, 10])], [], [], [], false, [], [], []⟩, g123, Proofs.Try.func130, by kernel_rfl, rfl⟩
theorem b107 : Bears Proofs.Try.prog (131, 107) := ⟨Proofs.Try.f131, ⟨[], [14], [], [(0, [0, 1]), (1, [0, 1, 7, 8]), (2, [0, 1, 7, 8, 9]), (3, [0, 1, 5, 7, 8]), (4, [0, 1, 5, 7, 8, 16]), (5, [4]), (6, [0, 1, 7, 8]), (7, [4])], [(2, [0, 1, 7, 8])], [], [], [], false, [], [], []⟩, g107, Proofs.Try.func131, by kernel_rfl, rfl⟩
theorem b108 : Bears Proofs.Try.prog (132, 108) := ⟨Proofs.Try.f132, ⟨[], [], [], [(0, [0]), (1, [0, 3]), (2, [0, 3, 7]), (4, [0, 3, 14]), (5, [2]), (3, [0, 3]), (6, [2])], [(2, [0, 3])], [], [], [], false, [], [], []⟩, g108, Proofs.Try.func132, by kernel_rfl, rfl⟩
theorem b109 : Bears Proofs.Try.prog (133, 109) := ⟨Proofs.Try.f133, ⟨[], [], [], [(0, [0]), (1, [2])], [], [], [], [], false, [], [], []⟩, g109, Proofs.Try.func133, by kernel_rfl, rfl⟩
theorem b110 : Bears Proofs.Try.prog (134, 110) := ⟨Proofs.Try.f134, ⟨[], [], [], [(0, [0]), (1, [0, 3]), (2, [0, 3, 4]), (3, [0, 3, 4, 9]), (5, [0, 3, 4, 17]), (6, [2]), (4, [0, 3, 4]), (7, [2])], [(3, [0, 3, 4])], [], [], [], false, [], [], []⟩, g110, Proofs.Try.func134, by kernel_rfl, rfl⟩
theorem b111 : Bears Proofs.Try.prog (135, 111) := ⟨Proofs.Try.f135, ⟨[], [], [], [(0, [0]), (1, [2])], [], [], [], [], false, [], [], []⟩, g111, Proofs.Try.func135, by kernel_rfl, rfl⟩
theorem b80 : Bears Proofs.Try.prog (136, 80) := ⟨Proofs.Try.f136, ⟨[], [], [], [(0, [0]), (1, [0, 3]), (2, [3, 6, 7, 8]), (3, [3, 6, 7, 8, 9]), (4, [3, 5, 6, 7, 8]), (5, [3, 5, 6, 7, 8, 14]), (6, [2]), (7, [3, 6, 7, 8]), (8, [2])], [(3, [3, 6, 7, 8])], [], [], [], false, [], [], []⟩, g80, Proofs.Try.func136, by kernel_rfl, rfl⟩
theorem b81 : Bears Proofs.Try.prog (137, 81) := ⟨Proofs.Try.f137, ⟨[], [], [], [(0, [0, 1]), (1, [0, 1, 5]), (2, [0, 1, 5, 6]), (3, [0, 1, 6, 11]), (4, [12]), (5, [4]), (6, [4]), (7, [0, 1, 13]), (8, [4]), (9, [0, 1, 16]), (10, [4]), (11, [19]), (12, [4]), (13, [4])], [], [], [], [], false, [], [], []⟩, g81, Proofs.Try.func137, by kernel_rfl, rfl⟩
theorem b82 : Bears Proofs.Try.prog (138, 82) := ⟨Proofs.Try.f138, ⟨[], [], [], [(0, [0, 1]), (1, [0, 1, 5]), (2, [0, 1, 5, 6]), (3, [0, 1, 6, 11]), (4, [12]), (5, [4]), (6, [4]), (7, [0, 1, 13]), (8, [4]), (9, [0, 1, 16]), (10, [4]), (11, [19]), (12, [4]), (13, [4])], [], [], [], [], false, [], [], []⟩, g82, Proofs.Try.func138, by kernel_rfl, rfl⟩
theorem b83 : Bears Proofs.Try.prog (139, 83) := ⟨Proofs.Try.f139, ⟨[(8, 8, 0), (9, 9, 0)], [16, 24], [], [(0, [0, 1, 2]), (1, [0, 1, 2, 11, 12, 13]), (2, [0, 1, 2, 11, 12, 13, 14]), (3, [0, 1, 2, 7, 8, 11, 12, 13]), (4, [0, 1, 2, 7, 8, 11, 12, 13, 21]), (5, [6]), (6, [0, 1, 2, 8, 9, 11, 12, 13]), (7, [0, 1, 2, 10, 11, 12, 13]), (8, [0, 1, 2, 10, 11, 12, 13, 31]), (9, [6]), (10, [0, 1, 2, 11, 12, 13]), (11, [38]), (12, [6]), (13, [6])], [(2, [0, 1, 2, 11, 12, 13])], [], [], [], false, [], [], []⟩, g83, Proofs.Try.func139, by kernel_rfl, rfl⟩
theorem b117 : Bears Proofs.Try.prog (140, 117) := ⟨Proofs.Try.f140, ⟨[], [], [], [(0, [0]), (1, [2])], [], [], [], [], false, [], [], []⟩, g117, Proofs.Try.func140, by kernel_rfl, rfl⟩
theorem b125 : Bears Proofs.Try.prog (141, 125) := ⟨Proofs.Try.f141, ⟨[], [], [], [(0, [0]), (1, [0, 3]), (3, [0, 6]), (5, [0, 9]), (7, [0, 12]), (9, [15]), (10, [2]), (8, [2]), (6, [2]), (4, [2]), (2, [2]), (11, [2])], [], [], [], [], false, [], [], []⟩, g125, Proofs.Try.func141, by kernel_rfl, rfl⟩
theorem b126 : Bears Proofs.Try.prog (142, 126) := ⟨Proofs.Try.f142, ⟨[], [5, 9, 15, 19], [], [(0, [0]), (1, [0, 12]), (2, [2]), (3, [2])], [], [], [], [], false, [], [], []⟩, g126, Proofs.Try.func142, by kernel_rfl, rfl⟩
theorem b132 : Bears Proofs.Try.prog (143, 132) := ⟨Proofs.Try.f143, ⟨[], [10], [], [(0, [0, 1]), (1, [0, 7]), (3, [4]), (4, [4])], [], [], [], [], false, [], [], []⟩, g132, Proofs.Try.func143, by kernel_rfl, rfl⟩
theorem b128 : Bears Proofs.Try.prog (144, 128) := ⟨Proofs.Try.f144, ⟨[], [13, 20, 24], [], [(0, [0, 1]), (1, [0, 8]), (3, [4]), (4, [0]), (5, [4])], [], [], [], [], false, [], [], []⟩, g128, Proofs.Try.func144, by kernel_rfl, rfl⟩
theorem b127 : Bears Proofs.Try.prog (145, 127) := ⟨Proofs.Try.f145, ⟨[], [], [], [(0, [0, 7])], [], [], [], [], false, [], [], []⟩, g127, Proofs.Try.func145, by kernel_rfl, rfl⟩
theorem b140 : Bears Proofs.Try.prog (146, 140) := ⟨Proofs.Try.f146, ⟨[(4, 4, 0), (5, 5, 0), (6, 6, 0), (21, 6, 2), (27, 6, 2), (37, 6, 3), (38, 5, 5), (43, 5, 5)], [32], [], [(0, [0, 1, 4]), (1, [0, 4, 5]), (2, [0, 4, 5]), (3, [0, 4, 5, 6]), (4, [0, 4, 5, 6, 20]), (5, [0, 4, 5, 6]), (6, [0, 4, 5, 6]), (7, [0, 4, 5, 6, 33]), (8, [4]), (9, [0, 4, 5, 6]), (10, [0, 4, 5]), (11, [0, 4, 5, 46]), (12, [4, 5]), (13, [4])], [(3, [0, 4, 5]), (4, [0, 4, 5, 6])], [], [], [], false, [], [], []⟩, g140, Proofs.Try.func146, by kernel_rfl, rfl⟩
theorem b141 : Bears Proofs.Try.prog (147, 141) := ⟨Proofs.Try.f147, ⟨[(2, 2, 0), (4, 4, 0), (5, 5, 0), (6, 6, 0)], [51], [], [(0, [0, 2]), (1, [0, 2, 3]), (2, [0, 2, 3, 9]), (4, [0, 2, 3, 16]), (6, [0, 2, 3, 23]), (8, [0, 2, 3, 31]), (10, [0, 2, 3, 36]), (11, [0, 2, 3, 4]), (12, [2, 3, 4]), (13, [2]), (9, [2]), (7, [2]), (5, [2]), (3, [2]), (14, [0, 2, 3]), (15, [0, 2, 3, 52]), (16, [2]), (17, [0, 2, 3, 5]), (18, [0, 2, 3, 5, 57]), (19, [0, 2, 3, 5, 6]), (20, [0, 2, 5]), (21, [2, 5]), (22, [2])], [], [], [], [], false, [], [], []⟩, g141, Proofs.Try.func147, by kernel_rfl, rfl⟩
theorem b142 : Bears Proofs.Try.prog (148, 142) := ⟨Proofs.Try.f148, ⟨[(1, 1, 0), (3, 1, 0), (11, 1, 1), (15, 1, 1), (20, 1, 1)], [], [], [(0, [1]), (1, [1, 4]), (2, [1, 4, 5]), (3, [1, 4, 5]), (4, [1, 4, 5]), (6, [1, 9]), (7, [2]), (5, [2]), (8, [2])], [], [], [], [], false, [], [], []⟩, g142, Proofs.Try.func148, by kernel_rfl, rfl⟩
theorem b143 : Bears Proofs.Try.prog (149, 143) := ⟨Proofs.Try.f149, ⟨[(1, 1, 0)], [], [], [(0, [1]), (1, [1, 3]), (2, [3, 4]), (3, [3, 4, 5]), (4, [3, 4, 5, 11]), (6, [3, 4, 5]), (5, [3, 4, 5]), (7, [2])], [(4, [3, 4, 5])], [], [], [], false, [], [], []⟩, g143, Proofs.Try.func149, by kernel_rfl, rfl⟩
theorem b144 : Bears Proofs.Try.prog (150, 144) := ⟨Proofs.Try.f150, ⟨[(1, 1, 0), (5, 1, 0), (9, 1, 6)], [], [], [(0, [1]), (1, [1, 13]), (2, [2]), (3, [3]), (4, [3, 4]), (5, [3, 4, 19]), (7, [3, 4, 26]), (8, [2]), (6, [3, 4]), (9, [2])], [(5, [3, 4])], [], [], [], false, [], [], []⟩, g144, Proofs.Try.func150, by kernel_rfl, rfl⟩
theorem b129 : Bears Proofs.Try.prog (151, 129) := ⟨Proofs.Try.f151, ⟨[], [7, 13, 17, 25, 29], [], [(0, [0, 1]), (1, [4])], [], [], [], [], false, [], [], []⟩, g129, Proofs.Try.func151, by kernel_rfl, rfl⟩
theorem b130 : Bears Proofs.Try.prog (152, 130) := ⟨Proofs.Try.f152, ⟨[], [], [], [(0, [0]), (1, [2])], [], [], [], [], false, [], [], []⟩, g130, Proofs.Try.func152, by kernel_rfl, rfl⟩
theorem b131 : Bears Proofs.Try.prog (153, 131) := ⟨Proofs.Try.f153, ⟨[(2, 2, 0), (3, 3, 0)], [20], [], [(0, [0, 2]), (1, [0, 2, 4]), (3, [0, 2, 10]), (4, [2]), (2, [2]), (5, [0, 2]), (6, [0, 2, 21]), (7, [2]), (8, [0, 2, 3]), (9, [2, 3]), (10, [2])], [], [15], [], [], false, [], [], []⟩, g131, Proofs.Try.func153, by kernel_rfl, rfl⟩
theorem b133 : Bears Proofs.Try.prog (154, 133) := ⟨Proofs.Try.f154, ⟨[(2, 2, 0), (3, 3, 0), (11, 3, 4), (17, 3, 4)], [], [], [(0, [0, 2]), (1, [0, 2, 3]), (2, [0, 2, 3, 5]), (6, [0, 2, 3]), (3, [0, 2, 3]), (4, [0, 2, 3, 10]), (5, [0, 2, 3]), (7, [0, 2, 3, 21]), (8, [2]), (9, [2])], [(4, [0, 2, 3])], [8], [], [], false, [], [], []⟩, g133, Proofs.Try.func154, by kernel_rfl, rfl⟩
theorem b52 : Bears Proofs.Try.prog (155, 52) := ⟨Proofs.Try.f155, ⟨[(1, 1, 0), (6, 1, 4), (13, 1, 4)], [], [], [(0, [1]), (1, [1, 3]), (2, [1, 3, 4]), (3, [1, 3, 4, 9]), (5, [1, 3, 4]), (4, [1, 3, 4]), (6, [2])], [(3, [1, 3, 4])], [], [], [], false, [], [], []⟩, g52, Proofs.Try.func155, by kernel_rfl, rfl⟩
theorem b113 : Bears Proofs.Try.prog (156, 113) := ⟨Proofs.Try.f156, ⟨[], [], [], [(0, [0]), (1, [2])], [], [], [], [], false, [], [], []⟩, g113, Proofs.Try.func156, by kernel_rfl, rfl⟩
theorem b114 : Bears Proofs.Try.prog (157, 114) := ⟨Proofs.Try.f157, ⟨[], [], [], [(0, [0]), (1, [2])], [], [], [], [], false, [], [], []⟩, g114, Proofs.Try.func157, by kernel_rfl, rfl⟩
theorem b124 : Bears Proofs.Try.prog (158, 124) := ⟨Proofs.Try.f158, ⟨[], [], [], [(0, [0]), (1, [2])], [], [], [], [], false, [], [], []⟩, g124, Proofs.Try.func158, by kernel_rfl, rfl⟩
theorem b137 : Bears Proofs.Try.prog (159, 137) := ⟨Proofs.Try.f159, ⟨[], [], [], [(0, [0]), (1, [0, 20]), (2, [2]), (3, [0, 3]), (4, [0, 3, 24]), (6, [0, 3, 31]), (7, [2]), (5, [0, 3]), (8, [2])], [(4, [0, 3])], [], [], [], false, [], [], []⟩, g137, Proofs.Try.func159, by kernel_rfl, rfl⟩
theorem b138 : Bears Proofs.Try.prog (160, 138) := ⟨Proofs.Try.f160, ⟨[], [], [], [(0, [0]), (1, [0, 5]), (2, [2]), (3, [0, 3]), (4, [0, 3, 7]), (6, [0, 3, 15]), (7, [2]), (5, [0, 3]), (8, [2])], [(4, [0, 3])], [], [], [], false, [], [], []⟩, g138, Proofs.Try.func160, by kernel_rfl, rfl⟩
theorem b146 : Bears Proofs.Try.prog (161, 146) := ⟨Proofs.Try.f161, ⟨[], [], [], [(0, [0]), (1, [0, 3]), (2, [0, 3, 4]), (3, [0, 3, 4, 8]), (5, [0, 3, 4]), (4, [0, 3, 4]), (6, [2])], [(3, [0, 3, 4])], [], [], [], false, [], [], []⟩, g146, Proofs.Try.func161, by kernel_rfl, rfl⟩
theorem b422 : Bare Proofs.Try.prog (103, 422) := ⟨⟨Proofs.Try.f103, bodyOf Proofs.Try.f103, Proofs.Try.func103, by kernel_rfl, by decide⟩, rfl⟩
theorem b420 : Bare Proofs.Try.prog (104, 420) := ⟨⟨Proofs.Try.f104, bodyOf Proofs.Try.f104, Proofs.Try.func104, by kernel_rfl, by decide⟩, rfl⟩

theorem all_bear : ∀ q ∈ ns.g, Bears Proofs.Try.prog q ∨ Bare Proofs.Try.prog q := by
  intro q hq
  simp only [ns, List.mem_cons, List.not_mem_nil, or_false] at hq
  rcases hq with rfl | rfl | rfl | rfl | rfl | rfl | rfl | rfl | rfl | rfl | rfl | rfl | rfl | rfl | rfl | rfl | rfl | rfl | rfl | rfl | rfl | rfl | rfl | rfl | rfl | rfl | rfl | rfl | rfl | rfl | rfl | rfl | rfl | rfl | rfl | rfl | rfl | rfl | rfl | rfl | rfl | rfl | rfl | rfl | rfl | rfl | rfl | rfl | rfl | rfl | rfl | rfl | rfl | rfl | rfl | rfl | rfl | rfl | rfl | rfl | rfl | rfl | rfl | rfl | rfl | rfl | rfl | rfl | rfl | rfl | rfl | rfl | rfl | rfl | rfl | rfl | rfl | rfl | rfl | rfl | rfl | rfl | rfl | rfl | rfl | rfl | rfl | rfl | rfl | rfl | rfl | rfl | rfl | rfl | rfl | rfl
  · exact .inl b427
  · exact .inl b15
  · exact .inl b26
  · exact .inl b32
  · exact .inl b145
  · exact .inl b433
  · exact .inl b434
  · exact .inl b208
  · exact .inl b237
  · exact .inl b57
  · exact .inl b27
  · exact .inl b72
  · exact .inl b106
  · exact .inl b435
  · exact .inl b437
  · exact .inl b438
  · exact .inl b63
  · exact .inl b95
  · exact .inl b183
  · exact .inl b46
  · exact .inl b176
  · exact .inl b229
  · exact .inl b56
  · exact .inl b68
  · exact .inl b79
  · exact .inl b69
  · exact .inl b20
  · exact .inl b70
  · exact .inl b71
  · exact .inl b239
  · exact .inl b49
  · exact .inl b34
  · exact .inl b62
  · exact .inl b441
  · exact .inl b29
  · exact .inl b55
  · exact .inl b98
  · exact .inl b45
  · exact .inl b33
  · exact .inl b99
  · exact .inl b112
  · exact .inl b73
  · exact .inl b74
  · exact .inl b75
  · exact .inl b76
  · exact .inl b77
  · exact .inl b78
  · exact .inl b96
  · exact .inl b97
  · exact .inl b116
  · exact .inl b91
  · exact .inl b92
  · exact .inl b35
  · exact .inl b118
  · exact .inl b119
  · exact .inl b134
  · exact .inl b139
  · exact .inl b135
  · exact .inl b136
  · exact .inl b120
  · exact .inl b121
  · exact .inl b122
  · exact .inl b123
  · exact .inl b107
  · exact .inl b108
  · exact .inl b109
  · exact .inl b110
  · exact .inl b111
  · exact .inl b80
  · exact .inl b81
  · exact .inl b82
  · exact .inl b83
  · exact .inl b117
  · exact .inl b125
  · exact .inl b126
  · exact .inl b132
  · exact .inl b128
  · exact .inl b127
  · exact .inl b140
  · exact .inl b141
  · exact .inl b142
  · exact .inl b143
  · exact .inl b144
  · exact .inl b129
  · exact .inl b130
  · exact .inl b131
  · exact .inl b133
  · exact .inl b52
  · exact .inl b113
  · exact .inl b114
  · exact .inl b124
  · exact .inl b137
  · exact .inl b138
  · exact .inl b146
  · exact .inr b422
  · exact .inr b420

theorem u422 : ∀ q ∈ ns.g, q.2 = 422 → q.1 = 103 := by decide +kernel
theorem clone422 : Nonempty (CloneDat Proofs.Try.prog ns 103 11 152) := ⟨
  { fn := Proofs.Try.f103, A := ⟨[], [], [], [], [], [], [], [], false, [], [], []⟩, t := (binTypes (operOf Proofs.Try.f103 1 1)).1, el := elOf Proofs.Try.prog (binTypes (operOf Proofs.Try.f103 1 1)).1, ty := (binTypes (operOf Proofs.Try.f103 1 1)).2,
    o0 := operOf Proofs.Try.f103 0 0, m := operOf Proofs.Try.f103 1 0, e := operOf Proofs.Try.f103 1 1, o2 := operOf Proofs.Try.f103 2 0, b := operOf Proofs.Try.f103 3 0, m3 := operOf Proofs.Try.f103 3 1, ap := operOf Proofs.Try.f103 3 2, fi := operOf Proofs.Try.f103 3 3,
    r0 := regNo Proofs.Try.f103 0, r1 := regNo Proofs.Try.f103 1, r2 := regNo Proofs.Try.f103 2, r3 := regNo Proofs.Try.f103 3,
    hf := Proofs.Try.func103, hbody := by kernel_rfl, hres := by kernel_rfl, hN := by kernel_rfl, h0 := ⟨by kernel_rfl, by kernel_rfl, by kernel_rfl⟩, h1 := ⟨by kernel_rfl, by kernel_rfl, by kernel_rfl⟩, h2 := ⟨by kernel_rfl, by kernel_rfl, by kernel_rfl⟩, hu := by kernel_rfl, h3 := ⟨by kernel_rfl, by kernel_rfl, by kernel_rfl⟩, h4 := ⟨by kernel_rfl, by kernel_rfl, by kernel_rfl⟩, h5 := ⟨by kernel_rfl, by kernel_rfl, by kernel_rfl⟩, h6 := ⟨by kernel_rfl, by kernel_rfl, by kernel_rfl⟩, h7 := ⟨by kernel_rfl, by kernel_rfl, by kernel_rfl⟩ }⟩

theorem u420 : ∀ q ∈ ns.g, q.2 = 420 → q.1 = 104 := by decide +kernel
theorem clone420 : Nonempty (CloneDat Proofs.Try.prog ns 104 1 16) := ⟨
  { fn := Proofs.Try.f104, A := ⟨[], [], [], [], [], [], [], [], false, [], [], []⟩, t := (binTypes (operOf Proofs.Try.f104 1 1)).1, el := elOf Proofs.Try.prog (binTypes (operOf Proofs.Try.f104 1 1)).1, ty := (binTypes (operOf Proofs.Try.f104 1 1)).2,
    o0 := operOf Proofs.Try.f104 0 0, m := operOf Proofs.Try.f104 1 0, e := operOf Proofs.Try.f104 1 1, o2 := operOf Proofs.Try.f104 2 0, b := operOf Proofs.Try.f104 3 0, m3 := operOf Proofs.Try.f104 3 1, ap := operOf Proofs.Try.f104 3 2, fi := operOf Proofs.Try.f104 3 3,
    r0 := regNo Proofs.Try.f104 0, r1 := regNo Proofs.Try.f104 1, r2 := regNo Proofs.Try.f104 2, r3 := regNo Proofs.Try.f104 3,
    hf := Proofs.Try.func104, hbody := by kernel_rfl, hres := by kernel_rfl, hN := by kernel_rfl, h0 := ⟨by kernel_rfl, by kernel_rfl, by kernel_rfl⟩, h1 := ⟨by kernel_rfl, by kernel_rfl, by kernel_rfl⟩, h2 := ⟨by kernel_rfl, by kernel_rfl, by kernel_rfl⟩, hu := by kernel_rfl, h3 := ⟨by kernel_rfl, by kernel_rfl, by kernel_rfl⟩, h4 := ⟨by kernel_rfl, by kernel_rfl, by kernel_rfl⟩, h5 := ⟨by kernel_rfl, by kernel_rfl, by kernel_rfl⟩, h6 := ⟨by kernel_rfl, by kernel_rfl, by kernel_rfl⟩, h7 := ⟨by kernel_rfl, by kernel_rfl, by kernel_rfl⟩ }⟩

theorem look_memI {α : Type} {t : Nat} {v : α} : ∀ {l : List (Nat × α)}, look l t = some v → (t, v) ∈ l
  | [], h => by simp [look] at h
  | (k, u) :: r, h => by
    simp only [look] at h
    split at h
    · rename_i e; cases h; subst e; exact List.mem_cons_self
    · exact List.mem_cons_of_mem _ (look_memI h)

theorem backs_ok : BacksOk Proofs.Try.prog ns := by
  intro gb sz ag h f hf
  simp [look, ns] at h

theorem clones_ok : ∀ g sz bytes f, look ns.cl g = some (sz, bytes) → ns.of f = some g → Nonempty (CloneDat Proofs.Try.prog ns f sz bytes) := by
  intro g sz bytes f h hf
  simp only [ns, look] at h
  split at h
  · rename_i e; subst e; cases h
    have := u422 (f, 422) (look_memI hf) rfl
    simp only at this; subst this; exact clone422
  split at h
  · rename_i e; subst e; cases h
    have := u420 (f, 420) (look_memI hf) rfl
    simp only at this; subst this; exact clone420
  cases h

theorem impl : Impl Proofs.Try.prog ns AP := ⟨by kernel_rfl, fun f g h => (all_bear (f, g) (look_memI h)).imp id fun ⟨h1, h2⟩ => ⟨h1, .inl h2⟩, backs_ok, clones_ok⟩

end Go.Ab
