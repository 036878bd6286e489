import Derived.Test.YtfhhognolpjikaaAbEv
/-
  The program's functions in slim code, as a program of ours printed them; what they have to do with the given program is proved in the text Impl.
-/
namespace Go.Ab
@[simp] abbrev ae (d s:Nat):dt:=⟨some d,none,[.t s],.v .mv⟩
@[simp] abbrev bz (d x:Nat) (k:AK):dt:=⟨some d,none,[.t x],k⟩
@[simp] abbrev dS (d x y:Nat) (k:AK):dt:=⟨some d,none,[.t x,.t y],k⟩
@[simp] abbrev aK (d x:Nat) (k:AH):dt:=⟨some d,none,[.t x],.v k⟩
@[simp] abbrev a_ (d x y:Nat) (k:AH):dt:=⟨some d,none,[.t x,.t y],.v k⟩
@[simp] abbrev bs (d:Nat) (a:List d3) (k:AH):dt:=⟨some d,none,a,.v k⟩
@[simp] abbrev cg (d:Nat) (a:List d3) (k:AK):dt:=⟨some d,none,a,k⟩
@[simp] abbrev qp (a:List d3) (k:AK):dt:=⟨none,none,a,k⟩
@[simp] abbrev dU (d j:Nat) (b:Bool) (a:List d3) (k:AK):dt:=⟨some d,some (j,b),a,k⟩
@[simp] abbrev aV (d s n:Nat):dt:=⟨some d,none,[.t s],.v (.b_ n)⟩
@[simp] abbrev a8 (d s a b c:Nat) (t:Bool):dt:=⟨some d,none,[.t s],.de a b c t⟩
@[simp] abbrev bl (s v a b c:Nat):dt:=⟨none,none,[.t s,.t v],.d4 a b c⟩
@[simp] abbrev k_ (n:Int):d3:=.c (.pv (.int .i64 n))
@[simp] abbrev T_:d3:=.c (.pv (.bool true))
@[simp] abbrev F_:d3:=.c (.pv (.bool false))
@[simp] abbrev bo (d x:Nat) (n:Int) (k:AH):dt:=⟨some d,none,[.t x,.c (.pv (.int .i64 n))],.v k⟩
@[simp] abbrev bb (d:Nat) (x:d3):dt:=⟨some d,none,[x],.v .mv⟩
@[simp] abbrev bj (d j:Nat) (b:Bool) (x:Nat) (k:AK):dt:=⟨some d,some (j,b),[.t x],k⟩
@[simp] abbrev dG (d:Nat) (l:List PV):dt:=⟨some d,none,[],.alloc d l⟩
@[simp] abbrev a9:PV:=.int .i64 0
@[simp] abbrev fh:PV:=.str []
@[simp] abbrev dN:PV:=.aI []
@[simp] abbrev wU:List PV:=[a9,fh,a9,a9,dN]
@[simp] abbrev e8:List PV:=[a9,a9,fh,a9,dN,dN,a9,fh,a9,a9,dN]
@[simp] abbrev Dd:List PV:=[a9,fh,dN,dN]
@[simp] abbrev Ix:List PV:=[a9,a9,fh,a9,a9,dN]
section
variable {AP:Nat→Option aC} {st:St}
def g15:aC:=⟨1,6,[.t 2],
 (.seq
 (.ah [bb 2 F_] [0])
 (.seq
 (.ah [ae 3 0,
 aK 4 3 .len,
 bo 5 4 60 (.bin .leq),
 ae 2 5] [2])
 .ret)),none,false⟩
def g26:aC:=⟨2,16,[.t 4],
 (.seq
 (.ah [bb 4 (k_ 0)] [0,1])
 (.seq
 (.seq
 (.ah [ae 5 1,
 bo 6 5 1 (.bin .lss)] [0,1,6])
 (.cond (.t 6)
 (.seq
 (.ah [bb 4 (k_ 0)] [4])
 .ret)
 .skip))
 (.seq
 (.ah [ae 7 0,
 ae 8 1,
 a_ 9 7 8 (.bin .rem),
 ae 0 9] [0,1])
 (.seq
 (.seq
 (.ah [ae 10 0,
 bo 11 10 0 (.bin .lss)] [0,1,11])
 (.cond (.t 11)
 (.ah [ae 12 0,
 ae 13 1,
 a_ 14 12 13 (.bin .add),
 ae 0 14] [0])
 .skip))
 (.seq
 (.ah [ae 15 0,
 ae 4 15] [4])
 .ret))))),none,false⟩
def g27B0:aw:=
 (.seq
 (.seq
 (.ah [ae 61 12,
 aV 62 10 2,
 a8 63 62 10 2 1 false,
 aK 64 63 .len,
 a_ 65 61 64 (.bin .lss)] [0,1,2,3,8,10,11,12,65])
 (.cond (.t 65)
 .skip
 (.exit 1)))
 (.seq
 (.block 2
 (.ah [ae 68 11,
 ae 69 0,
 ae 70 1,
 ae 71 2,
 ae 72 3,
 bo 73 72 1 (.bin .sub),
 cg 74 [.t 69,.t 70,.t 71,.t 73] (.aA 27 []),
 aK 75 74 (.a6 5),
 dS 76 68 75 (.append 5 64),
 ae 11 76] [0,1,2,3,8,10,11,12]))
 (.ah [ae 66 12,
 bo 67 66 1 (.bin .add),
 ae 12 67] [0,1,2,3,8,10,11,12])))
def g27L0:aw:=.loop [0,1,2,3,8,10,11,12] g27B0
theorem g27L0e: cl AP g27L0 st=after (cl AP g27L0) (cl AP g27B0 (norm (restrict [0,1,2,3,8,10,11,12] st))):=aG
def g27:aC:=⟨4,95,[.c 8 5 true],
 (.seq
 (.ah [dG 8 wU] [0,1,2,3,8])
 (.seq
 (.ah [ae 14 0,
 cg 15 [.t 14,k_ 7] (.aA 68 []),
 ae 9 15] [0,1,2,3,8,9])
 (.seq
 (.block 0
 (.seq
 (.ah [ae 17 9,
 bo 18 17 3 (.bin .lss),
 ae 19 18,
 bj 20 19 true 2 (.v (.mv)),
 bj 21 19 true 20 (.v (.len)),
 dU 22 19 true [.t 21,k_ 0] (.v (.bin .gtr)),
 bs 23 [.t 19,.t 22,F_] .pick,
 ae 16 23] [0,1,2,3,8,9,16])
 (.cond (.t 16)
 (.seq
 (.ah [ae 24 2,
 ae 25 0,
 ae 26 2,
 aK 27 26 .len,
 dS 28 25 27 (.aA 68 []),
 a_ 29 24 28 (.aH 5),
 bz 30 29 (.aR 5 true),
 bl 8 30 8 0 5] [8])
 .ret)
 (.seq
 (.ah [ae 32 9,
 bo 33 32 4 (.bin .lss),
 ae 34 33,
 bj 35 34 false 3 (.v (.mv)),
 dU 36 34 false [.t 35,k_ 1] (.v (.bin .lss)),
 bs 37 [.t 34,T_,.t 36] .pick,
 ae 31 37] [0,1,2,3,8,9,31])
 (.cond (.t 31)
 (.seq
 (.ah [cg 38 [] (.aB 34),
 bl 8 38 8 0 5] [8])
 .ret)
 (.seq
 (.seq
 (.ah [ae 40 9,
 bo 41 40 4 (.bin .eql),
 ae 42 41,
 bj 43 42 true 1 (.v (.mv)),
 bj 44 42 true 43 (.v (.len)),
 dU 45 42 true [.t 44,k_ 0] (.v (.bin .gtr)),
 bs 46 [.t 42,.t 45,F_] .pick,
 ae 39 46] [0,1,2,3,8,9,39])
 (.cond (.t 39)
 .skip
 (.ah [ae 47 9,
 bo 48 47 5 (.bin .eql),
 ae 49 48,
 bj 50 49 true 1 (.v (.mv)),
 bj 51 49 true 50 (.v (.len)),
 dU 52 49 true [.t 51,k_ 0] (.v (.bin .gtr)),
 bs 53 [.t 49,.t 52,F_] .pick,
 ae 39 53] [0,1,2,3,8,39])))
 (.cond (.t 39)
 (.seq
 (.ah [ae 54 1,
 ae 55 0,
 ae 56 1,
 aK 57 56 .len,
 dS 58 55 57 (.aA 68 []),
 a_ 59 54 58 (.aH 4),
 bz 60 59 (.aR 4 true),
 dG 10 Dd,
 bl 10 60 10 0 4] [0,1,2,3,8,10])
 (.seq
 (.ah [bs 11 [.c (.bR [])] .mv] [0,1,2,3,8,10,11])
 (.seq
 (.seq
 (.ah [bb 12 (k_ 0)] [0,1,2,3,8,10,11,12])
 (.block 1
 g27L0))
 (.seq
 (.ah [aV 77 10 1,
 a8 78 77 10 1 1 false,
 ae 79 11,
 dS 80 78 79 (.aB 62),
 bl 8 80 8 0 5] [8])
 .ret))))
 .skip)))))))
 (.seq
 (.ah [ae 81 0,
 ae 82 1,
 ae 83 2,
 ae 84 3,
 bo 85 84 1 (.bin .sub),
 cg 86 [.t 81,.t 82,.t 83,.t 85] (.aA 27 []),
 dG 13 wU,
 bl 13 86 13 0 5] [0,1,2,3,8,13])
 (.seq
 (.ah [a8 87 13 13 0 5 true,
 ae 88 0,
 ae 89 1,
 ae 90 2,
 ae 91 3,
 bo 92 91 1 (.bin .sub),
 cg 93 [.t 88,.t 89,.t 90,.t 92] (.aA 27 []),
 dS 94 87 93 (.aB 69),
 bl 8 94 8 0 5] [8])
 .ret))))),none,false⟩
def g32B0:aw:=
 (.seq
 (.seq
 (.ah [ae 21 5,
 ae 22 3,
 aK 23 22 .len,
 a_ 24 21 23 (.bin .lss)] [0,3,4,5,24])
 (.cond (.t 24)
 .skip
 (.exit 0)))
 (.seq
 (.block 1
 (.seq
 (.ah [ae 27 5,
 bo 28 27 1 (.bin .neq),
 ae 29 28,
 bj 30 29 true 0 (.v (.mv)),
 bj 31 29 true 5 (.v (.mv)),
 bj 32 29 true 31 (.v (.conv .u64)),
 dU 33 29 true [.t 30,.t 32] (.v (.bin .shr)),
 dU 34 29 true [.t 33,k_ 1] (.v (.bin .and)),
 dU 35 29 true [.t 34,k_ 1] (.v (.bin .eql)),
 bs 36 [.t 29,.t 35,F_] .pick] [0,3,4,5,36])
 (.cond (.t 36)
 (.ah [ae 37 4,
 ae 38 3,
 ae 39 5,
 a_ 40 38 39 (.aH 4),
 aK 41 40 (.aS 4 true),
 aK 42 41 (.a6 4),
 dS 43 37 42 (.append 4 72),
 ae 4 43] [0,3,4,5])
 .skip)))
 (.ah [ae 25 5,
 bo 26 25 1 (.bin .add),
 ae 5 26] [0,3,4,5])))
def g32L0:aw:=.loop [0,3,4,5] g32B0
theorem g32L0e: cl AP g32L0 st=after (cl AP g32L0) (cl AP g32B0 (norm (restrict [0,3,4,5] st))):=aG
def g32:aC:=⟨1,45,[.t 2],
 (.seq
 (.ah [bs 2 [.c (.bR [])] .mv] [0])
 (.seq
 (.ah [cg 6 [] (.aB 79),
 ae 3 6] [0,3])
 (.seq
 (.ah [bs 4 [.c (.bR [])] .mv] [0,3,4])
 (.seq
 (.seq
 (.ah [ae 7 0,
 bo 8 7 2 (.bin .and),
 bo 9 8 0 (.bin .neq),
 ae 10 9,
 bj 11 10 false 0 (.v (.mv)),
 dU 12 10 false [.t 11,k_ 64] (.v (.bin .and)),
 dU 13 10 false [.t 12,k_ 0] (.v (.bin .neq)),
 bs 14 [.t 10,T_,.t 13] .pick] [0,3,4,14])
 (.cond (.t 14)
 (.ah [ae 15 4,
 ae 16 3,
 bo 17 16 1 (.aH 4),
 aK 18 17 (.aS 4 true),
 aK 19 18 (.a6 4),
 dS 20 15 19 (.append 4 72),
 ae 4 20] [0,3,4])
 .skip))
 (.seq
 (.seq
 (.ah [bb 5 (k_ 0)] [0,3,4,5])
 (.block 0
 g32L0))
 (.seq
 (.ah [ae 44 4,
 ae 2 44] [2])
 .ret)))))),none,false⟩
def g34:aC:=⟨0,2,[.c 0 5 true],
 (.seq
 (.ah [dG 0 wU] [0])
 (.seq
 (.ah [cg 1 [.c (.pv (.str [73,110,116])),.c (.bR [])] (.aB 62),
 bl 0 1 0 0 5] [0])
 .ret)),none,false⟩
def g52B0:aw:=
 (.seq
 (.seq
 (.ah [ae 5 4,
 aV 6 1 4,
 a8 7 6 1 4 1 false,
 aK 8 7 .len,
 a_ 9 5 8 (.bin .lss)] [1,3,4,9])
 (.cond (.t 9)
 .skip
 (.exit 0)))
 (.seq
 (.block 1
 (.ah [ae 12 3,
 aV 13 1 4,
 a8 14 13 1 4 1 false,
 ae 15 4,
 a_ 16 14 15 (.aH 5),
 aK 17 16 (.aS 5 true),
 bz 18 17 (.aB 52),
 bs 19 [k_ 1,.t 18] (.bin .add),
 a_ 20 12 19 .mx,
 ae 3 20] [1,3,4]))
 (.ah [ae 10 4,
 bo 11 10 1 (.bin .add),
 ae 4 11] [1,3,4])))
def g52L0:aw:=.loop [1,3,4] g52B0
theorem g52L0e: cl AP g52L0 st=after (cl AP g52L0) (cl AP g52B0 (norm (restrict [1,3,4] st))):=aG
def g52:aC:=⟨1,22,[.t 2],
 (.seq
 (.ah [bz 1 0 (.box 1 5),
 bb 2 (k_ 0)] [1])
 (.seq
 (.ah [bb 3 (k_ 0)] [1,3])
 (.seq
 (.seq
 (.ah [bb 4 (k_ 0)] [1,3,4])
 (.block 0
 g52L0))
 (.seq
 (.ah [ae 21 3,
 ae 2 21] [2])
 .ret)))),none,false⟩
def g62:aC:=⟨2,9,[.c 4 5 true],
 (.seq
 (.ah [dG 4 wU] [0,1,4])
 (.seq
 (.ah [ae 5 0,
 ae 6 1,
 cg 7 [.c (.bR []),.t 6] (.append 5 64),
 bs 8 [k_ 4,.t 5,.t 7] (.build wU [(0,1),(1,1),(4,1)]),
 bl 4 8 4 0 5] [4])
 .ret)),none,false⟩
def g68:aC:=⟨2,35,[.t 4],
 (.seq
 (.ah [bb 4 (k_ 0)] [0,1])
 (.seq
 (.seq
 (.ah [ae 5 0,
 aK 6 5 .aQ,
 aV 7 6 1,
 bz 8 7 (.aR 1 false),
 ae 9 0,
 aK 10 9 .aQ,
 aV 11 10 0,
 bz 12 11 (.aR 1 false),
 aK 13 12 .len,
 a_ 14 8 13 (.bin .geq)] [0,1,14])
 (.cond (.t 14)
 (.seq
 (.ah [bb 4 (k_ 0)] [4])
 .ret)
 .skip))
 (.seq
 (.ah [ae 15 0,
 aK 16 15 .aQ,
 aV 17 16 1,
 bz 18 17 (.aR 1 false),
 bo 19 18 1 (.bin .add),
 aK 20 15 .aQ,
 aV 21 20 1,
 qp [.t 21,.t 19] (.cz 1)] [0,1])
 (.seq
 (.ah [ae 22 0,
 aK 23 22 .aQ,
 aV 24 23 0,
 bz 25 24 (.aR 1 false),
 ae 26 0,
 aK 27 26 .aQ,
 aV 28 27 1,
 bz 29 28 (.aR 1 false),
 bo 30 29 1 (.bin .sub),
 a_ 31 25 30 (.aH 1),
 aK 32 31 (.aS 1 false),
 ae 33 1,
 dS 34 32 33 (.aB 26),
 ae 4 34] [4])
 .ret)))),none,false⟩
def g69:aC:=⟨2,9,[.c 4 5 true],
 (.seq
 (.ah [bz 2 0 (.box 2 5),
 bz 3 1 (.box 3 5),
 dG 4 wU] [2,3,4])
 (.seq
 (.ah [a8 5 2 2 0 5 true,
 a8 6 3 3 0 5 true,
 a_ 7 5 6 (.a6 5),
 cg 8 [.c (.pv (.str [45,62])),.t 7] (.aB 62),
 bl 4 8 4 0 5] [4])
 .ret)),none,false⟩
def g77:aC:=⟨1,20,[.t 2],
 (.seq
 (.ah [bb 2 F_] [0])
 (.seq
 (.ah [ae 3 0,
 bz 4 3 (.aB 108),
 ae 5 4,
 bj 6 5 true 0 (.v (.mv)),
 dU 7 5 true [.t 6,k_ 0] (.v (.index)),
 bj 8 5 true 7 (.aB 109),
 bs 9 [.t 5,.t 8,F_] .pick,
 ae 10 9,
 bj 11 10 true 0 (.v (.mv)),
 bj 12 10 true 11 (.v (.il)),
 dU 13 10 true [.t 12,k_ 12] (.v (.bin .leq)),
 bs 14 [.t 10,.t 13,F_] .pick,
 ae 15 14,
 bj 16 15 true 0 (.v (.mv)),
 bj 17 15 true 16 (.aB 110),
 bj 18 15 true 17 (.v (.un .not)),
 bs 19 [.t 15,.t 18,F_] .pick,
 ae 2 19] [2])
 .ret)),none,false⟩
def g78:aC:=⟨1,15,[.t 2],
 (.seq
 (.ah [bb 2 F_] [0])
 (.seq
 (.ah [ae 3 0,
 bz 4 3 (.aB 108),
 ae 5 4,
 bj 6 5 true 0 (.v (.mv)),
 dU 7 5 true [.t 6,k_ 0] (.v (.index)),
 bj 8 5 true 7 (.aB 111),
 bs 9 [.t 5,.t 8,F_] .pick,
 ae 10 9,
 bj 11 10 true 0 (.v (.mv)),
 bj 12 10 true 11 (.v (.il)),
 dU 13 10 true [.t 12,k_ 12] (.v (.bin .leq)),
 bs 14 [.t 10,.t 13,F_] .pick,
 ae 2 14] [2])
 .ret)),none,false⟩
def g79:aC:=⟨0,9,[.t 0],
 (.seq
 (.ah [bs 0 [.c (.bR [])] .mv] [])
 (.seq
 (.ah [cg 4 [.c (.pv (.str [100,97,116,97,32,66,111,111,108,32,61,32,84,114,117,101,32,124,32,70,97,108,115,101,59,32,100,97,116,97,32,79,112,116,105,111,110,32,97,32,61,32,78,111,110,101,32,124,32,83,111,109,101,32,97,59,32,100,97,116,97,32,76,105,115,116,32,97,32,61,32,78,105,108,32,124,32,67,111,110,115,32,97,32,40,76,105,115,116,32,97,41,59,100,97,116,97,32,80,97,105,114,32,97,32,98,32,61,32,80,97,105,114,32,97,32,98,59,32,100,97,116,97,32,78,97,116,32,61,32,90,101,114,111,32,124,32,83,117,99,99,32,78,97,116,59,32,100,97,116,97,32,70,117,110,32,97,32,98,32,61,32,70,117,110,32,40,97,32,45,62,32,98,41,59,32,100,97,116,97,32,84,119,111,32,97,32,61,32,66,111,116,104,32,97,32,97,32,124,32,79,110,101,32,40,79,112,116,105,111,110,32,97,41,59]))] (.aB 112),
 ae 3 4,
 aK 5 3 (.ext 0),
 aK 6 3 (.ext 1),
 dG 1 [dN,dN],
 dG 2 [a9,a9],
 bl 1 5 1 0 2,
 bl 2 6 2 0 2] [1])
 (.seq
 (.ah [aV 7 1 0,
 a8 8 7 1 0 1 false,
 ae 0 8] [0])
 .ret))),none,false⟩
def g106:aC:=⟨1,5,[.c 2 5 true],
 (.seq
 (.ah [dG 2 wU] [0,2])
 (.seq
 (.ah [ae 3 0,
 bs 4 [k_ 5,.t 3] (.build wU [(0,1),(1,1)]),
 bl 2 4 2 0 5] [2])
 .ret)),none,false⟩
def g108B0:aw:=
 (.seq
 (.seq
 (.ah [ae 4 3,
 ae 5 0,
 aK 6 5 .il,
 a_ 7 4 6 (.bin .lss)] [0,3,7])
 (.cond (.t 7)
 .skip
 (.exit 0)))
 (.seq
 (.block 1
 (.seq
 (.ah [ae 10 0,
 ae 11 3,
 a_ 12 10 11 .index,
 bz 13 12 (.aB 117),
 aK 14 13 (.un .not)] [0,3,14])
 (.cond (.t 14)
 (.seq
 (.ah [bb 2 F_] [2])
 .ret)
 .skip)))
 (.ah [ae 8 3,
 bo 9 8 1 (.bin .add),
 ae 3 9] [0,3])))
def g108L0:aw:=.loop [0,3] g108B0
theorem g108L0e: cl AP g108L0 st=after (cl AP g108L0) (cl AP g108B0 (norm (restrict [0,3] st))):=aG
def g108:aC:=⟨1,17,[.t 2],
 (.seq
 (.ah [bb 2 F_] [0])
 (.seq
 (.seq
 (.ah [bb 3 (k_ 0)] [0,3])
 (.block 0
 g108L0))
 (.seq
 (.ah [ae 15 0,
 bs 16 [.t 15,.c (.pv (.str []))] (.bin .neq),
 ae 2 16] [2])
 .ret))),none,false⟩
def g109:aC:=⟨1,9,[.t 2],
 (.seq
 (.ah [bb 2 F_] [0])
 (.seq
 (.ah [ae 3 0,
 bs 4 [.t 3,.c (.pv (.int .u8 97))] (.bin .geq),
 ae 5 4,
 bj 6 5 true 0 (.v (.mv)),
 dU 7 5 true [.t 6,.c (.pv (.int .u8 122))] (.v (.bin .leq)),
 bs 8 [.t 5,.t 7,F_] .pick,
 ae 2 8] [2])
 .ret)),none,false⟩
def g110B0:aw:=
 (.seq
 (.seq
 (.ah [ae 6 4,
 ae 7 3,
 aK 8 7 .len,
 a_ 9 6 8 (.bin .lss)] [0,3,4,9])
 (.cond (.t 9)
 .skip
 (.exit 0)))
 (.seq
 (.block 1
 (.seq
 (.ah [ae 12 3,
 ae 13 4,
 a_ 14 12 13 (.aH 1),
 aK 15 14 (.aS 1 false),
 ae 16 0,
 a_ 17 15 16 (.bin .eql)] [0,3,4,17])
 (.cond (.t 17)
 (.seq
 (.ah [bb 2 T_] [2])
 .ret)
 .skip)))
 (.ah [ae 10 4,
 bo 11 10 1 (.bin .add),
 ae 4 11] [0,3,4])))
def g110L0:aw:=.loop [0,3,4] g110B0
theorem g110L0e: cl AP g110L0 st=after (cl AP g110L0) (cl AP g110B0 (norm (restrict [0,3,4] st))):=aG
def g110:aC:=⟨1,18,[.t 2],
 (.seq
 (.ah [bb 2 F_] [0])
 (.seq
 (.ah [bs 5 [.c (.pv (.str [100,97,116,97])),.c (.pv (.str [108,101,116])),.c (.pv (.str [114,101,99])),.c (.pv (.str [105,110])),.c (.pv (.str [99,97,115,101])),.c (.pv (.str [111,102])),.c (.pv (.str [101,110,100]))] (.a6 1),
 ae 3 5] [0,3])
 (.seq
 (.seq
 (.ah [bb 4 (k_ 0)] [0,3,4])
 (.block 0
 g110L0))
 (.seq
 (.ah [bb 2 F_] [2])
 .ret)))),none,false⟩
def g111:aC:=⟨1,9,[.t 2],
 (.seq
 (.ah [bb 2 F_] [0])
 (.seq
 (.ah [ae 3 0,
 bs 4 [.t 3,.c (.pv (.int .u8 65))] (.bin .geq),
 ae 5 4,
 bj 6 5 true 0 (.v (.mv)),
 dU 7 5 true [.t 6,.c (.pv (.int .u8 90))] (.v (.bin .leq)),
 bs 8 [.t 5,.t 7,F_] .pick,
 ae 2 8] [2])
 .ret)),none,false⟩
def g112B0:aw:=
 (.seq
 (.seq
 (.ah [ae 20 7,
 aK 21 20 .aQ,
 aV 22 21 2,
 bz 23 22 (.aR 1 false),
 aK 24 23 (.un .not),
 ae 25 24,
 bj 26 25 true 7 (.v (.mv)),
 bj 27 25 true 26 (.v (.aQ)),
 bj 28 25 true 27 (.v (.b_ 1)),
 bj 29 25 true 28 (.aR 1 false),
 bj 30 25 true 4 (.v (.mv)),
 bj 31 25 true 30 (.v (.len)),
 dU 32 25 true [.t 29,.t 31] (.v (.bin .lss)),
 bs 33 [.t 25,.t 32,F_] .pick] [2,3,4,5,6,7,33])
 (.cond (.t 33)
 .skip
 (.exit 0)))
 (.block 1
 (.seq
 (.ah [ae 34 7,
 cg 35 [.t 34,.c (.pv (.str [100,97,116,97]))] (.aA 120 [])] [2,3,4,5,6,7,35])
 (.cond (.t 35)
 (.ah [aV 36 6 0,
 a8 37 36 6 0 1 false,
 ae 38 7,
 bz 39 38 (.aA 121 []),
 aK 40 39 (.a6 4),
 dS 41 37 40 (.append 4 72),
 aV 42 6 0,
 bl 42 41 6 0 1] [2,3,4,5,6,7])
 (.ah [aV 43 6 1,
 a8 44 43 6 1 1 false,
 ae 45 7,
 bz 46 45 (.aA 122 []),
 aK 47 46 (.a6 20),
 dS 48 44 47 (.append 20 256),
 aV 49 6 1,
 bl 49 48 6 1 1] [2,3,4,5,6,7])))))
def g112L0:aw:=.loop [2,3,4,5,6,7] g112B0
theorem g112L0e: cl AP g112L0 st=after (cl AP g112L0) (cl AP g112B0 (norm (restrict [2,3,4,5,6,7] st))):=aG
def g112:aC:=⟨1,69,[.c 2 2 true,.c 3 2 true],
 (.seq
 (.ah [dG 2 [dN,dN],
 dG 3 [a9,a9]] [0,2,3])
 (.seq
 (.ah [ae 9 0,
 bz 10 9 (.aB 118),
 ae 8 10,
 aK 11 8 (.ext 0),
 aK 12 8 (.ext 1),
 dG 5 [a9,a9],
 ae 4 11,
 bl 5 12 5 0 2] [2,3,4,5])
 (.seq
 (.seq
 (.ah [aV 13 5 0,
 a8 14 13 5 0 1 false,
 bo 15 14 0 (.bin .neq)] [2,3,4,5,15])
 (.cond (.t 15)
 (.seq
 (.ah [bs 16 [] (.build [dN,dN] []),
 a8 17 5 5 0 2 true,
 bl 2 16 2 0 2,
 bl 3 17 3 0 2] [2,3])
 .ret)
 .skip))
 (.seq
 (.ah [dG 6 [dN,dN]] [2,3,4,5,6])
 (.seq
 (.ah [ae 18 4,
 cg 19 [.t 18,k_ 0] (.aA 119 []),
 ae 7 19] [2,3,4,5,6,7])
 (.seq
 (.block 0
 g112L0)
 (.seq
 (.seq
 (.ah [ae 50 7,
 aK 51 50 .aQ,
 aV 52 51 2,
 bz 53 52 (.aR 1 false)] [2,3,5,6,7,53])
 (.cond (.t 53)
 (.seq
 (.ah [bs 54 [] (.build [dN,dN] []),
 ae 55 7,
 aK 56 55 .aQ,
 aV 57 56 3,
 bz 58 57 (.aR 1 false),
 bs 59 [k_ 3,.t 58] (.build [a9,a9] [(0,1),(1,1)]),
 bl 2 54 2 0 2,
 bl 3 59 3 0 2] [2,3])
 .ret)
 .skip))
 (.seq
 (.seq
 (.ah [a8 60 6 6 0 2 true,
 bz 61 60 (.aB 123),
 bl 5 61 5 0 2] [2,3,5,6])
 (.seq
 (.ah [aV 62 5 0,
 a8 63 62 5 0 1 false,
 bo 64 63 0 (.bin .neq)] [2,3,5,6,64])
 (.cond (.t 64)
 (.seq
 (.ah [bs 65 [] (.build [dN,dN] []),
 a8 66 5 5 0 2 true,
 bl 2 65 2 0 2,
 bl 3 66 3 0 2] [2,3])
 .ret)
 .skip)))
 (.seq
 (.ah [a8 67 6 6 0 2 true,
 a8 68 5 5 0 2 true,
 bl 2 67 2 0 2,
 bl 3 68 3 0 2] [2,3])
 .ret))))))))),none,true⟩
def g117:aC:=⟨1,17,[.t 2],
 (.seq
 (.ah [bb 2 F_] [0])
 (.seq
 (.ah [ae 3 0,
 bz 4 3 (.aB 109),
 ae 5 4,
 bj 6 5 false 0 (.v (.mv)),
 bj 7 5 false 6 (.aB 111),
 bs 8 [.t 5,T_,.t 7] .pick,
 ae 9 8,
 bj 10 9 false 0 (.v (.mv)),
 bj 11 9 false 10 (.aB 124),
 bs 12 [.t 9,T_,.t 11] .pick,
 ae 13 12,
 bj 14 13 false 0 (.v (.mv)),
 dU 15 13 false [.t 14,.c (.pv (.int .u8 95))] (.v (.bin .eql)),
 bs 16 [.t 13,T_,.t 15] .pick,
 ae 2 16] [2])
 .ret)),none,false⟩
def g118B1:aw:=
 (.seq
 (.seq
 (.ah [ae 42 5,
 ae 43 0,
 aK 44 43 .il,
 a_ 45 42 44 (.bin .lss),
 ae 46 45,
 bj 47 46 true 0 (.v (.mv)),
 bj 48 46 true 5 (.v (.mv)),
 dU 49 46 true [.t 47,.t 48] (.v (.index)),
 dU 50 46 true [.t 49,.c (.pv (.int .u8 10))] (.v (.bin .neq)),
 bs 51 [.t 46,.t 50,F_] .pick] [0,3,4,5,51])
 (.cond (.t 51)
 .skip
 (.exit 3)))
 (.block 4
 (.ah [ae 52 5,
 bo 53 52 1 (.bin .add),
 ae 5 53] [0,3,4,5])))
def g118L1:aw:=.loop [0,3,4,5] g118B1
theorem g118L1e: cl AP g118L1 st=after (cl AP g118L1) (cl AP g118B1 (norm (restrict [0,3,4,5] st))):=aG
def g118B2:aw:=
 (.seq
 (.seq
 (.ah [ae 57 7,
 ae 58 0,
 aK 59 58 .il,
 a_ 60 57 59 (.bin .lss),
 ae 61 60,
 bj 62 61 true 0 (.v (.mv)),
 bj 63 61 true 7 (.v (.mv)),
 dU 64 61 true [.t 62,.t 63] (.v (.index)),
 bj 65 61 true 64 (.aB 117),
 bs 66 [.t 61,.t 65,F_] .pick] [0,3,4,5,7,66])
 (.cond (.t 66)
 .skip
 (.exit 5)))
 (.block 6
 (.ah [ae 67 7,
 bo 68 67 1 (.bin .add),
 ae 7 68] [0,3,4,5,7])))
def g118L2:aw:=.loop [0,3,4,5,7] g118B2
theorem g118L2e: cl AP g118L2 st=after (cl AP g118L2) (cl AP g118B2 (norm (restrict [0,3,4,5,7] st))):=aG
def g118B0:aw:=
 (.seq
 (.seq
 (.ah [ae 13 5,
 ae 14 0,
 aK 15 14 .il,
 a_ 16 13 15 (.bin .lss)] [0,3,4,5,16])
 (.cond (.t 16)
 .skip
 (.exit 0)))
 (.block 1
 (.seq
 (.ah [ae 17 0,
 ae 18 5,
 a_ 19 17 18 .index,
 ae 6 19] [0,3,4,5,6])
 (.seq
 (.ah [ae 20 5,
 bo 21 20 1 (.bin .add),
 ae 7 21] [0,3,4,5,6,7])
 (.seq
 (.block 2
 (.seq
 (.ah [ae 23 6,
 bs 24 [.t 23,.c (.pv (.int .u8 32))] (.bin .eql),
 ae 25 24,
 bj 26 25 false 6 (.v (.mv)),
 dU 27 25 false [.t 26,.c (.pv (.int .u8 9))] (.v (.bin .eql)),
 bs 28 [.t 25,T_,.t 27] .pick,
 ae 29 28,
 bj 30 29 false 6 (.v (.mv)),
 dU 31 29 false [.t 30,.c (.pv (.int .u8 13))] (.v (.bin .eql)),
 bs 32 [.t 29,T_,.t 31] .pick,
 ae 33 32,
 bj 34 33 false 6 (.v (.mv)),
 dU 35 33 false [.t 34,.c (.pv (.int .u8 10))] (.v (.bin .eql)),
 bs 36 [.t 33,T_,.t 35] .pick,
 ae 22 36] [0,3,4,5,6,7,22])
 (.cond (.t 22)
 (.seq
 (.ah [ae 37 5,
 bo 38 37 1 (.bin .add),
 ae 5 38] [0,3,4,5])
 (.exit 1))
 (.seq
 (.ah [ae 40 6,
 bs 41 [.t 40,.c (.pv (.int .u8 35))] (.bin .eql),
 ae 39 41] [0,3,4,5,6,7,39])
 (.cond (.t 39)
 (.seq
 (.block 3
 g118L1)
 (.exit 1))
 (.seq
 (.ah [ae 55 6,
 bz 56 55 (.aB 117),
 ae 54 56] [0,3,4,5,6,7,54])
 (.cond (.t 54)
 (.block 5
 g118L2)
 (.seq
 (.ah [ae 70 6,
 bs 71 [.t 70,.c (.pv (.int .u8 45))] (.bin .eql),
 ae 72 71,
 bj 73 72 true 7 (.v (.mv)),
 bj 74 72 true 0 (.v (.mv)),
 bj 75 72 true 74 (.v (.il)),
 dU 76 72 true [.t 73,.t 75] (.v (.bin .lss)),
 bs 77 [.t 72,.t 76,F_] .pick,
 ae 78 77,
 bj 79 78 true 0 (.v (.mv)),
 bj 80 78 true 7 (.v (.mv)),
 dU 81 78 true [.t 79,.t 80] (.v (.index)),
 dU 82 78 true [.t 81,.c (.pv (.int .u8 62))] (.v (.bin .eql)),
 bs 83 [.t 78,.t 82,F_] .pick,
 ae 69 83] [0,3,4,5,7,69])
 (.cond (.t 69)
 (.ah [ae 84 7,
 bo 85 84 1 (.bin .add),
 ae 7 85] [0,3,4,5,7])
 .skip)))))))))
 (.seq
 (.ah [ae 86 0,
 ae 87 5,
 ae 88 7,
 bs 89 [.t 86,.t 87,.t 88] (.slice true 0 true true false),
 bz 90 89 (.aB 125),
 ae 8 90] [0,3,4,5,7,8])
 (.seq
 (.seq
 (.ah [ae 91 8,
 bo 92 91 0 (.bin .eql)] [0,3,4,5,7,8,92])
 (.cond (.t 92)
 (.seq
 (.ah [ae 93 5,
 bs 94 [k_ 2,.t 93] (.build [a9,a9] [(0,1),(1,1)]),
 bs 2 [.c (.bR [])] .mv,
 bl 3 94 3 0 2] [2,3])
 .ret)
 .skip))
 (.seq
 (.ah [ae 95 4,
 ae 96 8,
 ae 97 0,
 ae 98 5,
 ae 99 7,
 bs 100 [.t 97,.t 98,.t 99] (.slice true 0 true true false),
 ae 101 5,
 bs 102 [.t 96,.t 100,.t 101] (.build [a9,fh,a9] [(0,1),(1,1),(2,1)]),
 aK 103 102 (.a6 3),
 dS 104 95 103 (.append 3 32),
 ae 4 104] [0,3,4,7])
 (.ah [ae 105 7,
 ae 5 105] [0,3,4,5])))))))))
def g118L0:aw:=.loop [0,3,4,5] g118B0
theorem g118L0e: cl AP g118L0 st=after (cl AP g118L0) (cl AP g118B0 (norm (restrict [0,3,4,5] st))):=aG
def g118:aC:=⟨1,108,[.t 2,.c 3 2 true],
 (.seq
 (.ah [bs 2 [.c (.bR [])] .mv,
 dG 3 [a9,a9]] [0,3])
 (.seq
 (.seq
 (.ah [ae 9 0,
 aK 10 9 .il,
 bo 11 10 4000 (.bin .gtr)] [0,3,11])
 (.cond (.t 11)
 (.seq
 (.ah [bs 12 [k_ 1] (.build [a9,a9] [(0,1)]),
 bs 2 [.c (.bR [])] .mv,
 bl 3 12 3 0 2] [2,3])
 .ret)
 .skip))
 (.seq
 (.ah [bs 4 [.c (.bR [])] .mv] [0,3,4])
 (.seq
 (.seq
 (.ah [bb 5 (k_ 0)] [0,3,4,5])
 (.block 0
 g118L0))
 (.seq
 (.ah [ae 106 4,
 bs 107 [] (.build [a9,a9] []),
 ae 2 106,
 bl 3 107 3 0 2] [2,3])
 .ret))))),none,false⟩
def g119:aC:=⟨2,19,[.t 4],
 (.seq
 (.ah [bs 4 [.c (.cM)] .mv] [0,1])
 (.seq
 (.seq
 (.ah [ae 5 1,
 bo 6 5 0 (.bin .lss),
 ae 7 6,
 bj 8 7 false 1 (.v (.mv)),
 bj 9 7 false 0 (.v (.mv)),
 bj 10 7 false 9 (.v (.len)),
 dU 11 7 false [.t 8,.t 10] (.v (.bin .gtr)),
 bs 12 [.t 7,T_,.t 11] .pick] [0,1,12])
 (.cond (.t 12)
 (.ah [ae 13 0,
 aK 14 13 .len,
 ae 1 14] [0,1])
 .skip))
 (.seq
 (.ah [ae 15 0,
 ae 16 1,
 a_ 17 15 16 (.build [dN,a9,.bool false,a9] [(0,1),(1,1)]),
 bz 18 17 (.kX 4),
 ae 4 18] [4])
 .ret))),none,false⟩
def g120:aC:=⟨2,65,[.t 4],
 (.seq
 (.ah [bb 4 F_] [0,1])
 (.seq
 (.ah [ae 5 0,
 aK 6 5 .aQ,
 aV 7 6 2,
 bz 8 7 (.aR 1 false),
 aK 9 8 (.un .not),
 ae 10 9,
 bj 11 10 true 0 (.v (.mv)),
 bj 12 10 true 11 (.v (.aQ)),
 bj 13 10 true 12 (.v (.b_ 1)),
 bj 14 10 true 13 (.aR 1 false),
 bj 15 10 true 0 (.v (.mv)),
 bj 16 10 true 15 (.v (.aQ)),
 bj 17 10 true 16 (.v (.b_ 0)),
 bj 18 10 true 17 (.aR 1 false),
 bj 19 10 true 18 (.v (.len)),
 dU 20 10 true [.t 14,.t 19] (.v (.bin .lss)),
 bs 21 [.t 10,.t 20,F_] .pick,
 ae 22 21,
 bj 23 22 true 0 (.v (.mv)),
 bj 24 22 true 23 (.v (.aQ)),
 bj 25 22 true 24 (.v (.b_ 0)),
 bj 26 22 true 25 (.aR 1 false),
 bj 27 22 true 0 (.v (.mv)),
 bj 28 22 true 27 (.v (.aQ)),
 bj 29 22 true 28 (.v (.b_ 1)),
 bj 30 22 true 29 (.aR 1 false),
 dU 31 22 true [.t 26,.t 30] (.v (.aH 3)),
 bj 32 22 true 31 (.v (.b_ 0)),
 bj 33 22 true 32 (.v (.aS 1 false)),
 dU 34 22 true [.t 33,k_ 5] (.v (.bin .eql)),
 bj 35 22 true 34 (.v (.mv)),
 bj 36 35 false 0 (.v (.mv)),
 bj 37 35 false 36 (.v (.aQ)),
 bj 38 35 false 37 (.v (.b_ 0)),
 bj 39 35 false 38 (.aR 1 false),
 bj 40 35 false 0 (.v (.mv)),
 bj 41 35 false 40 (.v (.aQ)),
 bj 42 35 false 41 (.v (.b_ 1)),
 bj 43 35 false 42 (.aR 1 false),
 dU 44 35 false [.t 39,.t 43] (.v (.aH 3)),
 bj 45 35 false 44 (.v (.b_ 0)),
 bj 46 35 false 45 (.v (.aS 1 false)),
 dU 47 35 false [.t 46,k_ 4] (.v (.bin .eql)),
 dU 48 22 true [.t 35,T_,.t 47] (.v (.pick)),
 bs 49 [.t 22,.t 48,F_] .pick,
 ae 50 49,
 bj 51 50 true 0 (.v (.mv)),
 bj 52 50 true 51 (.v (.aQ)),
 bj 53 50 true 52 (.v (.b_ 0)),
 bj 54 50 true 53 (.aR 1 false),
 bj 55 50 true 0 (.v (.mv)),
 bj 56 50 true 55 (.v (.aQ)),
 bj 57 50 true 56 (.v (.b_ 1)),
 bj 58 50 true 57 (.aR 1 false),
 dU 59 50 true [.t 54,.t 58] (.v (.aH 3)),
 bj 60 50 true 59 (.v (.b_ 1)),
 bj 61 50 true 60 (.v (.aS 1 false)),
 bj 62 50 true 1 (.v (.mv)),
 dU 63 50 true [.t 61,.t 62] (.v (.bin .eql)),
 bs 64 [.t 50,.t 63,F_] .pick,
 ae 4 64] [4])
 .ret)),none,false⟩
def g121B0:aw:=
 (.seq
 (.seq
 (.ah [ae 13 0,
 cg 14 [.t 13,k_ 1] (.aA 129 [])] [0,2,3,14])
 (.cond (.t 14)
 .skip
 (.exit 0)))
 (.block 1
 (.ah [aV 15 3 2,
 a8 16 15 3 2 1 false,
 ae 17 0,
 cg 18 [.t 17,k_ 1] (.aA 128 []),
 aK 19 18 (.a6 1),
 dS 20 16 19 (.append 1 16),
 aV 21 3 2,
 bl 21 20 3 2 1] [0,2,3])))
def g121L0:aw:=.loop [0,2,3] g121B0
theorem g121L0e: cl AP g121L0 st=after (cl AP g121L0) (cl AP g121B0 (norm (restrict [0,2,3] st))):=aG
def g121B2:aw:=
 (.seq
 (.seq
 (.ah [ae 34 0,
 bz 35 34 (.aA 130 [])] [0,2,3,4,35])
 (.cond (.t 35)
 .skip
 (.exit 4)))
 (.block 5
 (.ah [aV 36 4 2,
 a8 37 36 4 2 1 false,
 ae 38 0,
 bz 39 38 (.aA 131 []),
 aK 40 39 (.a6 5),
 dS 41 37 40 (.append 5 64),
 aV 42 4 2,
 bl 42 41 4 2 1] [0,2,3,4])))
def g121L2:aw:=.loop [0,2,3,4] g121B2
theorem g121L2e: cl AP g121L2 st=after (cl AP g121L2) (cl AP g121B2 (norm (restrict [0,2,3,4] st))):=aG
def g121B1:aw:=
 (.seq
 (.seq
 (.ah [ae 24 0,
 aK 25 24 .aQ,
 aV 26 25 2,
 bz 27 26 (.aR 1 false),
 aK 28 27 (.un .not)] [0,2,3,28])
 (.cond (.t 28)
 .skip
 (.exit 2)))
 (.block 3
 (.seq
 (.ah [ae 29 0,
 bz 30 29 (.aA 126 []),
 ae 31 0,
 cg 32 [.t 31,k_ 2] (.aA 128 []),
 a_ 33 30 32 (.build [a9,fh,dN] [(0,1),(1,1)]),
 dG 4 [a9,fh,dN],
 bl 4 33 4 0 3] [0,2,3,4])
 (.seq
 (.block 4
 g121L2)
 (.seq
 (.ah [aV 43 3 3,
 a8 44 43 3 3 1 false,
 a8 45 4 4 0 3 true,
 aK 46 45 (.a6 3),
 dS 47 44 46 (.append 3 48),
 aV 48 3 3,
 bl 48 47 3 3 1] [0,2,3])
 (.seq
 (.ah [ae 49 0,
 cg 50 [.t 49,.c (.pv (.str [124]))] (.aA 132 []),
 aK 51 50 (.un .not)] [0,2,3,51])
 (.cond (.t 51)
 (.exit 2)
 .skip)))))))
def g121L1:aw:=.loop [0,2,3] g121B1
theorem g121L1e: cl AP g121L1 st=after (cl AP g121L1) (cl AP g121B1 (norm (restrict [0,2,3] st))):=aG
def g121:aC:=⟨1,55,[.c 2 4 true],
 (.seq
 (.ah [dG 2 Dd] [0,2])
 (.seq
 (.ah [ae 5 0,
 bz 6 5 (.aA 126 []),
 aK 7 6 (.build Dd [(0,1)]),
 dG 3 Dd,
 bl 3 7 3 0 4] [0,2,3])
 (.seq
 (.ah [ae 8 0,
 cg 9 [.t 8,.c (.pv (.str [100,97,116,97]))] (.aA 127 [])] [0,2,3])
 (.seq
 (.ah [ae 10 0,
 cg 11 [.t 10,k_ 2] (.aA 128 []),
 aV 12 3 1,
 bl 12 11 3 1 1] [0,2,3])
 (.seq
 (.block 0
 g121L0)
 (.seq
 (.ah [ae 22 0,
 cg 23 [.t 22,.c (.pv (.str [61]))] (.aA 127 [])] [0,2,3])
 (.seq
 (.block 2
 g121L1)
 (.seq
 (.ah [ae 52 0,
 cg 53 [.t 52,.c (.pv (.str [59]))] (.aA 127 [])] [2,3])
 (.seq
 (.ah [a8 54 3 3 0 4 true,
 bl 2 54 2 0 4] [2])
 .ret))))))))),none,false⟩
def g122:aC:=⟨1,34,[.c 2 20 true],
 (.seq
 (.ah [dG 2 [a9,.bool false,fh,.bool false,a9,fh,a9,a9,dN,a9,a9,fh,a9,dN,dN,a9,fh,a9,a9,dN]] [0,2])
 (.seq
 (.ah [ae 4 0,
 bz 5 4 (.aA 126 []),
 aK 6 5 (.build [a9,.bool false,fh,.bool false,a9,fh,a9,a9,dN,a9,a9,fh,a9,dN,dN,a9,fh,a9,a9,dN] [(0,1)]),
 dG 3 [a9,.bool false,fh,.bool false,a9,fh,a9,a9,dN,a9,a9,fh,a9,dN,dN,a9,fh,a9,a9,dN],
 bl 3 6 3 0 20] [0,2,3])
 (.seq
 (.ah [ae 7 0,
 cg 8 [.t 7,.c (.pv (.str [108,101,116]))] (.aA 127 [])] [0,2,3])
 (.seq
 (.ah [ae 9 0,
 cg 10 [.t 9,.c (.pv (.str [114,101,99]))] (.aA 132 []),
 aV 11 3 1,
 bl 11 10 3 1 1] [0,2,3])
 (.seq
 (.ah [ae 12 0,
 cg 13 [.t 12,k_ 1] (.aA 128 []),
 aV 14 3 2,
 bl 14 13 3 2 1] [0,2,3])
 (.seq
 (.seq
 (.ah [ae 15 0,
 cg 16 [.t 15,.c (.pv (.str [58]))] (.aA 132 [])] [0,2,3,16])
 (.cond (.t 16)
 (.seq
 (.ah [aV 17 3 3,
 qp [.t 17,T_] (.d4 3 3 1)] [0,2,3])
 (.ah [ae 18 0,
 bz 19 18 (.aA 133 []),
 aV 20 3 4,
 bl 20 19 3 4 5] [0,2,3]))
 .skip))
 (.seq
 (.ah [ae 21 0,
 cg 22 [.t 21,.c (.pv (.str [61]))] (.aA 127 [])] [0,2,3])
 (.seq
 (.seq
 (.ah [ae 23 0,
 aK 24 23 .aQ,
 aV 25 24 2,
 bz 26 25 (.aR 1 false),
 aK 27 26 (.un .not)] [0,2,3,27])
 (.cond (.t 27)
 (.ah [ae 28 0,
 bz 29 28 (.aA 134 []),
 aV 30 3 9,
 bl 30 29 3 9 11] [0,2,3])
 .skip))
 (.seq
 (.ah [ae 31 0,
 cg 32 [.t 31,.c (.pv (.str [59]))] (.aA 127 [])] [2,3])
 (.seq
 (.ah [a8 33 3 3 0 20 true,
 bl 2 33 2 0 20] [2])
 .ret)))))))))),none,false⟩
def g123B1:aw:=
 (.seq
 (.seq
 (.ah [ae 43 5,
 aV 44 4 3,
 a8 45 44 4 3 1 false,
 aK 46 45 .len,
 a_ 47 43 46 (.bin .lss)] [1,2,3,4,5,47])
 (.cond (.t 47)
 .skip
 (.exit 2)))
 (.seq
 (.block 3
 (.seq
 (.ah [aV 50 4 3,
 a8 51 50 4 3 1 false,
 ae 52 5,
 a_ 53 51 52 (.aH 3),
 aV 54 53 2,
 aK 55 54 (.aS 1 false),
 aK 56 55 .len,
 bo 57 56 4 (.bin .gtr)] [1,2,3,4,5,57])
 (.cond (.t 57)
 (.seq
 (.ah [aV 58 4 3,
 a8 59 58 4 3 1 false,
 ae 60 5,
 a_ 61 59 60 (.aH 3),
 aV 62 61 0,
 aK 63 62 (.aS 1 false),
 bs 64 [k_ 5,.t 63] (.build [a9,a9] [(0,1),(1,1)]),
 bl 2 64 2 0 2] [2])
 .ret)
 .skip)))
 (.ah [ae 48 5,
 bo 49 48 1 (.bin .add),
 ae 5 49] [1,2,3,4,5])))
def g123L1:aw:=.loop [1,2,3,4,5] g123B1
theorem g123L1e: cl AP g123L1 st=after (cl AP g123L1) (cl AP g123B1 (norm (restrict [1,2,3,4,5] st))):=aG
def g123B0:aw:=
 (.seq
 (.seq
 (.ah [ae 14 3,
 aV 15 1 0,
 a8 16 15 1 0 1 false,
 aK 17 16 .len,
 a_ 18 14 17 (.bin .lss)] [1,2,3,18])
 (.cond (.t 18)
 .skip
 (.exit 0)))
 (.seq
 (.block 1
 (.seq
 (.ah [aV 21 1 0,
 a8 22 21 1 0 1 false,
 ae 23 3,
 a_ 24 22 23 (.aH 4),
 aK 25 24 (.aS 4 true),
 dG 4 Dd,
 bl 4 25 4 0 4] [1,2,3,4])
 (.seq
 (.seq
 (.ah [ae 26 3,
 bo 27 26 8 (.bin .geq),
 ae 28 27,
 bj 29 28 false 4 (.v (.b_ 2)),
 bj 30 28 false 29 (.de 4 2 1 false),
 bj 31 28 false 30 (.v (.len)),
 dU 32 28 false [.t 31,k_ 4] (.v (.bin .gtr)),
 bs 33 [.t 28,T_,.t 32] .pick,
 ae 34 33,
 bj 35 34 false 4 (.v (.b_ 3)),
 bj 36 34 false 35 (.de 4 3 1 false),
 bj 37 34 false 36 (.v (.len)),
 dU 38 34 false [.t 37,k_ 6] (.v (.bin .gtr)),
 bs 39 [.t 34,T_,.t 38] .pick] [1,2,3,4,39])
 (.cond (.t 39)
 (.seq
 (.ah [aV 40 4 0,
 a8 41 40 4 0 1 false,
 bs 42 [k_ 5,.t 41] (.build [a9,a9] [(0,1),(1,1)]),
 bl 2 42 2 0 2] [2])
 .ret)
 .skip))
 (.seq
 (.ah [bb 5 (k_ 0)] [1,2,3,4,5])
 (.block 2
 g123L1)))))
 (.ah [ae 19 3,
 bo 20 19 1 (.bin .add),
 ae 3 20] [1,2,3])))
def g123L0:aw:=.loop [1,2,3] g123B0
theorem g123L0e: cl AP g123L0 st=after (cl AP g123L0) (cl AP g123B0 (norm (restrict [1,2,3] st))):=aG
def g123B4:aw:=
 (.seq
 (.seq
 (.ah [ae 94 9,
 aV 95 7 3,
 a8 96 95 7 3 1 false,
 ae 97 8,
 a_ 98 96 97 (.aH 3),
 aV 99 98 2,
 aK 100 99 (.aS 1 false),
 aK 101 100 .len,
 a_ 102 94 101 (.bin .lss)] [1,2,6,7,8,9,102])
 (.cond (.t 102)
 .skip
 (.exit 8)))
 (.seq
 (.block 9
 (.seq
 (.ah [aV 105 7 3,
 a8 106 105 7 3 1 false,
 ae 107 8,
 a_ 108 106 107 (.aH 3),
 aV 109 108 2,
 aK 110 109 (.aS 1 false),
 ae 111 9,
 a_ 112 110 111 (.aH 5),
 aK 113 112 (.aS 5 true),
 bz 114 113 (.aB 52),
 bo 115 114 40 (.bin .gtr)] [1,2,6,7,8,9,115])
 (.cond (.t 115)
 (.seq
 (.ah [aV 116 7 0,
 a8 117 116 7 0 1 false,
 bs 118 [k_ 4,.t 117] (.build [a9,a9] [(0,1),(1,1)]),
 bl 2 118 2 0 2] [2])
 .ret)
 .skip)))
 (.ah [ae 103 9,
 bo 104 103 1 (.bin .add),
 ae 9 104] [1,2,6,7,8,9])))
def g123L4:aw:=.loop [1,2,6,7,8,9] g123B4
theorem g123L4e: cl AP g123L4 st=after (cl AP g123L4) (cl AP g123B4 (norm (restrict [1,2,6,7,8,9] st))):=aG
def g123B3:aw:=
 (.seq
 (.seq
 (.ah [ae 87 8,
 aV 88 7 3,
 a8 89 88 7 3 1 false,
 aK 90 89 .len,
 a_ 91 87 90 (.bin .lss)] [1,2,6,7,8,91])
 (.cond (.t 91)
 .skip
 (.exit 6)))
 (.seq
 (.block 7
 (.seq
 (.ah [bb 9 (k_ 0)] [1,2,6,7,8,9])
 (.block 8
 g123L4)))
 (.ah [ae 92 8,
 bo 93 92 1 (.bin .add),
 ae 8 93] [1,2,6,7,8])))
def g123L3:aw:=.loop [1,2,6,7,8] g123B3
theorem g123L3e: cl AP g123L3 st=after (cl AP g123L3) (cl AP g123B3 (norm (restrict [1,2,6,7,8] st))):=aG
def g123B2:aw:=
 (.seq
 (.seq
 (.ah [ae 75 6,
 aV 76 1 0,
 a8 77 76 1 0 1 false,
 aK 78 77 .len,
 a_ 79 75 78 (.bin .lss)] [1,2,6,79])
 (.cond (.t 79)
 .skip
 (.exit 4)))
 (.seq
 (.block 5
 (.seq
 (.ah [aV 82 1 0,
 a8 83 82 1 0 1 false,
 ae 84 6,
 a_ 85 83 84 (.aH 4),
 aK 86 85 (.aS 4 true),
 dG 7 Dd,
 bl 7 86 7 0 4] [1,2,6,7])
 (.seq
 (.ah [bb 8 (k_ 0)] [1,2,6,7,8])
 (.block 6
 g123L3))))
 (.ah [ae 80 6,
 bo 81 80 1 (.bin .add),
 ae 6 81] [1,2,6])))
def g123L2:aw:=.loop [1,2,6] g123B2
theorem g123L2e: cl AP g123L2 st=after (cl AP g123L2) (cl AP g123B2 (norm (restrict [1,2,6] st))):=aG
def g123B5:aw:=
 (.seq
 (.seq
 (.ah [ae 119 10,
 aV 120 1 1,
 a8 121 120 1 1 1 false,
 aK 122 121 .len,
 a_ 123 119 122 (.bin .lss)] [1,2,10,123])
 (.cond (.t 123)
 .skip
 (.exit 10)))
 (.seq
 (.block 11
 (.seq
 (.ah [aV 126 1 1,
 a8 127 126 1 1 1 false,
 ae 128 10,
 a_ 129 127 128 (.aH 20),
 aK 130 129 (.aS 20 true),
 dG 11 [a9,.bool false,fh,.bool false,a9,fh,a9,a9,dN,a9,a9,fh,a9,dN,dN,a9,fh,a9,a9,dN],
 bl 11 130 11 0 20] [1,2,10,11])
 (.seq
 (.seq
 (.ah [aV 131 11 3,
 a8 132 131 11 3 1 false,
 ae 133 132,
 bj 134 133 true 11 (.v (.b_ 4)),
 bj 135 133 true 134 (.de 11 4 5 true),
 bj 136 133 true 135 (.aB 52),
 dU 137 133 true [.t 136,k_ 40] (.v (.bin .gtr)),
 bs 138 [.t 133,.t 137,F_] .pick,
 ae 139 138,
 bj 140 139 false 11 (.v (.b_ 9)),
 bj 141 139 false 140 (.de 11 9 11 true),
 bj 142 139 false 141 (.aB 135),
 bs 143 [.t 139,T_,.t 142] .pick] [1,2,10,11,143])
 (.cond (.t 143)
 (.seq
 (.ah [aV 144 11 0,
 a8 145 144 11 0 1 false,
 bs 146 [k_ 4,.t 145] (.build [a9,a9] [(0,1),(1,1)]),
 bl 2 146 2 0 2] [2])
 .ret)
 .skip))
 (.seq
 (.ah [aV 148 11 9,
 a8 149 148 11 9 11 true,
 bz 150 149 (.aB 136),
 ae 147 150,
 aK 151 147 (.ext 0),
 aK 152 147 (.ext 1),
 ae 12 151,
 ae 13 152] [1,2,10,12,13])
 (.seq
 (.ah [ae 153 13] [1,2,10,12,153])
 (.cond (.t 153)
 (.seq
 (.ah [ae 154 12,
 bs 155 [k_ 5,.t 154] (.build [a9,a9] [(0,1),(1,1)]),
 bl 2 155 2 0 2] [2])
 .ret)
 .skip))))))
 (.ah [ae 124 10,
 bo 125 124 1 (.bin .add),
 ae 10 125] [1,2,10])))
def g123L5:aw:=.loop [1,2,10] g123B5
theorem g123L5e: cl AP g123L5 st=after (cl AP g123L5) (cl AP g123B5 (norm (restrict [1,2,10] st))):=aG
def g123:aC:=⟨1,157,[.c 2 2 true],
 (.seq
 (.ah [bz 1 0 (.box 1 2),
 dG 2 [a9,a9]] [1,2])
 (.seq
 (.seq
 (.ah [bb 3 (k_ 0)] [1,2,3])
 (.block 0
 g123L0))
 (.seq
 (.seq
 (.ah [aV 65 1 1,
 a8 66 65 1 1 1 false,
 aK 67 66 .len,
 bo 68 67 16 (.bin .gtr)] [1,2,68])
 (.cond (.t 68)
 (.seq
 (.ah [aV 69 1 1,
 a8 70 69 1 1 1 false,
 bo 71 70 16 (.aH 20),
 aV 72 71 0,
 aK 73 72 (.aS 1 false),
 bs 74 [k_ 5,.t 73] (.build [a9,a9] [(0,1),(1,1)]),
 bl 2 74 2 0 2] [2])
 .ret)
 .skip))
 (.seq
 (.seq
 (.ah [bb 6 (k_ 0)] [1,2,6])
 (.block 4
 g123L2))
 (.seq
 (.seq
 (.ah [bb 10 (k_ 0)] [1,2,10])
 (.block 10
 g123L5))
 (.seq
 (.ah [bs 156 [] (.build [a9,a9] []),
 bl 2 156 2 0 2] [2])
 .ret)))))),none,false⟩
def g124:aC:=⟨1,9,[.t 2],
 (.seq
 (.ah [bb 2 F_] [0])
 (.seq
 (.ah [ae 3 0,
 bs 4 [.t 3,.c (.pv (.int .u8 48))] (.bin .geq),
 ae 5 4,
 bj 6 5 true 0 (.v (.mv)),
 dU 7 5 true [.t 6,.c (.pv (.int .u8 57))] (.v (.bin .leq)),
 bs 8 [.t 5,.t 7,F_] .pick,
 ae 2 8] [2])
 .ret)),none,false⟩
def g125:aC:=⟨1,18,[.t 2],
 (.seq
 (.ah [bb 2 (k_ 0)] [0])
 (.seq
 (.block 0
 (.seq
 (.ah [ae 4 0,
 bz 5 4 (.aB 110),
 ae 3 5] [0,3])
 (.cond (.t 3)
 (.seq
 (.ah [bb 2 (k_ 4)] [2])
 .ret)
 (.seq
 (.ah [ae 7 0,
 bz 8 7 (.aB 77),
 ae 6 8] [0,6])
 (.cond (.t 6)
 (.seq
 (.ah [bb 2 (k_ 1)] [2])
 .ret)
 (.seq
 (.ah [ae 10 0,
 bz 11 10 (.aB 78),
 ae 9 11] [0,9])
 (.cond (.t 9)
 (.seq
 (.ah [bb 2 (k_ 2)] [2])
 .ret)
 (.seq
 (.ah [ae 13 0,
 bz 14 13 (.aB 137),
 ae 12 14] [0,12])
 (.cond (.t 12)
 (.seq
 (.ah [bb 2 (k_ 3)] [2])
 .ret)
 (.seq
 (.ah [ae 16 0,
 bz 17 16 (.aB 138),
 ae 15 17] [15])
 (.cond (.t 15)
 (.seq
 (.ah [bb 2 (k_ 5)] [2])
 .ret)
 .skip)))))))))))
 (.seq
 (.ah [bb 2 (k_ 0)] [2])
 .ret))),none,false⟩
def g126:aC:=⟨1,24,[.t 2],
 (.seq
 (.ah [bb 2 (k_ 0)] [0])
 (.seq
 (.seq
 (.ah [ae 3 0,
 aK 4 3 .aQ,
 aV 5 4 1,
 bz 6 5 (.aR 1 false),
 ae 7 0,
 aK 8 7 .aQ,
 aV 9 8 0,
 bz 10 9 (.aR 1 false),
 aK 11 10 .len,
 a_ 12 6 11 (.bin .lss)] [0,12])
 (.cond (.t 12)
 (.seq
 (.ah [ae 13 0,
 aK 14 13 .aQ,
 aV 15 14 0,
 bz 16 15 (.aR 1 false),
 ae 17 0,
 aK 18 17 .aQ,
 aV 19 18 1,
 bz 20 19 (.aR 1 false),
 a_ 21 16 20 (.aH 3),
 aV 22 21 2,
 aK 23 22 (.aS 1 false),
 ae 2 23] [2])
 .ret)
 .skip))
 (.seq
 (.ah [bb 2 (k_ 0)] [2])
 .ret))),none,false⟩
def g127:aC:=⟨2,10,[],
 (.seq
 (.ah [ae 4 0,
 ae 5 1,
 dS 6 4 5 (.aA 132 []),
 aK 7 6 (.un .not)] [0,7])
 (.cond (.t 7)
 (.ah [ae 8 0,
 bz 9 8 (.aA 139 [])] [])
 .skip)),none,false⟩
def g128:aC:=⟨2,30,[.t 4],
 (.seq
 (.ah [bs 4 [.c (.pv (.str []))] .mv] [0,1])
 (.seq
 (.seq
 (.ah [ae 5 0,
 ae 6 1,
 dS 7 5 6 (.aA 129 []),
 aK 8 7 (.un .not)] [0,8])
 (.cond (.t 8)
 (.seq
 (.ah [ae 9 0,
 bz 10 9 (.aA 139 [])] [])
 (.seq
 (.ah [bs 4 [.c (.pv (.str []))] .mv] [4])
 .ret))
 .skip))
 (.seq
 (.ah [ae 11 0,
 aK 12 11 .aQ,
 aV 13 12 1,
 bz 14 13 (.aR 1 false),
 bo 15 14 1 (.bin .add),
 aK 16 11 .aQ,
 aV 17 16 1,
 qp [.t 17,.t 15] (.cz 1)] [0])
 (.seq
 (.ah [ae 18 0,
 aK 19 18 .aQ,
 aV 20 19 0,
 bz 21 20 (.aR 1 false),
 ae 22 0,
 aK 23 22 .aQ,
 aV 24 23 1,
 bz 25 24 (.aR 1 false),
 bo 26 25 1 (.bin .sub),
 a_ 27 21 26 (.aH 3),
 aV 28 27 1,
 aK 29 28 (.aS 1 false),
 ae 4 29] [4])
 .ret)))),none,false⟩
def g129:aC:=⟨2,37,[.t 4],
 (.seq
 (.ah [bb 4 F_] [0,1])
 (.seq
 (.ah [ae 5 0,
 aK 6 5 .aQ,
 aV 7 6 2,
 bz 8 7 (.aR 1 false),
 aK 9 8 (.un .not),
 ae 10 9,
 bj 11 10 true 0 (.v (.mv)),
 bj 12 10 true 11 (.v (.aQ)),
 bj 13 10 true 12 (.v (.b_ 1)),
 bj 14 10 true 13 (.aR 1 false),
 bj 15 10 true 0 (.v (.mv)),
 bj 16 10 true 15 (.v (.aQ)),
 bj 17 10 true 16 (.v (.b_ 0)),
 bj 18 10 true 17 (.aR 1 false),
 bj 19 10 true 18 (.v (.len)),
 dU 20 10 true [.t 14,.t 19] (.v (.bin .lss)),
 bs 21 [.t 10,.t 20,F_] .pick,
 ae 22 21,
 bj 23 22 true 0 (.v (.mv)),
 bj 24 22 true 23 (.v (.aQ)),
 bj 25 22 true 24 (.v (.b_ 0)),
 bj 26 22 true 25 (.aR 1 false),
 bj 27 22 true 0 (.v (.mv)),
 bj 28 22 true 27 (.v (.aQ)),
 bj 29 22 true 28 (.v (.b_ 1)),
 bj 30 22 true 29 (.aR 1 false),
 dU 31 22 true [.t 26,.t 30] (.v (.aH 3)),
 bj 32 22 true 31 (.v (.b_ 0)),
 bj 33 22 true 32 (.v (.aS 1 false)),
 bj 34 22 true 1 (.v (.mv)),
 dU 35 22 true [.t 33,.t 34] (.v (.bin .eql)),
 bs 36 [.t 22,.t 35,F_] .pick,
 ae 4 36] [4])
 .ret)),none,false⟩
def g130:aC:=⟨1,13,[.t 2],
 (.seq
 (.ah [bb 2 F_] [0])
 (.seq
 (.ah [ae 3 0,
 cg 4 [.t 3,k_ 1] (.aA 129 []),
 ae 5 4,
 bj 6 5 false 0 (.v (.mv)),
 dU 7 5 false [.t 6,k_ 2] (.aA 129 []),
 bs 8 [.t 5,T_,.t 7] .pick,
 ae 9 8,
 bj 10 9 false 0 (.v (.mv)),
 dU 11 9 false [.t 10,.c (.pv (.str [40]))] (.aA 120 []),
 bs 12 [.t 9,T_,.t 11] .pick,
 ae 2 12] [2])
 .ret)),none,false⟩
def g131:aC:=⟨1,28,[.c 2 5 true],
 (.seq
 (.ah [dG 2 wU] [0,2])
 (.seq
 (.block 0
 (.seq
 (.ah [ae 5 0,
 cg 6 [.t 5,k_ 1] (.aA 129 []),
 ae 4 6] [0,2,4])
 (.cond (.t 4)
 (.seq
 (.ah [ae 7 0,
 cg 8 [.t 7,k_ 1] (.aA 128 []),
 bz 9 8 (.aB 106),
 bl 2 9 2 0 5] [2])
 .ret)
 (.seq
 (.ah [ae 11 0,
 cg 12 [.t 11,k_ 2] (.aA 129 []),
 ae 10 12] [0,2,10])
 (.cond (.t 10)
 (.seq
 (.ah [ae 13 0,
 cg 14 [.t 13,k_ 2] (.aA 128 []),
 cg 15 [.t 14,.c (.bR [])] (.aA 62 []),
 bl 2 15 2 0 5] [2])
 .ret)
 .skip)))))
 (.seq
 (.ah [ae 16 0,
 cg 17 [.t 16,.c (.pv (.str [40]))] (.aA 127 [])] [0,2])
 (.seq
 (.seq
 (.ah [ae 18 0,
 aK 19 18 .aQ,
 aV 20 19 2,
 bz 21 20 (.aR 1 false)] [0,2,21])
 (.cond (.t 21)
 (.seq
 (.ah [bs 22 [] (.build wU []),
 bl 2 22 2 0 5] [2])
 .ret)
 .skip))
 (.seq
 (.ah [ae 23 0,
 bz 24 23 (.aA 133 []),
 dG 3 wU,
 bl 3 24 3 0 5] [0,2,3])
 (.seq
 (.ah [ae 25 0,
 cg 26 [.t 25,.c (.pv (.str [41]))] (.aA 127 [])] [2,3])
 (.seq
 (.ah [a8 27 3 3 0 5 true,
 bl 2 27 2 0 5] [2])
 .ret))))))),none,false⟩
def g132:aC:=⟨2,15,[.t 4],
 (.seq
 (.ah [bb 4 F_] [0,1])
 (.seq
 (.seq
 (.ah [ae 5 0,
 ae 6 1,
 dS 7 5 6 (.aA 120 [])] [0,7])
 (.cond (.t 7)
 (.seq
 (.ah [ae 8 0,
 aK 9 8 .aQ,
 aV 10 9 1,
 bz 11 10 (.aR 1 false),
 bo 12 11 1 (.bin .add),
 aK 13 8 .aQ,
 aV 14 13 1,
 qp [.t 14,.t 12] (.cz 1)] [])
 (.seq
 (.ah [bb 4 T_] [4])
 .ret))
 .skip))
 (.seq
 (.ah [bb 4 F_] [4])
 .ret))),none,false⟩
def g133B0:aw:=
 (.seq
 (.seq
 (.ah [ae 9 0,
 bz 10 9 (.aA 130 [])] [0,2,3,10])
 (.cond (.t 10)
 .skip
 (.exit 0)))
 (.block 1
 (.ah [aV 11 3 4,
 a8 12 11 3 4 1 false,
 ae 13 0,
 bz 14 13 (.aA 131 []),
 aK 15 14 (.a6 5),
 dS 16 12 15 (.append 5 64),
 aV 17 3 4,
 bl 17 16 3 4 1] [0,2,3])))
def g133L0:aw:=.loop [0,2,3] g133B0
theorem g133L0e: cl AP g133L0 st=after (cl AP g133L0) (cl AP g133B0 (norm (restrict [0,2,3] st))):=aG
def g133:aC:=⟨1,27,[.c 2 5 true],
 (.seq
 (.ah [dG 2 wU] [0,2])
 (.seq
 (.ah [dG 3 wU] [0,2,3])
 (.seq
 (.seq
 (.ah [ae 4 0,
 cg 5 [.t 4,k_ 2] (.aA 129 [])] [0,2,3,5])
 (.cond (.t 5)
 (.seq
 (.ah [ae 6 0,
 cg 7 [.t 6,k_ 2] (.aA 128 []),
 cg 8 [.t 7,.c (.bR [])] (.aA 62 []),
 bl 3 8 3 0 5] [0,2,3])
 (.block 0
 g133L0))
 (.ah [ae 18 0,
 bz 19 18 (.aA 131 []),
 bl 3 19 3 0 5] [0,2,3])))
 (.seq
 (.seq
 (.ah [ae 20 0,
 cg 21 [.t 20,.c (.pv (.str [45,62]))] (.aA 132 [])] [0,2,3,21])
 (.cond (.t 21)
 (.seq
 (.ah [a8 22 3 3 0 5 true,
 ae 23 0,
 bz 24 23 (.aA 133 []),
 dS 25 22 24 (.aB 69),
 bl 2 25 2 0 5] [2])
 .ret)
 .skip))
 (.seq
 (.ah [a8 26 3 3 0 5 true,
 bl 2 26 2 0 5] [2])
 .ret))))),none,false⟩
def g134B0:aw:=
 (.seq
 (.seq
 (.ah [ae 69 0,
 aK 70 69 .aQ,
 aV 71 70 2,
 bz 72 71 (.aR 1 false),
 aK 73 72 (.un .not),
 ae 74 73,
 bj 75 74 true 0 (.v (.mv)),
 bj 76 74 true 75 (.v (.aQ)),
 bj 77 74 true 76 (.v (.b_ 1)),
 bj 78 74 true 77 (.aR 1 false),
 bj 79 74 true 0 (.v (.mv)),
 bj 80 74 true 79 (.v (.aQ)),
 bj 81 74 true 80 (.v (.b_ 0)),
 bj 82 74 true 81 (.aR 1 false),
 bj 83 74 true 82 (.v (.len)),
 dU 84 74 true [.t 78,.t 83] (.v (.bin .lss)),
 bs 85 [.t 74,.t 84,F_] .pick,
 ae 86 85,
 bj 87 86 true 0 (.v (.mv)),
 bj 88 86 true 87 (.v (.aQ)),
 bj 89 86 true 88 (.v (.b_ 0)),
 bj 90 86 true 89 (.aR 1 false),
 bj 91 86 true 0 (.v (.mv)),
 bj 92 86 true 91 (.v (.aQ)),
 bj 93 86 true 92 (.v (.b_ 1)),
 bj 94 86 true 93 (.aR 1 false),
 dU 95 86 true [.t 90,.t 94] (.v (.aH 3)),
 bj 96 86 true 95 (.v (.aS 3 true)),
 bj 97 86 true 96 (.aB 142),
 bs 98 [.t 86,.t 97,F_] .pick] [0,2,8,98])
 (.cond (.t 98)
 .skip
 (.exit 1)))
 (.block 2
 (.seq
 (.ah [ae 99 0,
 bz 100 99 (.aA 141 []),
 dG 9 e8,
 bl 9 100 9 0 11] [0,2,8,9])
 (.ah [aV 101 8 1,
 a8 102 101 8 1 1 false,
 a8 103 8 8 0 11 true,
 a8 104 9 9 0 11 true,
 a_ 105 103 104 (.a6 11),
 bs 106 [k_ 5,.t 102,.t 105] (.build e8 [(0,1),(1,1),(4,1)]),
 bl 8 106 8 0 11] [0,2,8]))))
def g134L0:aw:=.loop [0,2,8] g134B0
theorem g134L0e: cl AP g134L0 st=after (cl AP g134L0) (cl AP g134B0 (norm (restrict [0,2,8] st))):=aG
def g134:aC:=⟨1,108,[.c 2 11 true],
 (.seq
 (.ah [dG 2 e8] [0,2])
 (.seq
 (.ah [ae 10 0,
 bz 11 10 (.aA 126 []),
 ae 3 11] [0,2,3])
 (.seq
 (.block 0
 (.seq
 (.ah [ae 13 0,
 cg 14 [.t 13,.c (.pv (.str [92]))] (.aA 132 []),
 ae 12 14] [0,2,3,12])
 (.cond (.t 12)
 (.seq
 (.ah [ae 15 0,
 cg 16 [.t 15,k_ 1] (.aA 128 []),
 ae 4 16] [0,2,3,4])
 (.seq
 (.ah [ae 17 0,
 cg 18 [.t 17,.c (.pv (.str [46]))] (.aA 127 [])] [0,2,3,4])
 (.seq
 (.seq
 (.ah [ae 19 0,
 aK 20 19 .aQ,
 aV 21 20 2,
 bz 22 21 (.aR 1 false)] [0,2,3,4,22])
 (.cond (.t 22)
 (.seq
 (.ah [bs 23 [] (.build e8 []),
 bl 2 23 2 0 11] [2])
 .ret)
 .skip))
 (.seq
 (.ah [ae 24 3,
 ae 25 4,
 ae 26 0,
 bz 27 26 (.aA 134 []),
 aK 28 27 (.a6 11),
 bs 29 [k_ 4,.t 24,.t 25,.t 28] (.build e8 [(0,1),(1,1),(2,1),(4,1)]),
 bl 2 29 2 0 11] [2])
 .ret))))
 (.seq
 (.ah [ae 31 0,
 cg 32 [.t 31,.c (.pv (.str [108,101,116]))] (.aA 132 []),
 ae 30 32] [0,2,3,30])
 (.cond (.t 30)
 (.seq
 (.ah [bb 5 (k_ 6)] [0,2,3,5])
 (.seq
 (.seq
 (.ah [ae 33 0,
 cg 34 [.t 33,.c (.pv (.str [114,101,99]))] (.aA 132 [])] [0,2,3,5,34])
 (.cond (.t 34)
 (.ah [bb 5 (k_ 7)] [0,2,3,5])
 .skip))
 (.seq
 (.ah [ae 35 0,
 cg 36 [.t 35,k_ 1] (.aA 128 []),
 ae 6 36] [0,2,3,5,6])
 (.seq
 (.ah [ae 37 0,
 cg 38 [.t 37,.c (.pv (.str [61]))] (.aA 127 [])] [0,2,3,5,6])
 (.seq
 (.seq
 (.ah [ae 39 0,
 aK 40 39 .aQ,
 aV 41 40 2,
 bz 42 41 (.aR 1 false)] [0,2,3,5,6,42])
 (.cond (.t 42)
 (.seq
 (.ah [bs 43 [] (.build e8 []),
 bl 2 43 2 0 11] [2])
 .ret)
 .skip))
 (.seq
 (.ah [ae 44 0,
 bz 45 44 (.aA 134 []),
 dG 7 e8,
 bl 7 45 7 0 11] [0,2,3,5,6,7])
 (.seq
 (.ah [ae 46 0,
 cg 47 [.t 46,.c (.pv (.str [105,110]))] (.aA 127 [])] [0,2,3,5,6,7])
 (.seq
 (.seq
 (.ah [ae 48 0,
 aK 49 48 .aQ,
 aV 50 49 2,
 bz 51 50 (.aR 1 false)] [0,2,3,5,6,7,51])
 (.cond (.t 51)
 (.seq
 (.ah [bs 52 [] (.build e8 []),
 bl 2 52 2 0 11] [2])
 .ret)
 .skip))
 (.seq
 (.ah [ae 53 5,
 ae 54 3,
 ae 55 6,
 a8 56 7 7 0 11 true,
 ae 57 0,
 bz 58 57 (.aA 134 []),
 a_ 59 56 58 (.a6 11),
 bs 60 [.t 53,.t 54,.t 55,.t 59] (.build e8 [(0,1),(1,1),(2,1),(4,1)]),
 bl 2 60 2 0 11] [2])
 .ret)))))))))
 (.seq
 (.ah [ae 62 0,
 cg 63 [.t 62,.c (.pv (.str [99,97,115,101]))] (.aA 132 []),
 ae 61 63] [0,2,3,61])
 (.cond (.t 61)
 (.seq
 (.ah [ae 64 0,
 ae 65 3,
 dS 66 64 65 (.aA 140 []),
 bl 2 66 2 0 11] [2])
 .ret)
 .skip)))))))
 (.seq
 (.ah [ae 67 0,
 bz 68 67 (.aA 141 []),
 dG 8 e8,
 bl 8 68 8 0 11] [0,2,8])
 (.seq
 (.block 1
 g134L0)
 (.seq
 (.ah [a8 107 8 8 0 11 true,
 bl 2 107 2 0 11] [2])
 .ret)))))),none,false⟩
def g135:aC:=⟨1,10,[.t 2],
 (.seq
 (.ah [bz 1 0 (.box 1 11),
 bb 2 F_] [1])
 (.seq
 (.ah [a8 3 1 1 0 11 true,
 bz 4 3 (.aB 143),
 bo 5 4 40 (.bin .gtr),
 ae 6 5,
 bj 7 6 false 1 (.de 1 0 11 true),
 bj 8 6 false 7 (.aB 144),
 bs 9 [.t 6,T_,.t 8] .pick,
 ae 2 9] [2])
 .ret)),none,false⟩
def g136B0:aw:=
 (.seq
 (.seq
 (.ah [ae 9 4,
 aV 10 1 5,
 a8 11 10 1 5 1 false,
 aK 12 11 .len,
 a_ 13 9 12 (.bin .lss)] [1,4,13])
 (.cond (.t 13)
 .skip
 (.exit 0)))
 (.seq
 (.block 1
 (.seq
 (.ah [aV 16 1 5,
 a8 17 16 1 5 1 false,
 ae 18 4,
 a_ 19 17 18 (.aH 14),
 aV 20 19 2,
 aK 21 20 (.aS 1 false),
 aK 22 21 .len,
 bo 23 22 4 (.bin .gtr)] [1,4,23])
 (.cond (.t 23)
 (.seq
 (.ah [aV 24 1 5,
 a8 25 24 1 5 1 false,
 ae 26 4,
 a_ 27 25 26 (.aH 14),
 aV 28 27 0,
 aK 29 28 (.aS 1 false),
 ae 2 29,
 bb 3 T_] [2,3])
 .ret)
 .skip)))
 (.ah [ae 14 4,
 bo 15 14 1 (.bin .add),
 ae 4 15] [1,4])))
def g136L0:aw:=.loop [1,4] g136B0
theorem g136L0e: cl AP g136L0 st=after (cl AP g136L0) (cl AP g136B0 (norm (restrict [1,4] st))):=aG
def g136B1:aw:=
 (.seq
 (.seq
 (.ah [ae 32 6,
 ae 33 5,
 aK 34 33 .len,
 a_ 35 32 34 (.bin .lss)] [5,6,35])
 (.cond (.t 35)
 .skip
 (.exit 2)))
 (.seq
 (.block 3
 (.seq
 (.ah [ae 39 5,
 ae 40 6,
 a_ 41 39 40 (.aH 11),
 aK 42 41 (.aS 11 true),
 bz 43 42 (.aB 136),
 ae 38 43,
 aK 44 38 (.ext 0),
 aK 45 38 (.ext 1),
 ae 7 44,
 ae 8 45] [5,6,7,8])
 (.seq
 (.ah [ae 46 8] [5,6,7,46])
 (.cond (.t 46)
 (.seq
 (.ah [ae 47 7,
 ae 2 47,
 bb 3 T_] [2,3])
 .ret)
 .skip))))
 (.ah [ae 36 6,
 bo 37 36 1 (.bin .add),
 ae 6 37] [5,6])))
def g136L1:aw:=.loop [5,6] g136B1
theorem g136L1e: cl AP g136L1 st=after (cl AP g136L1) (cl AP g136B1 (norm (restrict [5,6] st))):=aG
def g136:aC:=⟨1,48,[.t 2,.t 3],
 (.seq
 (.ah [bz 1 0 (.box 1 11),
 bb 2 (k_ 0),
 bb 3 F_] [1])
 (.seq
 (.seq
 (.ah [bb 4 (k_ 0)] [1,4])
 (.block 0
 g136L0))
 (.seq
 (.ah [a8 30 1 1 0 11 true,
 bz 31 30 (.aB 145),
 ae 5 31] [5])
 (.seq
 (.seq
 (.ah [bb 6 (k_ 0)] [5,6])
 (.block 2
 g136L1))
 (.seq
 (.ah [bb 2 (k_ 0),
 bb 3 F_] [2,3])
 .ret))))),none,false⟩
def g137B0:aw:=
 (.seq
 (.seq
 (.ah [ae 21 3,
 ae 22 0,
 aK 23 22 .il,
 a_ 24 21 23 (.bin .lss)] [0,3,24])
 (.cond (.t 24)
 .skip
 (.exit 0)))
 (.seq
 (.block 1
 (.seq
 (.ah [ae 27 0,
 ae 28 3,
 a_ 29 27 28 .index,
 bz 30 29 (.aB 124),
 aK 31 30 (.un .not)] [0,3,31])
 (.cond (.t 31)
 (.seq
 (.ah [bb 2 F_] [2])
 .ret)
 .skip)))
 (.ah [ae 25 3,
 bo 26 25 1 (.bin .add),
 ae 3 26] [0,3])))
def g137L0:aw:=.loop [0,3] g137B0
theorem g137L0e: cl AP g137L0 st=after (cl AP g137L0) (cl AP g137B0 (norm (restrict [0,3] st))):=aG
def g137:aC:=⟨1,32,[.t 2],
 (.seq
 (.ah [bb 2 F_] [0])
 (.seq
 (.seq
 (.ah [ae 4 0,
 bs 5 [.t 4,.c (.pv (.str []))] (.bin .eql),
 ae 6 5,
 bj 7 6 false 0 (.v (.mv)),
 bj 8 6 false 7 (.v (.il)),
 dU 9 6 false [.t 8,k_ 9] (.v (.bin .gtr)),
 bs 10 [.t 6,T_,.t 9] .pick,
 ae 11 10,
 bj 12 11 false 0 (.v (.mv)),
 dU 13 11 false [.t 12,k_ 0] (.v (.index)),
 dU 14 11 false [.t 13,.c (.pv (.int .u8 48))] (.v (.bin .eql)),
 bj 15 11 false 14 (.v (.mv)),
 bj 16 15 true 0 (.v (.mv)),
 bj 17 15 true 16 (.v (.il)),
 dU 18 15 true [.t 17,k_ 1] (.v (.bin .gtr)),
 dU 19 11 false [.t 15,.t 18,F_] (.v (.pick)),
 bs 20 [.t 11,T_,.t 19] .pick] [0,20])
 (.cond (.t 20)
 (.seq
 (.ah [bb 2 F_] [2])
 .ret)
 .skip))
 (.seq
 (.seq
 (.ah [bb 3 (k_ 0)] [0,3])
 (.block 0
 g137L0))
 (.seq
 (.ah [bb 2 T_] [2])
 .ret)))),none,false⟩
def g138B0:aw:=
 (.seq
 (.seq
 (.ah [ae 6 3,
 bo 7 6 11 (.bin .lss)] [0,3,7])
 (.cond (.t 7)
 .skip
 (.exit 0)))
 (.seq
 (.block 1
 (.seq
 (.ah [ae 10 0,
 ae 11 3,
 ae 12 3,
 bo 13 12 1 (.bin .add),
 bs 14 [.c (.pv (.str [92,46,61,59,58,124,40,41,123,125,63])),.t 11,.t 13] (.slice true 0 true true false),
 a_ 15 10 14 (.bin .eql)] [0,3,15])
 (.cond (.t 15)
 (.seq
 (.ah [bb 2 T_] [2])
 .ret)
 .skip)))
 (.ah [ae 8 3,
 bo 9 8 1 (.bin .add),
 ae 3 9] [0,3])))
def g138L0:aw:=.loop [0,3] g138B0
theorem g138L0e: cl AP g138L0 st=after (cl AP g138L0) (cl AP g138B0 (norm (restrict [0,3] st))):=aG
def g138:aC:=⟨1,16,[.t 2],
 (.seq
 (.ah [bb 2 F_] [0])
 (.seq
 (.seq
 (.ah [ae 4 0,
 bs 5 [.t 4,.c (.pv (.str [45,62]))] (.bin .eql)] [0,5])
 (.cond (.t 5)
 (.seq
 (.ah [bb 2 T_] [2])
 .ret)
 .skip))
 (.seq
 (.seq
 (.ah [bb 3 (k_ 0)] [0,3])
 (.block 0
 g138L0))
 (.seq
 (.ah [bb 2 F_] [2])
 .ret)))),none,false⟩
def g139:aC:=⟨1,63,[],
 (.seq
 (.seq
 (.ah [ae 3 0,
 aK 4 3 .aQ,
 aV 5 4 2,
 bz 6 5 (.aR 1 false)] [0,6])
 (.cond (.t 6)
 .ret
 .skip))
 (.seq
 (.ah [ae 7 0,
 aK 8 7 .aQ,
 aV 9 8 2,
 qp [.t 9,T_] (.cz 1)] [0])
 (.block 0
 (.seq
 (.ah [ae 11 0,
 aK 12 11 .aQ,
 aV 13 12 1,
 bz 14 13 (.aR 1 false),
 ae 15 0,
 aK 16 15 .aQ,
 aV 17 16 0,
 bz 18 17 (.aR 1 false),
 aK 19 18 .len,
 a_ 20 14 19 (.bin .lss),
 ae 10 20] [0,10])
 (.cond (.t 10)
 (.ah [ae 21 0,
 ae 22 0,
 aK 23 22 .aQ,
 aV 24 23 0,
 bz 25 24 (.aR 1 false),
 ae 26 0,
 aK 27 26 .aQ,
 aV 28 27 1,
 bz 29 28 (.aR 1 false),
 a_ 30 25 29 (.aH 3),
 aV 31 30 2,
 aK 32 31 (.aS 1 false),
 aK 33 21 .aQ,
 aV 34 33 3,
 qp [.t 34,.t 32] (.cz 1)] [])
 (.seq
 (.ah [ae 36 0,
 aK 37 36 .aQ,
 aV 38 37 0,
 bz 39 38 (.aR 1 false),
 aK 40 39 .len,
 bo 41 40 0 (.bin .gtr),
 ae 35 41] [0,35])
 (.cond (.t 35)
 (.seq
 (.ah [ae 42 0,
 aK 43 42 .aQ,
 aV 44 43 0,
 bz 45 44 (.aR 1 false),
 ae 46 0,
 aK 47 46 .aQ,
 aV 48 47 0,
 bz 49 48 (.aR 1 false),
 aK 50 49 .len,
 bo 51 50 1 (.bin .sub),
 a_ 52 45 51 (.aH 3),
 aK 53 52 (.aS 3 true),
 dG 2 [a9,fh,a9],
 bl 2 53 2 0 3] [0,2])
 (.ah [ae 54 0,
 aV 55 2 2,
 a8 56 55 2 2 1 false,
 aV 57 2 1,
 a8 58 57 2 1 1 false,
 aK 59 58 .il,
 a_ 60 56 59 (.bin .add),
 aK 61 54 .aQ,
 aV 62 61 3,
 qp [.t 62,.t 60] (.cz 1)] []))
 .skip))))))),none,false⟩
def g140B1:aw:=
 (.seq
 (.seq
 (.ah [ae 19 0,
 cg 20 [.t 19,k_ 1] (.aA 129 [])] [0,4,5,6,20])
 (.cond (.t 20)
 .skip
 (.exit 2)))
 (.block 3
 (.ah [aV 21 6 2,
 a8 22 21 6 2 1 false,
 ae 23 0,
 cg 24 [.t 23,k_ 1] (.aA 128 []),
 aK 25 24 (.a6 1),
 dS 26 22 25 (.append 1 16),
 aV 27 6 2,
 bl 27 26 6 2 1] [0,4,5,6])))
def g140L1:aw:=.loop [0,4,5,6] g140B1
theorem g140L1e: cl AP g140L1 st=after (cl AP g140L1) (cl AP g140B1 (norm (restrict [0,4,5,6] st))):=aG
def g140B0:aw:=
 (.block 1
 (.seq
 (.ah [ae 14 0,
 bz 15 14 (.aA 126 []),
 ae 16 0,
 cg 17 [.t 16,k_ 2] (.aA 128 []),
 a_ 18 15 17 (.build [a9,fh,dN,a9,a9,fh,a9,dN,dN,a9,fh,a9,a9,dN] [(0,1),(1,1)]),
 dG 6 [a9,fh,dN,a9,a9,fh,a9,dN,dN,a9,fh,a9,a9,dN],
 bl 6 18 6 0 14] [0,4,5,6])
 (.seq
 (.block 2
 g140L1)
 (.seq
 (.ah [ae 28 0,
 cg 29 [.t 28,.c (.pv (.str [46]))] (.aA 127 [])] [0,4,5,6])
 (.seq
 (.seq
 (.ah [ae 30 0,
 aK 31 30 .aQ,
 aV 32 31 2,
 bz 33 32 (.aR 1 false)] [0,4,5,6,33])
 (.cond (.t 33)
 (.seq
 (.ah [bs 34 [] (.build e8 []),
 bl 4 34 4 0 11] [4])
 .ret)
 .skip))
 (.seq
 (.ah [ae 35 0,
 bz 36 35 (.aA 134 []),
 aV 37 6 3,
 bl 37 36 6 3 11] [0,4,5,6])
 (.seq
 (.ah [aV 38 5 5,
 a8 39 38 5 5 1 false,
 a8 40 6 6 0 14 true,
 aK 41 40 (.a6 14),
 dS 42 39 41 (.append 14 200),
 aV 43 5 5,
 bl 43 42 5 5 1] [0,4,5])
 (.seq
 (.ah [ae 44 0,
 cg 45 [.t 44,.c (.pv (.str [124]))] (.aA 132 []),
 aK 46 45 (.un .not)] [0,4,5,46])
 (.cond (.t 46)
 (.exit 0)
 .skip)))))))))
def g140L0:aw:=.loop [0,4,5] g140B0
theorem g140L0e: cl AP g140L0 st=after (cl AP g140L0) (cl AP g140B0 (norm (restrict [0,4,5] st))):=aG
def g140:aC:=⟨2,50,[.c 4 11 true],
 (.seq
 (.ah [dG 4 e8] [0,1,4])
 (.seq
 (.ah [ae 7 1,
 ae 8 0,
 bz 9 8 (.aA 134 []),
 aK 10 9 (.a6 11),
 bs 11 [k_ 8,.t 7,.t 10] (.build e8 [(0,1),(1,1),(4,1)]),
 dG 5 e8,
 bl 5 11 5 0 11] [0,4,5])
 (.seq
 (.ah [ae 12 0,
 cg 13 [.t 12,.c (.pv (.str [111,102]))] (.aA 127 [])] [0,4,5])
 (.seq
 (.block 0
 g140L0)
 (.seq
 (.ah [ae 47 0,
 cg 48 [.t 47,.c (.pv (.str [101,110,100]))] (.aA 127 [])] [4,5])
 (.seq
 (.ah [a8 49 5 5 0 11 true,
 bl 4 49 4 0 11] [4])
 .ret)))))),none,false⟩
def g141:aC:=⟨1,68,[.c 2 11 true],
 (.seq
 (.ah [dG 2 e8] [0,2])
 (.seq
 (.ah [ae 7 0,
 bz 8 7 (.aA 126 []),
 ae 3 8] [0,2,3])
 (.seq
 (.block 0
 (.seq
 (.ah [ae 10 0,
 cg 11 [.t 10,k_ 1] (.aA 129 []),
 ae 9 11] [0,2,3,9])
 (.cond (.t 9)
 (.seq
 (.ah [ae 12 3,
 ae 13 0,
 cg 14 [.t 13,k_ 1] (.aA 128 []),
 bs 15 [k_ 1,.t 12,.t 14] (.build e8 [(0,1),(1,1),(2,1)]),
 bl 2 15 2 0 11] [2])
 .ret)
 (.seq
 (.ah [ae 17 0,
 cg 18 [.t 17,k_ 2] (.aA 129 []),
 ae 16 18] [0,2,3,16])
 (.cond (.t 16)
 (.seq
 (.ah [ae 19 3,
 ae 20 0,
 cg 21 [.t 20,k_ 2] (.aA 128 []),
 bs 22 [k_ 2,.t 19,.t 21] (.build e8 [(0,1),(1,1),(2,1)]),
 bl 2 22 2 0 11] [2])
 .ret)
 (.seq
 (.ah [ae 24 0,
 cg 25 [.t 24,k_ 3] (.aA 129 []),
 ae 23 25] [0,2,3,23])
 (.cond (.t 23)
 (.seq
 (.ah [ae 26 3,
 ae 27 0,
 cg 28 [.t 27,k_ 3] (.aA 128 []),
 bz 29 28 (.aB 146),
 bs 30 [k_ 3,.t 26,.t 29] (.build e8 [(0,1),(1,1),(3,1)]),
 bl 2 30 2 0 11] [2])
 .ret)
 (.seq
 (.ah [ae 32 0,
 cg 33 [.t 32,.c (.pv (.str [63]))] (.aA 132 []),
 ae 31 33] [0,2,3,31])
 (.cond (.t 31)
 (.seq
 (.ah [ae 34 3,
 bs 35 [k_ 10,.t 34] (.build e8 [(0,1),(1,1)]),
 bl 2 35 2 0 11] [2])
 .ret)
 (.seq
 (.ah [ae 37 0,
 cg 38 [.t 37,.c (.pv (.str [123]))] (.aA 132 []),
 ae 36 38] [0,2,3,36])
 (.cond (.t 36)
 (.seq
 (.ah [ae 39 0,
 bz 40 39 (.aA 134 []),
 dG 4 e8,
 bl 4 40 4 0 11] [0,2,3,4])
 (.seq
 (.ah [ae 41 0,
 cg 42 [.t 41,.c (.pv (.str [125]))] (.aA 127 [])] [2,3,4])
 (.seq
 (.ah [ae 43 3,
 a8 44 4 4 0 11 true,
 aK 45 44 (.a6 11),
 bs 46 [k_ 11,.t 43,.t 45] (.build e8 [(0,1),(1,1),(4,1)]),
 bl 2 46 2 0 11] [2])
 .ret)))
 .skip)))))))))))
 (.seq
 (.ah [ae 47 0,
 cg 48 [.t 47,.c (.pv (.str [40]))] (.aA 127 [])] [0,2,3])
 (.seq
 (.seq
 (.ah [ae 49 0,
 aK 50 49 .aQ,
 aV 51 50 2,
 bz 52 51 (.aR 1 false)] [0,2,3,52])
 (.cond (.t 52)
 (.seq
 (.ah [bs 53 [] (.build e8 []),
 bl 2 53 2 0 11] [2])
 .ret)
 .skip))
 (.seq
 (.ah [ae 54 0,
 bz 55 54 (.aA 134 []),
 dG 5 e8,
 bl 5 55 5 0 11] [0,2,3,5])
 (.seq
 (.seq
 (.ah [ae 56 0,
 cg 57 [.t 56,.c (.pv (.str [58]))] (.aA 132 [])] [0,2,3,5,57])
 (.cond (.t 57)
 (.seq
 (.ah [ae 58 0,
 bz 59 58 (.aA 133 []),
 dG 6 wU,
 bl 6 59 6 0 5] [0,2,3,5,6])
 (.ah [ae 60 3,
 a8 61 5 5 0 11 true,
 aK 62 61 (.a6 11),
 a8 63 6 6 0 5 true,
 bs 64 [k_ 9,.t 60,.t 62,.t 63] (.build e8 [(0,1),(1,1),(4,1),(6,5)]),
 bl 5 64 5 0 11] [0,2,5]))
 .skip))
 (.seq
 (.ah [ae 65 0,
 cg 66 [.t 65,.c (.pv (.str [41]))] (.aA 127 [])] [2,5])
 (.seq
 (.ah [a8 67 5 5 0 11 true,
 bl 2 67 2 0 11] [2])
 .ret))))))))),none,false⟩
def g142:aC:=⟨1,24,[.t 2],
 (.seq
 (.ah [bz 1 0 (.box 1 3),
 bb 2 F_] [1])
 (.seq
 (.seq
 (.ah [aV 3 1 0,
 a8 4 3 1 0 1 false] [1,4])
 (.block 0
 (.seq
 (.seq
 (.ah [bo 6 4 1 (.bin .eql),
 ae 5 6] [1,4,5])
 (.cond (.t 5)
 .skip
 (.seq
 (.ah [bo 7 4 2 (.bin .eql),
 ae 5 7] [1,4,5])
 (.cond (.t 5)
 .skip
 (.ah [bo 8 4 3 (.bin .eql),
 ae 5 8] [1,4,5])))))
 (.cond (.t 5)
 (.seq
 (.ah [bb 2 T_] [2])
 .ret)
 (.seq
 (.ah [bo 10 4 5 (.bin .eql),
 ae 9 10] [1,9])
 (.cond (.t 9)
 (.seq
 (.ah [aV 11 1 1,
 a8 12 11 1 1 1 false,
 bs 13 [.t 12,.c (.pv (.str [63]))] (.bin .eql),
 ae 14 13,
 bj 15 14 false 1 (.v (.b_ 1)),
 bj 16 14 false 15 (.de 1 1 1 false),
 dU 17 14 false [.t 16,.c (.pv (.str [40]))] (.v (.bin .eql)),
 bs 18 [.t 14,T_,.t 17] .pick,
 ae 19 18,
 bj 20 19 false 1 (.v (.b_ 1)),
 bj 21 19 false 20 (.de 1 1 1 false),
 dU 22 19 false [.t 21,.c (.pv (.str [123]))] (.v (.bin .eql)),
 bs 23 [.t 19,T_,.t 22] .pick,
 ae 2 23] [2])
 .ret)
 .skip))))))
 (.seq
 (.ah [bb 2 F_] [2])
 .ret))),none,false⟩
def g143B0:aw:=
 (.seq
 (.seq
 (.ah [ae 8 5,
 ae 9 4,
 aK 10 9 .len,
 a_ 11 8 10 (.bin .lss)] [3,4,5,11])
 (.cond (.t 11)
 .skip
 (.exit 0)))
 (.seq
 (.block 1
 (.ah [ae 14 3,
 ae 15 4,
 ae 16 5,
 a_ 17 15 16 (.aH 11),
 aK 18 17 (.aS 11 true),
 bz 19 18 (.aB 143),
 bs 20 [k_ 1,.t 19] (.bin .add),
 a_ 21 14 20 .mx,
 ae 3 21] [3,4,5]))
 (.ah [ae 12 5,
 bo 13 12 1 (.bin .add),
 ae 5 13] [3,4,5])))
def g143L0:aw:=.loop [3,4,5] g143B0
theorem g143L0e: cl AP g143L0 st=after (cl AP g143L0) (cl AP g143B0 (norm (restrict [3,4,5] st))):=aG
def g143:aC:=⟨1,23,[.t 2],
 (.seq
 (.ah [bz 1 0 (.box 1 11),
 bb 2 (k_ 0)] [1])
 (.seq
 (.ah [bb 3 (k_ 0)] [1,3])
 (.seq
 (.ah [a8 6 1 1 0 11 true,
 bz 7 6 (.aB 145),
 ae 4 7] [3,4])
 (.seq
 (.seq
 (.ah [bb 5 (k_ 0)] [3,4,5])
 (.block 0
 g143L0))
 (.seq
 (.ah [ae 22 3,
 ae 2 22] [2])
 .ret))))),none,false⟩
def g144B0:aw:=
 (.seq
 (.seq
 (.ah [ae 16 4,
 ae 17 3,
 aK 18 17 .len,
 a_ 19 16 18 (.bin .lss)] [3,4,19])
 (.cond (.t 19)
 .skip
 (.exit 0)))
 (.seq
 (.block 1
 (.seq
 (.ah [ae 22 3,
 ae 23 4,
 a_ 24 22 23 (.aH 11),
 aK 25 24 (.aS 11 true),
 bz 26 25 (.aB 144)] [3,4,26])
 (.cond (.t 26)
 (.seq
 (.ah [bb 2 T_] [2])
 .ret)
 .skip)))
 (.ah [ae 20 4,
 bo 21 20 1 (.bin .add),
 ae 4 21] [3,4])))
def g144L0:aw:=.loop [3,4] g144B0
theorem g144L0e: cl AP g144L0 st=after (cl AP g144L0) (cl AP g144B0 (norm (restrict [3,4] st))):=aG
def g144:aC:=⟨1,27,[.t 2],
 (.seq
 (.ah [bz 1 0 (.box 1 11),
 bb 2 F_] [1])
 (.seq
 (.seq
 (.ah [aV 5 1 0,
 a8 6 5 1 0 1 false,
 bo 7 6 9 (.bin .eql),
 ae 8 7,
 bj 9 8 true 1 (.v (.b_ 6)),
 bj 10 8 true 9 (.de 1 6 5 true),
 bj 11 8 true 10 (.aB 52),
 dU 12 8 true [.t 11,k_ 40] (.v (.bin .gtr)),
 bs 13 [.t 8,.t 12,F_] .pick] [1,13])
 (.cond (.t 13)
 (.seq
 (.ah [bb 2 T_] [2])
 .ret)
 .skip))
 (.seq
 (.ah [a8 14 1 1 0 11 true,
 bz 15 14 (.aB 145),
 ae 3 15] [3])
 (.seq
 (.seq
 (.ah [bb 4 (k_ 0)] [3,4])
 (.block 0
 g144L0))
 (.seq
 (.ah [bb 2 F_] [2])
 .ret))))),none,false⟩
def g145B0:aw:=
 (.seq
 (.seq
 (.ah [ae 8 4,
 aV 9 1 5,
 a8 10 9 1 5 1 false,
 aK 11 10 .len,
 a_ 12 8 11 (.bin .lss)] [1,3,4,12])
 (.cond (.t 12)
 .skip
 (.exit 0)))
 (.seq
 (.block 1
 (.ah [ae 15 3,
 aV 16 1 5,
 a8 17 16 1 5 1 false,
 ae 18 4,
 a_ 19 17 18 (.aH 14),
 aV 20 19 3,
 bz 21 20 (.aR 11 true),
 aK 22 21 (.a6 11),
 dS 23 15 22 (.cI 11 152 true),
 ae 3 23] [1,3,4]))
 (.ah [ae 13 4,
 bo 14 13 1 (.bin .add),
 ae 4 14] [1,3,4])))
def g145L0:aw:=.loop [1,3,4] g145B0
theorem g145L0e: cl AP g145L0 st=after (cl AP g145L0) (cl AP g145B0 (norm (restrict [1,3,4] st))):=aG
def g145:aC:=⟨1,25,[.t 2],
 (.seq
 (.ah [bz 1 0 (.box 1 11),
 bs 2 [.c (.bR [])] .mv] [1])
 (.seq
 (.ah [aV 5 1 4,
 a8 6 5 1 4 1 false,
 cg 7 [.c (.bR []),.t 6] (.cI 11 152 true),
 ae 3 7] [1,3])
 (.seq
 (.seq
 (.ah [bb 4 (k_ 0)] [1,3,4])
 (.block 0
 g145L0))
 (.seq
 (.ah [ae 24 3,
 ae 2 24] [2])
 .ret)))),none,true⟩
def g146B0:aw:=
 (.seq
 (.seq
 (.ah [ae 5 4,
 ae 6 0,
 aK 7 6 .il,
 a_ 8 5 7 (.bin .lss)] [0,3,4,8])
 (.cond (.t 8)
 .skip
 (.exit 0)))
 (.seq
 (.block 1
 (.ah [ae 11 3,
 bs 12 [k_ 10,.t 11] (.bin .mul),
 ae 13 0,
 ae 14 4,
 a_ 15 13 14 .index,
 bs 16 [.t 15,.c (.pv (.int .u8 48))] (.bin .sub),
 aK 17 16 (.conv .i64),
 a_ 18 12 17 (.bin .add),
 ae 3 18] [0,3,4]))
 (.ah [ae 9 4,
 bo 10 9 1 (.bin .add),
 ae 4 10] [0,3,4])))
def g146L0:aw:=.loop [0,3,4] g146B0
theorem g146L0e: cl AP g146L0 st=after (cl AP g146L0) (cl AP g146B0 (norm (restrict [0,3,4] st))):=aG
def g146:aC:=⟨1,20,[.t 2],
 (.seq
 (.ah [bb 2 (k_ 0)] [0])
 (.seq
 (.ah [bb 3 (k_ 0)] [0,3])
 (.seq
 (.seq
 (.ah [bb 4 (k_ 0)] [0,3,4])
 (.block 0
 g146L0))
 (.seq
 (.ah [ae 19 3,
 ae 2 19] [2])
 .ret)))),none,false⟩
def g175:aC:=⟨1,8,[.t 2],
 (.seq
 (.ah [bs 2 [.c (.pv (.str []))] .mv] [0])
 (.seq
 (.ah [bs 3 [.c (.pv (.str [120])),.c (.pv (.str [121])),.c (.pv (.str [122])),.c (.pv (.str [102])),.c (.pv (.str [103])),.c (.pv (.str [118,49])),.c (.pv (.str [118,50])),.c (.pv (.str [105,100]))] (.a6 1),
 ae 4 0,
 cg 5 [.t 4,k_ 8] (.aA 68 []),
 a_ 6 3 5 (.aH 1),
 aK 7 6 (.aS 1 false),
 ae 2 7] [2])
 .ret)),none,false⟩
def g185B0:aw:=
 (.seq
 (.ah [a_ 41 40 39 (.bin .lss)] [0,2,38,39,40,41])
 (.seq
 (.cond (.t 41)
 .skip
 (.exit 1))
 (.seq
 (.block 2
 (.seq
 (.ah [a_ 42 38 40 (.aH 5),
 aK 43 42 (.aS 5 true),
 dG 10 wU,
 bl 10 43 10 0 5] [0,2,10,38,39,40])
 (.seq
 (.ah [ae 44 0,
 a8 45 10 10 0 5 true,
 ae 46 2,
 cg 47 [.t 44,.t 45,.t 46] (.aB 185),
 ae 11 47] [0,2,11,38,39,40])
 (.seq
 (.ah [ae 48 11,
 bo 49 48 0 (.bin .neq)] [0,2,11,38,39,40,49])
 (.cond (.t 49)
 (.seq
 (.ah [ae 50 11,
 ae 6 50] [6])
 .ret)
 .skip)))))
 (.ah [bo 51 40 1 (.bin .add),
 ae 40 51] [0,2,38,39,40]))))
def g185L0:aw:=.loop [0,2,38,39,40] g185B0
theorem g185L0e: cl AP g185L0 st=after (cl AP g185L0) (cl AP g185B0 (norm (restrict [0,2,38,39,40] st))):=aG
def g185:aC:=⟨3,52,[.t 6],
 (.seq
 (.ah [bz 4 1 (.box 4 5),
 bb 6 (k_ 0)] [0,2,4])
 (.seq
 (.seq
 (.ah [aV 12 4 0,
 a8 13 12 4 0 1 false] [0,2,4,13])
 (.block 0
 (.seq
 (.ah [bo 15 13 5 (.bin .eql),
 ae 14 15] [0,2,4,13,14])
 (.cond (.t 14)
 (.seq
 (.ah [ae 16 2,
 aV 17 4 1,
 a8 18 17 4 1 1 false,
 dS 19 16 18 (.aB 214),
 aK 20 19 (.un .not)] [0,2,4,20])
 (.cond (.t 20)
 (.seq
 (.ah [bb 6 (k_ 7)] [6])
 .ret)
 .skip))
 (.seq
 (.ah [bo 22 13 4 (.bin .eql),
 ae 21 22] [0,2,4,21])
 (.cond (.t 21)
 (.seq
 (.ah [ae 24 0,
 aV 25 4 1,
 a8 26 25 4 1 1 false,
 dS 27 24 26 (.aB 215),
 ae 23 27,
 aK 28 23 (.ext 0),
 aK 29 23 (.ext 1),
 ae 7 28,
 ae 8 29] [0,2,4,7,8])
 (.seq
 (.seq
 (.ah [ae 30 8,
 aK 31 30 (.un .not)] [0,2,4,7,31])
 (.cond (.t 31)
 (.seq
 (.ah [bb 6 (k_ 7)] [6])
 .ret)
 .skip))
 (.seq
 (.ah [ae 32 7,
 aV 33 4 4,
 a8 34 33 4 4 1 false,
 aK 35 34 .len,
 a_ 36 32 35 (.bin .neq)] [0,2,4,36])
 (.cond (.t 36)
 (.seq
 (.ah [bb 6 (k_ 8)] [6])
 .ret)
 .skip))))
 .skip))))))
 (.seq
 (.seq
 (.ah [aV 37 4 4,
 a8 38 37 4 4 1 false,
 aK 39 38 .len,
 bb 40 (k_ 0)] [0,2,38,39,40])
 (.block 1
 g185L0))
 (.seq
 (.ah [bb 6 (k_ 0)] [6])
 .ret)))),none,false⟩
def g186B0:aw:=
 (.seq
 (.seq
 (.ah [ae 36 9,
 aV 37 4 4,
 a8 38 37 4 4 1 false,
 aK 39 38 .len,
 a_ 40 36 39 (.bin .lss)] [0,2,4,9,40])
 (.cond (.t 40)
 .skip
 (.exit 1)))
 (.seq
 (.block 2
 (.seq
 (.ah [ae 43 0,
 aV 44 4 4,
 a8 45 44 4 4 1 false,
 ae 46 9,
 a_ 47 45 46 (.aH 5),
 aK 48 47 (.aS 5 true),
 ae 49 2,
 cg 50 [.t 43,.t 48,.t 49] (.aB 186),
 ae 10 50] [0,2,4,9,10])
 (.seq
 (.ah [ae 51 10,
 bo 52 51 0 (.bin .neq)] [0,2,4,9,10,52])
 (.cond (.t 52)
 (.seq
 (.ah [ae 53 10,
 ae 6 53] [6])
 .ret)
 .skip))))
 (.ah [ae 41 9,
 bo 42 41 1 (.bin .add),
 ae 9 42] [0,2,4,9])))
def g186L0:aw:=.loop [0,2,4,9] g186B0
theorem g186L0e: cl AP g186L0 st=after (cl AP g186L0) (cl AP g186B0 (norm (restrict [0,2,4,9] st))):=aG
def g186:aC:=⟨3,54,[.t 6],
 (.seq
 (.ah [bz 4 1 (.box 4 5),
 bb 6 (k_ 0)] [0,2,4])
 (.seq
 (.seq
 (.ah [aV 11 4 0,
 a8 12 11 4 0 1 false] [0,2,4,12])
 (.block 0
 (.seq
 (.ah [bo 14 12 5 (.bin .eql),
 ae 13 14] [0,2,4,12,13])
 (.cond (.t 13)
 (.seq
 (.ah [ae 15 2,
 aV 16 4 1,
 a8 17 16 4 1 1 false,
 dS 18 15 17 (.aB 216),
 bo 19 18 0 (.bin .lss)] [19])
 (.cond (.t 19)
 (.seq
 (.ah [bb 6 (k_ 7)] [6])
 .ret)
 .skip))
 (.seq
 (.ah [bo 21 12 4 (.bin .eql),
 ae 20 21] [0,2,4,20])
 (.cond (.t 20)
 (.seq
 (.ah [ae 23 0,
 aV 24 4 1,
 a8 25 24 4 1 1 false,
 dS 26 23 25 (.aB 217),
 ae 22 26,
 aK 27 22 (.ext 0),
 aK 28 22 (.ext 1),
 ae 7 27,
 ae 8 28] [0,2,4,7,8])
 (.seq
 (.seq
 (.ah [ae 29 8,
 aK 30 29 (.un .not)] [0,2,4,7,30])
 (.cond (.t 30)
 (.seq
 (.ah [bb 6 (k_ 7)] [6])
 .ret)
 .skip))
 (.seq
 (.seq
 (.ah [ae 31 7,
 aV 32 4 4,
 a8 33 32 4 4 1 false,
 aK 34 33 .len,
 a_ 35 31 34 (.bin .neq)] [0,2,4,35])
 (.cond (.t 35)
 (.seq
 (.ah [bb 6 (k_ 8)] [6])
 .ret)
 .skip))
 (.seq
 (.ah [bb 9 (k_ 0)] [0,2,4,9])
 (.block 1
 g186L0)))))
 .skip))))))
 (.seq
 (.ah [bb 6 (k_ 0)] [6])
 .ret))),none,false⟩
def g190B1:aw:=
 (.seq
 (.ah [a_ 22 21 20 (.bin .lss)] [1,7,11,12,13,19,20,21,22])
 (.seq
 (.cond (.t 22)
 .skip
 (.exit 2))
 (.seq
 (.block 3
 (.seq
 (.ah [ae 23 21,
 a_ 24 19 21 (.aH 3),
 aK 25 24 (.aS 3 true),
 dG 10 [a9,fh,dN],
 ae 9 23,
 bl 10 25 10 0 3] [1,7,9,10,11,12,13,19,20,21])
 (.seq
 (.ah [aV 26 10 1,
 a8 27 26 10 1 1 false,
 ae 28 1,
 a_ 29 27 28 (.bin .eql)] [1,7,9,11,12,13,19,20,21,29])
 (.cond (.t 29)
 (.seq
 (.ah [ae 30 7,
 ae 31 9,
 ae 4 30,
 ae 5 31,
 bb 6 T_] [4,5,6])
 .ret)
 .skip))))
 (.ah [bo 32 21 1 (.bin .add),
 ae 21 32] [1,7,11,12,13,19,20,21]))))
def g190L1:aw:=.loop [1,7,11,12,13,19,20,21] g190B1
theorem g190L1e: cl AP g190L1 st=after (cl AP g190L1) (cl AP g190B1 (norm (restrict [1,7,11,12,13,19,20,21] st))):=aG
def g190B0:aw:=
 (.seq
 (.ah [a_ 14 13 12 (.bin .lss)] [1,11,12,13,14])
 (.seq
 (.cond (.t 14)
 .skip
 (.exit 0))
 (.seq
 (.block 1
 (.seq
 (.ah [ae 15 13,
 a_ 16 11 13 (.aH 4),
 aK 17 16 (.aS 4 true),
 dG 8 Dd,
 ae 7 15,
 bl 8 17 8 0 4] [1,7,8,11,12,13])
 (.seq
 (.ah [aV 18 8 3,
 a8 19 18 8 3 1 false,
 aK 20 19 .len,
 bb 21 (k_ 0)] [1,7,11,12,13,19,20,21])
 (.block 2
 g190L1))))
 (.ah [bo 33 13 1 (.bin .add),
 ae 13 33] [1,11,12,13]))))
def g190L0:aw:=.loop [1,11,12,13] g190B0
theorem g190L0e: cl AP g190L0 st=after (cl AP g190L0) (cl AP g190B0 (norm (restrict [1,11,12,13] st))):=aG
def g190:aC:=⟨2,34,[.t 4,.t 5,.t 6],
 (.seq
 (.ah [bb 4 (k_ 0),
 bb 5 (k_ 0),
 bb 6 F_] [0,1])
 (.seq
 (.seq
 (.ah [ae 11 0,
 aK 12 11 .len,
 bb 13 (k_ 0)] [1,11,12,13])
 (.block 0
 g190L0))
 (.seq
 (.ah [bb 4 (k_ 0),
 bb 5 (k_ 0),
 bb 6 F_] [4,5,6])
 .ret))),none,false⟩
def g191B1:aw:=
 (.seq
 (.seq
 (.ah [ae 15 8,
 ae 16 0,
 ae 17 7,
 a_ 18 16 17 (.aH 4),
 aV 19 18 3,
 aK 20 19 (.aS 1 false),
 aK 21 20 .len,
 a_ 22 15 21 (.bin .lss)] [0,1,7,8,22])
 (.cond (.t 22)
 .skip
 (.exit 2)))
 (.seq
 (.block 3
 (.seq
 (.ah [ae 25 0,
 ae 26 7,
 a_ 27 25 26 (.aH 4),
 aV 28 27 3,
 aK 29 28 (.aS 1 false),
 ae 30 8,
 a_ 31 29 30 (.aH 3),
 aV 32 31 1,
 aK 33 32 (.aS 1 false),
 ae 34 1,
 a_ 35 33 34 (.bin .eql)] [0,1,7,8,35])
 (.cond (.t 35)
 (.seq
 (.ah [ae 36 7,
 ae 37 8,
 ae 4 36,
 ae 5 37,
 bb 6 T_] [4,5,6])
 .ret)
 .skip)))
 (.ah [ae 23 8,
 bo 24 23 1 (.bin .add),
 ae 8 24] [0,1,7,8])))
def g191L1:aw:=.loop [0,1,7,8] g191B1
theorem g191L1e: cl AP g191L1 st=after (cl AP g191L1) (cl AP g191B1 (norm (restrict [0,1,7,8] st))):=aG
def g191B0:aw:=
 (.seq
 (.seq
 (.ah [ae 9 7,
 ae 10 0,
 aK 11 10 .len,
 a_ 12 9 11 (.bin .lss)] [0,1,7,12])
 (.cond (.t 12)
 .skip
 (.exit 0)))
 (.seq
 (.block 1
 (.seq
 (.ah [bb 8 (k_ 0)] [0,1,7,8])
 (.block 2
 g191L1)))
 (.ah [ae 13 7,
 bo 14 13 1 (.bin .add),
 ae 7 14] [0,1,7])))
def g191L0:aw:=.loop [0,1,7] g191B0
theorem g191L0e: cl AP g191L0 st=after (cl AP g191L0) (cl AP g191B0 (norm (restrict [0,1,7] st))):=aG
def g191:aC:=⟨2,38,[.t 4,.t 5,.t 6],
 (.seq
 (.ah [bb 4 (k_ 0),
 bb 5 (k_ 0),
 bb 6 F_] [0,1])
 (.seq
 (.seq
 (.ah [bb 7 (k_ 0)] [0,1,7])
 (.block 0
 g191L0))
 (.seq
 (.ah [bb 4 (k_ 0),
 bb 5 (k_ 0),
 bb 6 F_] [4,5,6])
 .ret))),none,false⟩
def g214:aC:=⟨2,9,[.t 4],
 (.seq
 (.ah [bb 4 F_] [0,1])
 (.seq
 (.ah [ae 5 0,
 ae 6 1,
 dS 7 5 6 (.aB 223),
 bo 8 7 0 (.bin .geq),
 ae 4 8] [4])
 .ret)),none,false⟩
def g215B0:aw:=
 (.seq
 (.ah [a_ 16 15 14 (.bin .lss)] [1,13,14,15,16])
 (.seq
 (.cond (.t 16)
 .skip
 (.exit 1))
 (.seq
 (.block 2
 (.seq
 (.ah [a_ 17 13 15 (.aH 4),
 aK 18 17 (.aS 4 true),
 dG 7 Dd,
 bl 7 18 7 0 4] [1,7,13,14,15])
 (.seq
 (.ah [aV 19 7 1,
 a8 20 19 7 1 1 false,
 ae 21 1,
 a_ 22 20 21 (.bin .eql)] [1,7,13,14,15,22])
 (.cond (.t 22)
 (.seq
 (.ah [aV 23 7 2,
 a8 24 23 7 2 1 false,
 aK 25 24 .len,
 ae 4 25,
 bb 5 T_] [4,5])
 .ret)
 .skip))))
 (.ah [bo 26 15 1 (.bin .add),
 ae 15 26] [1,13,14,15]))))
def g215L0:aw:=.loop [1,13,14,15] g215B0
theorem g215L0e: cl AP g215L0 st=after (cl AP g215L0) (cl AP g215B0 (norm (restrict [1,13,14,15] st))):=aG
def g215:aC:=⟨2,27,[.t 4,.t 5],
 (.seq
 (.ah [bb 4 (k_ 0),
 bb 5 F_] [0,1])
 (.seq
 (.seq
 (.ah [ae 8 1] [0,1,8])
 (.block 0
 (.seq
 (.ah [bs 10 [.t 8,.c (.pv (.str [73,110,116]))] (.bin .eql),
 ae 9 10] [0,1,8,9])
 (.cond (.t 9)
 (.seq
 (.ah [bb 4 (k_ 0),
 bb 5 T_] [4,5])
 .ret)
 (.seq
 (.ah [bs 12 [.t 8,.c (.pv (.str [45,62]))] (.bin .eql),
 ae 11 12] [0,1,11])
 (.cond (.t 11)
 (.seq
 (.ah [bb 4 (k_ 2),
 bb 5 T_] [4,5])
 .ret)
 .skip))))))
 (.seq
 (.seq
 (.ah [ae 13 0,
 aK 14 13 .len,
 bb 15 (k_ 0)] [1,13,14,15])
 (.block 1
 g215L0))
 (.seq
 (.ah [bb 4 (k_ 0),
 bb 5 F_] [4,5])
 .ret)))),none,false⟩
def g216B0:aw:=
 (.seq
 (.seq
 (.ah [ae 6 5,
 ae 7 0,
 aK 8 7 .len,
 a_ 9 6 8 (.bin .lss)] [0,1,5,9])
 (.cond (.t 9)
 .skip
 (.exit 0)))
 (.seq
 (.block 1
 (.seq
 (.ah [ae 12 0,
 ae 13 5,
 a_ 14 12 13 (.aH 1),
 aK 15 14 (.aS 1 false),
 ae 16 1,
 a_ 17 15 16 (.bin .eql)] [0,1,5,17])
 (.cond (.t 17)
 (.seq
 (.ah [ae 18 5,
 ae 4 18] [4])
 .ret)
 .skip)))
 (.ah [ae 10 5,
 bo 11 10 1 (.bin .add),
 ae 5 11] [0,1,5])))
def g216L0:aw:=.loop [0,1,5] g216B0
theorem g216L0e: cl AP g216L0 st=after (cl AP g216L0) (cl AP g216B0 (norm (restrict [0,1,5] st))):=aG
def g216:aC:=⟨2,19,[.t 4],
 (.seq
 (.ah [bb 4 (k_ 0)] [0,1])
 (.seq
 (.seq
 (.ah [bb 5 (k_ 0)] [0,1,5])
 (.block 0
 g216L0))
 (.seq
 (.ah [bb 4 (k_ (-1))] [4])
 .ret))),none,false⟩
def g217B0:aw:=
 (.seq
 (.seq
 (.ah [ae 12 6,
 ae 13 0,
 aK 14 13 .len,
 a_ 15 12 14 (.bin .lss)] [0,1,6,15])
 (.cond (.t 15)
 .skip
 (.exit 1)))
 (.seq
 (.block 2
 (.seq
 (.ah [ae 18 0,
 ae 19 6,
 a_ 20 18 19 (.aH 4),
 aV 21 20 1,
 aK 22 21 (.aS 1 false),
 ae 23 1,
 a_ 24 22 23 (.bin .eql)] [0,1,6,24])
 (.cond (.t 24)
 (.seq
 (.ah [ae 25 0,
 ae 26 6,
 a_ 27 25 26 (.aH 4),
 aV 28 27 2,
 aK 29 28 (.aS 1 false),
 aK 30 29 .len,
 ae 4 30,
 bb 5 T_] [4,5])
 .ret)
 .skip)))
 (.ah [ae 16 6,
 bo 17 16 1 (.bin .add),
 ae 6 17] [0,1,6])))
def g217L0:aw:=.loop [0,1,6] g217B0
theorem g217L0e: cl AP g217L0 st=after (cl AP g217L0) (cl AP g217B0 (norm (restrict [0,1,6] st))):=aG
def g217:aC:=⟨2,31,[.t 4,.t 5],
 (.seq
 (.ah [bb 4 (k_ 0),
 bb 5 F_] [0,1])
 (.seq
 (.seq
 (.ah [ae 7 1] [0,1,7])
 (.block 0
 (.seq
 (.ah [bs 9 [.t 7,.c (.pv (.str [73,110,116]))] (.bin .eql),
 ae 8 9] [0,1,7,8])
 (.cond (.t 8)
 (.seq
 (.ah [bb 4 (k_ 0),
 bb 5 T_] [4,5])
 .ret)
 (.seq
 (.ah [bs 11 [.t 7,.c (.pv (.str [45,62]))] (.bin .eql),
 ae 10 11] [0,1,10])
 (.cond (.t 10)
 (.seq
 (.ah [bb 4 (k_ 2),
 bb 5 T_] [4,5])
 .ret)
 .skip))))))
 (.seq
 (.seq
 (.ah [bb 6 (k_ 0)] [0,1,6])
 (.block 1
 g217L0))
 (.seq
 (.ah [bb 4 (k_ 0),
 bb 5 F_] [4,5])
 .ret)))),none,false⟩
def g223B0:aw:=
 (.seq
 (.ah [a_ 9 8 7 (.bin .lss)] [0,1,7,8,9])
 (.seq
 (.cond (.t 9)
 .skip
 (.exit 0))
 (.seq
 (.block 1
 (.seq
 (.ah [ae 10 8,
 ae 5 10] [0,1,5,7,8])
 (.seq
 (.ah [ae 11 1,
 ae 12 0,
 ae 13 5,
 a_ 14 12 13 (.aH 1),
 aK 15 14 (.aS 1 false),
 a_ 16 11 15 (.bin .eql)] [0,1,5,7,8,16])
 (.cond (.t 16)
 (.seq
 (.ah [ae 17 5,
 ae 4 17] [4])
 .ret)
 .skip))))
 (.ah [bo 18 8 1 (.bin .add),
 ae 8 18] [0,1,7,8]))))
def g223L0:aw:=.loop [0,1,7,8] g223B0
theorem g223L0e: cl AP g223L0 st=after (cl AP g223L0) (cl AP g223B0 (norm (restrict [0,1,7,8] st))):=aG
def g223:aC:=⟨2,19,[.t 4],
 (.seq
 (.ah [bb 4 (k_ 0)] [0,1])
 (.seq
 (.seq
 (.ah [ae 6 0,
 aK 7 6 .len,
 bb 8 (k_ 0)] [0,1,7,8])
 (.block 0
 g223L0))
 (.seq
 (.ah [bb 4 (k_ (-1))] [4])
 .ret))),none,false⟩
def g247B1:aw:=
 (.seq
 (.seq
 (.ah [ae 171 17,
 aV 172 13 3,
 a8 173 172 13 3 1 false,
 ae 174 15,
 a_ 175 173 174 (.aH 3),
 aV 176 175 2,
 aK 177 176 (.aS 1 false),
 aK 178 177 .len,
 a_ 179 171 178 (.bin .lss)] [0,1,2,6,13,14,15,16,17,179])
 (.cond (.t 179)
 .skip
 (.exit 3)))
 (.seq
 (.block 4
 (.ah [aV 182 16 2,
 a8 183 182 16 2 1 false,
 ae 184 0,
 bz 185 184 (.aA 175 []),
 aK 186 185 (.a6 1),
 dS 187 183 186 (.append 1 16),
 aV 188 16 2,
 bl 188 187 16 2 1] [0,1,2,6,13,14,15,16,17]))
 (.ah [ae 180 17,
 bo 181 180 1 (.bin .add),
 ae 17 181] [0,1,2,6,13,14,15,16,17])))
def g247L1:aw:=.loop [0,1,2,6,13,14,15,16,17] g247B1
theorem g247L1e: cl AP g247L1 st=after (cl AP g247L1) (cl AP g247B1 (norm (restrict [0,1,2,6,13,14,15,16,17] st))):=aG
def g247B0:aw:=
 (.seq
 (.seq
 (.ah [ae 157 15,
 aV 158 13 3,
 a8 159 158 13 3 1 false,
 aK 160 159 .len,
 a_ 161 157 160 (.bin .lss)] [0,1,2,6,13,14,15,161])
 (.cond (.t 161)
 .skip
 (.exit 1)))
 (.seq
 (.block 2
 (.seq
 (.ah [aV 164 13 3,
 a8 165 164 13 3 1 false,
 ae 166 15,
 a_ 167 165 166 (.aH 3),
 aV 168 167 1,
 aK 169 168 (.aS 1 false),
 aK 170 169 (.build [a9,fh,dN,a9,a9,fh,a9,dN,dN,a9,fh,a9,a9,dN] [(1,1)]),
 dG 16 [a9,fh,dN,a9,a9,fh,a9,dN,dN,a9,fh,a9,a9,dN],
 bl 16 170 16 0 14] [0,1,2,6,13,14,15,16])
 (.seq
 (.seq
 (.ah [bb 17 (k_ 0)] [0,1,2,6,13,14,15,16,17])
 (.block 3
 g247L1))
 (.seq
 (.ah [ae 189 0,
 ae 190 1,
 ae 191 2,
 bo 192 191 1 (.bin .sub),
 cg 193 [.t 189,.t 190,.t 192] (.aA 247 []),
 aV 194 16 3,
 bl 194 193 16 3 11] [0,1,2,6,13,14,15,16])
 (.ah [aV 195 14 5,
 a8 196 195 14 5 1 false,
 a8 197 16 16 0 14 true,
 aK 198 197 (.a6 14),
 dS 199 196 198 (.append 14 200),
 aV 200 14 5,
 bl 200 199 14 5 1] [0,1,2,6,13,14,15])))))
 (.ah [ae 162 15,
 bo 163 162 1 (.bin .add),
 ae 15 163] [0,1,2,6,13,14,15])))
def g247L0:aw:=.loop [0,1,2,6,13,14,15] g247B0
theorem g247L0e: cl AP g247L0 st=after (cl AP g247L0) (cl AP g247B0 (norm (restrict [0,1,2,6,13,14,15] st))):=aG
def g247:aC:=⟨3,202,[.c 6 11 true],
 (.seq
 (.ah [dG 6 e8] [0,1,2,6])
 (.seq
 (.ah [ae 18 0,
 cg 19 [.t 18,k_ 14] (.aA 68 []),
 ae 7 19] [0,1,2,6,7])
 (.seq
 (.seq
 (.ah [ae 20 2,
 bo 21 20 1 (.bin .lss)] [0,1,2,6,7,21])
 (.cond (.t 21)
 (.ah [ae 22 7,
 bo 23 22 5 (.bin .rem),
 ae 7 23] [0,1,2,6,7])
 .skip))
 (.seq
 (.seq
 (.ah [ae 24 7] [0,1,2,6,24])
 (.block 0
 (.seq
 (.seq
 (.ah [bo 26 24 0 (.bin .eql),
 ae 25 26] [0,1,2,6,24,25])
 (.cond (.t 25)
 .skip
 (.ah [bo 27 24 1 (.bin .eql),
 ae 25 27] [0,1,2,6,24,25])))
 (.cond (.t 25)
 (.seq
 (.ah [ae 28 0,
 bz 29 28 (.aA 175 []),
 bs 30 [k_ 1,.t 29] (.build e8 [(0,1),(2,1)]),
 bl 6 30 6 0 11] [6])
 .ret)
 (.seq
 (.ah [bo 32 24 2 (.bin .eql),
 ae 31 32] [0,1,2,6,24,31])
 (.cond (.t 31)
 (.seq
 (.ah [ae 33 0,
 cg 34 [.t 33,k_ 4] (.aA 68 []),
 bs 35 [k_ 3,.t 34] (.build e8 [(0,1),(3,1)]),
 bl 6 35 6 0 11] [6])
 .ret)
 (.seq
 (.ah [bo 37 24 3 (.bin .eql),
 ae 36 37] [0,1,2,6,24,36])
 (.cond (.t 36)
 (.seq
 (.seq
 (.ah [ae 38 1,
 aK 39 38 .len,
 bo 40 39 0 (.bin .gtr)] [0,1,6,40])
 (.cond (.t 40)
 (.seq
 (.ah [ae 41 1,
 ae 42 0,
 ae 43 1,
 aK 44 43 .len,
 dS 45 42 44 (.aA 68 []),
 a_ 46 41 45 (.aH 4),
 bz 47 46 (.aR 4 true),
 dG 8 Dd,
 bl 8 47 8 0 4] [0,6,8])
 (.seq
 (.ah [aV 48 8 3,
 a8 49 48 8 3 1 false,
 ae 50 0,
 aV 51 8 3,
 a8 52 51 8 3 1 false,
 aK 53 52 .len,
 dS 54 50 53 (.aA 68 []),
 a_ 55 49 54 (.aH 3),
 aV 56 55 1,
 aK 57 56 (.aS 1 false),
 bs 58 [k_ 2,.t 57] (.build e8 [(0,1),(2,1)]),
 bl 6 58 6 0 11] [6])
 .ret))
 .skip))
 (.seq
 (.ah [bs 59 [k_ 2,.c (.pv (.str [71,111,110,101]))] (.build e8 [(0,1),(2,1)]),
 bl 6 59 6 0 11] [6])
 .ret))
 (.seq
 (.ah [bo 61 24 4 (.bin .eql),
 ae 60 61] [0,1,2,6,24,60])
 (.cond (.t 60)
 (.seq
 (.ah [bs 62 [k_ 10] (.build e8 [(0,1)]),
 bl 6 62 6 0 11] [6])
 .ret)
 (.seq
 (.seq
 (.ah [bo 64 24 5 (.bin .eql),
 ae 63 64] [0,1,2,6,24,63])
 (.cond (.t 63)
 .skip
 (.ah [bo 65 24 6 (.bin .eql),
 ae 63 65] [0,1,2,6,24,63])))
 (.cond (.t 63)
 (.seq
 (.ah [ae 66 0,
 bz 67 66 (.aA 175 []),
 ae 68 0,
 ae 69 1,
 ae 70 2,
 bo 71 70 1 (.bin .sub),
 cg 72 [.t 68,.t 69,.t 71] (.aA 247 []),
 aK 73 72 (.a6 11),
 bs 74 [k_ 4,.t 67,.t 73] (.build e8 [(0,1),(2,1),(4,1)]),
 bl 6 74 6 0 11] [6])
 .ret)
 (.seq
 (.seq
 (.ah [bo 76 24 7 (.bin .eql),
 ae 75 76] [0,1,2,6,24,75])
 (.cond (.t 75)
 .skip
 (.seq
 (.ah [bo 77 24 8 (.bin .eql),
 ae 75 77] [0,1,2,6,24,75])
 (.cond (.t 75)
 .skip
 (.ah [bo 78 24 9 (.bin .eql),
 ae 75 78] [0,1,2,6,24,75])))))
 (.cond (.t 75)
 (.seq
 (.ah [ae 79 0,
 ae 80 1,
 ae 81 2,
 bo 82 81 1 (.bin .sub),
 cg 83 [.t 79,.t 80,.t 82] (.aA 247 []),
 dG 9 e8,
 bl 9 83 9 0 11] [0,1,2,6,9])
 (.seq
 (.ah [a8 84 9 9 0 11 true,
 ae 85 0,
 ae 86 1,
 ae 87 2,
 bo 88 87 1 (.bin .sub),
 cg 89 [.t 85,.t 86,.t 88] (.aA 247 []),
 a_ 90 84 89 (.a6 11),
 bs 91 [k_ 5,.t 90] (.build e8 [(0,1),(4,1)]),
 bl 6 91 6 0 11] [6])
 .ret))
 (.seq
 (.ah [bo 93 24 10 (.bin .eql),
 ae 92 93] [0,1,2,6,24,92])
 (.cond (.t 92)
 (.seq
 (.ah [ae 94 0,
 cg 95 [.t 94,k_ 2] (.aA 68 []),
 bs 96 [k_ 6,.t 95] (.bin .add),
 ae 10 96] [0,1,2,6,10])
 (.seq
 (.ah [ae 97 0,
 bz 98 97 (.aA 175 []),
 ae 11 98] [0,1,2,6,10,11])
 (.seq
 (.ah [ae 99 0,
 ae 100 1,
 ae 101 2,
 bo 102 101 1 (.bin .sub),
 cg 103 [.t 99,.t 100,.t 102] (.aA 247 []),
 dG 12 e8,
 bl 12 103 12 0 11] [0,1,2,6,10,11,12])
 (.seq
 (.ah [ae 104 10,
 ae 105 11,
 a8 106 12 12 0 11 true,
 ae 107 0,
 ae 108 1,
 ae 109 2,
 bo 110 109 1 (.bin .sub),
 cg 111 [.t 107,.t 108,.t 110] (.aA 247 []),
 a_ 112 106 111 (.a6 11),
 bs 113 [.t 104,.t 105,.t 112] (.build e8 [(0,1),(2,1),(4,1)]),
 bl 6 113 6 0 11] [6])
 .ret))))
 (.seq
 (.ah [bo 115 24 11 (.bin .eql),
 ae 114 115] [0,1,2,6,24,114])
 (.cond (.t 114)
 (.seq
 (.ah [ae 116 0,
 ae 117 1,
 ae 118 2,
 bo 119 118 1 (.bin .sub),
 cg 120 [.t 116,.t 117,.t 119] (.aA 247 []),
 aK 121 120 (.a6 11),
 ae 122 0,
 ae 123 1,
 cg 124 [.t 122,.t 123,.c (.bR []),k_ 2] (.aA 27 []),
 bs 125 [k_ 9,.t 121,.t 124] (.build e8 [(0,1),(4,1),(6,5)]),
 bl 6 125 6 0 11] [6])
 .ret)
 (.seq
 (.ah [bo 127 24 12 (.bin .eql),
 ae 126 127] [0,1,2,6,126])
 (.cond (.t 126)
 (.seq
 (.ah [ae 128 0,
 ae 129 1,
 ae 130 2,
 bo 131 130 1 (.bin .sub),
 cg 132 [.t 128,.t 129,.t 131] (.aA 247 []),
 aK 133 132 (.a6 11),
 bs 134 [k_ 11,.t 133] (.build e8 [(0,1),(4,1)]),
 bl 6 134 6 0 11] [6])
 .ret)
 .skip))))))))))))))))))))
 (.seq
 (.seq
 (.ah [ae 135 1,
 aK 136 135 .len,
 bo 137 136 0 (.bin .eql)] [0,1,2,6,137])
 (.cond (.t 137)
 (.seq
 (.ah [ae 138 0,
 ae 139 1,
 ae 140 2,
 bo 141 140 1 (.bin .sub),
 cg 142 [.t 138,.t 139,.t 141] (.aA 247 []),
 bl 6 142 6 0 11] [6])
 .ret)
 .skip))
 (.seq
 (.ah [ae 143 1,
 ae 144 0,
 ae 145 1,
 aK 146 145 .len,
 dS 147 144 146 (.aA 68 []),
 a_ 148 143 147 (.aH 4),
 bz 149 148 (.aR 4 true),
 dG 13 Dd,
 bl 13 149 13 0 4] [0,1,2,6,13])
 (.seq
 (.ah [ae 150 0,
 ae 151 1,
 ae 152 2,
 bo 153 152 1 (.bin .sub),
 cg 154 [.t 150,.t 151,.t 153] (.aA 247 []),
 aK 155 154 (.a6 11),
 bs 156 [k_ 8,.t 155] (.build e8 [(0,1),(4,1)]),
 dG 14 e8,
 bl 14 156 14 0 11] [0,1,2,6,13,14])
 (.seq
 (.seq
 (.ah [bb 15 (k_ 0)] [0,1,2,6,13,14,15])
 (.block 1
 g247L0))
 (.seq
 (.ah [a8 201 14 14 0 11 true,
 bl 6 201 6 0 11] [6])
 .ret))))))))),none,false⟩
def g250:aC:=⟨1,58,[.c 2 11 true,.c 3 2 true],
 (.seq
 (.ah [dG 2 e8,
 dG 3 [a9,a9]] [0,2,3])
 (.seq
 (.ah [ae 11 0,
 bz 12 11 (.aB 118),
 ae 10 12,
 aK 13 10 (.ext 0),
 aK 14 10 (.ext 1),
 dG 5 [a9,a9],
 ae 4 13,
 bl 5 14 5 0 2] [2,3,4,5])
 (.seq
 (.seq
 (.ah [aV 15 5 0,
 a8 16 15 5 0 1 false,
 bo 17 16 0 (.bin .neq)] [2,3,4,5,17])
 (.cond (.t 17)
 (.seq
 (.ah [bs 18 [] (.build e8 []),
 a8 19 5 5 0 2 true,
 bl 2 18 2 0 11,
 bl 3 19 3 0 2] [2,3])
 .ret)
 .skip))
 (.seq
 (.ah [ae 20 4,
 cg 21 [.t 20,k_ 0] (.aA 119 []),
 ae 6 21] [2,3,4,5,6])
 (.seq
 (.ah [ae 22 6,
 bz 23 22 (.aA 134 []),
 dG 7 e8,
 bl 7 23 7 0 11] [2,3,4,5,6,7])
 (.seq
 (.seq
 (.ah [ae 24 6,
 aK 25 24 .aQ,
 aV 26 25 1,
 bz 27 26 (.aR 1 false),
 ae 28 4,
 aK 29 28 .len,
 a_ 30 27 29 (.bin .lss)] [2,3,5,6,7,30])
 (.cond (.t 30)
 (.ah [ae 31 6,
 bz 32 31 (.aA 139 [])] [2,3,5,6,7])
 .skip))
 (.seq
 (.seq
 (.ah [ae 33 6,
 aK 34 33 .aQ,
 aV 35 34 2,
 bz 36 35 (.aR 1 false)] [2,3,5,6,7,36])
 (.cond (.t 36)
 (.seq
 (.ah [bs 37 [] (.build e8 []),
 ae 38 6,
 aK 39 38 .aQ,
 aV 40 39 3,
 bz 41 40 (.aR 1 false),
 bs 42 [k_ 3,.t 41] (.build [a9,a9] [(0,1),(1,1)]),
 bl 2 37 2 0 11,
 bl 3 42 3 0 2] [2,3])
 .ret)
 .skip))
 (.seq
 (.seq
 (.ah [a8 43 7 7 0 11 true,
 bz 44 43 (.aB 135)] [2,3,5,7,44])
 (.cond (.t 44)
 (.seq
 (.ah [bs 45 [] (.build e8 []),
 bs 46 [k_ 4] (.build [a9,a9] [(0,1)]),
 bl 2 45 2 0 11,
 bl 3 46 3 0 2] [2,3])
 .ret)
 .skip))
 (.seq
 (.seq
 (.ah [a8 48 7 7 0 11 true,
 bz 49 48 (.aB 136),
 ae 47 49,
 aK 50 47 (.ext 0),
 aK 51 47 (.ext 1),
 ae 8 50,
 ae 9 51] [2,3,5,7,8,9])
 (.seq
 (.ah [ae 52 9] [2,3,5,7,8,52])
 (.cond (.t 52)
 (.seq
 (.ah [bs 53 [] (.build e8 []),
 ae 54 8,
 bs 55 [k_ 5,.t 54] (.build [a9,a9] [(0,1),(1,1)]),
 bl 2 53 2 0 11,
 bl 3 55 3 0 2] [2,3])
 .ret)
 .skip)))
 (.seq
 (.ah [a8 56 7 7 0 11 true,
 a8 57 5 5 0 2 true,
 bl 2 56 2 0 11,
 bl 3 57 3 0 2] [2,3])
 .ret)))))))))),none,false⟩
def g364B0:aw:=
 (.seq
 (.seq
 (.ah [ae 6 5,
 ae 7 0,
 aK 8 7 .len,
 a_ 9 6 8 (.bin .lss)] [0,1,5,9])
 (.cond (.t 9)
 .skip
 (.exit 0)))
 (.seq
 (.block 1
 (.seq
 (.ah [ae 12 0,
 ae 13 5,
 a_ 14 12 13 (.aH 1),
 aK 15 14 (.aS 1 false),
 ae 16 1,
 a_ 17 15 16 (.bin .eql)] [0,1,5,17])
 (.cond (.t 17)
 (.seq
 (.ah [bb 4 T_] [4])
 .ret)
 .skip)))
 (.ah [ae 10 5,
 bo 11 10 1 (.bin .add),
 ae 5 11] [0,1,5])))
def g364L0:aw:=.loop [0,1,5] g364B0
theorem g364L0e: cl AP g364L0 st=after (cl AP g364L0) (cl AP g364B0 (norm (restrict [0,1,5] st))):=aG
def g364:aC:=⟨2,18,[.t 4],
 (.seq
 (.ah [bb 4 F_] [0,1])
 (.seq
 (.seq
 (.ah [bb 5 (k_ 0)] [0,1,5])
 (.block 0
 g364L0))
 (.seq
 (.ah [bb 4 F_] [4])
 .ret))),none,false⟩
def g365:aC:=⟨2,8,[.c 4 2 true],
 (.seq
 (.ah [dG 4 [a9,a9]] [0,1,4])
 (.seq
 (.ah [ae 5 0,
 ae 6 1,
 a_ 7 5 6 (.build [a9,a9] [(0,1),(1,1)]),
 bl 4 7 4 0 2] [4])
 .ret)),none,false⟩
def g366B0:aw:=
 (.seq
 (.seq
 (.ah [ae 61 13,
 ae 62 12,
 aK 63 62 .len,
 a_ 64 61 63 (.bin .lss),
 ae 65 64,
 bj 66 65 true 7 (.v (.b_ 0)),
 bj 67 65 true 66 (.de 7 0 1 false),
 dU 68 65 true [.t 67,k_ 0] (.v (.bin .eql)),
 bs 69 [.t 65,.t 68,F_] .pick] [0,1,5,6,7,12,13,69])
 (.cond (.t 69)
 .skip
 (.exit 1)))
 (.seq
 (.block 2
 (.ah [ae 72 0,
 ae 73 1,
 cg 74 [.c (.bR []),.t 73] (.append 1 16),
 a8 75 5 5 0 11 true,
 ae 76 13,
 dS 77 75 76 (.aB 380),
 dS 78 74 77 (.append 1 16),
 ae 79 12,
 ae 80 13,
 a_ 81 79 80 (.aH 11),
 aK 82 81 (.aS 11 true),
 cg 83 [.t 72,.t 78,.t 82] (.aB 366),
 bl 7 83 7 0 2] [0,1,5,6,7,12,13]))
 (.ah [ae 70 13,
 bo 71 70 1 (.bin .add),
 ae 13 71] [0,1,5,6,7,12,13])))
def g366L0:aw:=.loop [0,1,5,6,7,12,13] g366B0
theorem g366L0e: cl AP g366L0 st=after (cl AP g366L0) (cl AP g366B0 (norm (restrict [0,1,5,6,7,12,13] st))):=aG
def g366:aC:=⟨3,85,[.c 6 2 true],
 (.seq
 (.ah [bz 5 2 (.box 5 11),
 dG 6 [a9,a9]] [0,1,5,6])
 (.seq
 (.ah [bs 14 [] (.build [a9,a9] []),
 dG 7 [a9,a9],
 bl 7 14 7 0 2] [0,1,5,6,7])
 (.seq
 (.seq
 (.ah [aV 15 5 0,
 a8 16 15 5 0 1 false] [0,1,5,6,7,16])
 (.block 0
 (.seq
 (.ah [bo 18 16 1 (.bin .eql),
 ae 17 18] [0,1,5,6,7,16,17])
 (.cond (.t 17)
 (.seq
 (.ah [ae 19 1,
 aV 20 5 2,
 a8 21 20 5 2 1 false,
 dS 22 19 21 (.aB 364),
 aK 23 22 (.un .not)] [0,1,5,6,7,23])
 (.cond (.t 23)
 (.ah [aV 24 5 1,
 a8 25 24 5 1 1 false,
 cg 26 [k_ 9,.t 25] (.aB 365),
 bl 7 26 7 0 2] [0,1,5,6,7])
 .skip))
 (.seq
 (.ah [bo 28 16 2 (.bin .eql),
 ae 27 28] [0,1,5,6,7,16,27])
 (.cond (.t 27)
 (.seq
 (.ah [ae 30 0,
 aV 31 5 2,
 a8 32 31 5 2 1 false,
 dS 33 30 32 (.aB 191),
 ae 29 33,
 aK 34 29 (.ext 0),
 aK 35 29 (.ext 1),
 aK 36 29 (.ext 2),
 ae 8 34,
 ae 9 35,
 ae 10 36] [0,1,5,6,7,10])
 (.seq
 (.ah [ae 37 10,
 aK 38 37 (.un .not)] [0,1,5,6,7,38])
 (.cond (.t 38)
 (.ah [aV 39 5 1,
 a8 40 39 5 1 1 false,
 cg 41 [k_ 9,.t 40] (.aB 365),
 bl 7 41 7 0 2] [0,1,5,6,7])
 .skip)))
 (.seq
 (.ah [bo 43 16 8 (.bin .eql),
 ae 42 43] [0,1,5,6,7,16,42])
 (.cond (.t 42)
 (.ah [ae 44 0,
 a8 45 5 5 0 11 true,
 dS 46 44 45 (.aB 379),
 bl 7 46 7 0 2] [0,1,5,6,7])
 (.seq
 (.ah [bo 48 16 9 (.bin .eql),
 ae 47 48] [0,1,5,6,7,47])
 (.cond (.t 47)
 (.seq
 (.ah [ae 49 0,
 aV 50 5 6,
 a8 51 50 5 6 5 true,
 cg 52 [.t 49,.t 51,.c (.bR [])] (.aB 186),
 ae 11 52] [0,1,5,6,7,11])
 (.seq
 (.ah [ae 53 11,
 bo 54 53 0 (.bin .neq)] [0,1,5,6,7,11,54])
 (.cond (.t 54)
 (.ah [ae 55 11,
 aV 56 5 1,
 a8 57 56 5 1 1 false,
 dS 58 55 57 (.aB 365),
 bl 7 58 7 0 2] [0,1,5,6,7])
 .skip)))
 .skip))))))))))
 (.seq
 (.ah [a8 59 5 5 0 11 true,
 bz 60 59 (.aB 145),
 ae 12 60] [0,1,5,6,7,12])
 (.seq
 (.seq
 (.ah [bb 13 (k_ 0)] [0,1,5,6,7,12,13])
 (.block 1
 g366L0))
 (.seq
 (.ah [a8 84 7 7 0 2 true,
 bl 6 84 6 0 2] [6])
 .ret)))))),none,false⟩
def g374B0:aw:=
 (.seq
 (.seq
 (.ah [ae 30 7,
 aV 31 6 5,
 a8 32 31 6 5 1 false,
 aK 33 32 .len,
 a_ 34 30 33 (.bin .lss)] [1,4,5,6,7,34])
 (.cond (.t 34)
 .skip
 (.exit 0)))
 (.seq
 (.block 1
 (.ah [aV 37 6 5,
 a8 38 37 6 5 1 false,
 ae 39 7,
 ae 40 1,
 ae 41 5,
 ae 42 7,
 a_ 43 41 42 (.bin .add),
 a_ 44 40 43 (.aH 11),
 aK 45 44 (.aS 11 true),
 a_ 46 38 39 (.aH 14),
 aV 47 46 3,
 qp [.t 47,.t 45] (.cz 11)] [1,4,5,6,7]))
 (.ah [ae 35 7,
 bo 36 35 1 (.bin .add),
 ae 7 36] [1,4,5,6,7])))
def g374L0:aw:=.loop [1,4,5,6,7] g374B0
theorem g374L0e: cl AP g374L0 st=after (cl AP g374L0) (cl AP g374B0 (norm (restrict [1,4,5,6,7] st))):=aG
def g374:aC:=⟨2,49,[.c 4 11 true],
 (.seq
 (.ah [bz 2 0 (.box 2 11),
 dG 4 e8] [1,2,4])
 (.seq
 (.ah [aV 8 2 4,
 a8 9 8 2 4 1 false,
 aK 10 9 .len,
 ae 5 10] [1,2,4,5])
 (.seq
 (.seq
 (.ah [ae 11 1,
 aK 12 11 .len,
 ae 13 5,
 aV 14 2 5,
 a8 15 14 2 5 1 false,
 aK 16 15 .len,
 a_ 17 13 16 (.bin .add),
 a_ 18 12 17 (.bin .neq)] [1,2,4,5,18])
 (.cond (.t 18)
 (.seq
 (.ah [a8 19 2 2 0 11 true,
 bl 4 19 4 0 11] [4])
 .ret)
 .skip))
 (.seq
 (.ah [a8 20 2 2 0 11 true,
 dG 6 e8,
 bl 6 20 6 0 11] [1,2,4,5,6])
 (.seq
 (.ah [ae 21 1,
 ae 22 5,
 a_ 23 21 22 (.slice false 11 false true false),
 cg 24 [.c (.bR []),.t 23] (.append 11 152),
 aV 25 2 5,
 a8 26 25 2 5 1 false,
 cg 27 [.c (.bR []),.t 26] (.cI 14 200 true),
 aV 28 6 4,
 bl 28 24 6 4 1,
 aV 29 6 5,
 bl 29 27 6 5 1] [1,4,5,6])
 (.seq
 (.seq
 (.ah [bb 7 (k_ 0)] [1,4,5,6,7])
 (.block 0
 g374L0))
 (.seq
 (.ah [a8 48 6 6 0 11 true,
 bl 4 48 4 0 11] [4])
 .ret))))))),none,false⟩
def g379B0:aw:=
 (.seq
 (.seq
 (.ah [ae 14 5,
 aV 15 3 5,
 a8 16 15 3 5 1 false,
 aK 17 16 .len,
 a_ 18 14 17 (.bin .lss)] [0,3,4,5,18])
 (.cond (.t 18)
 .skip
 (.exit 0)))
 (.seq
 (.block 1
 (.seq
 (.ah [ae 22 0,
 aV 23 3 5,
 a8 24 23 3 5 1 false,
 ae 25 5,
 a_ 26 24 25 (.aH 14),
 aV 27 26 1,
 aK 28 27 (.aS 1 false),
 dS 29 22 28 (.aB 191),
 ae 21 29,
 aK 30 21 (.ext 0),
 aK 31 21 (.ext 1),
 aK 32 21 (.ext 2),
 ae 6 30,
 ae 7 31,
 ae 8 32] [0,3,4,5,8])
 (.seq
 (.ah [ae 33 8,
 aK 34 33 (.un .not)] [0,3,4,5,34])
 (.cond (.t 34)
 (.seq
 (.ah [aV 35 3 5,
 a8 36 35 3 5 1 false,
 ae 37 5,
 a_ 38 36 37 (.aH 14),
 aV 39 38 0,
 aK 40 39 (.aS 1 false),
 cg 41 [k_ 9,.t 40] (.aB 365),
 bl 4 41 4 0 2] [4])
 .ret)
 .skip))))
 (.ah [ae 19 5,
 bo 20 19 1 (.bin .add),
 ae 5 20] [0,3,4,5])))
def g379L0:aw:=.loop [0,3,4,5] g379B0
theorem g379L0e: cl AP g379L0 st=after (cl AP g379L0) (cl AP g379B0 (norm (restrict [0,3,4,5] st))):=aG
def g379B2:aw:=
 (.seq
 (.seq
 (.ah [ae 87 13,
 ae 88 12,
 aK 89 88 .len,
 a_ 90 87 89 (.bin .lss)] [0,3,4,9,11,12,13,90])
 (.cond (.t 90)
 .skip
 (.exit 4)))
 (.seq
 (.block 5
 (.seq
 (.ah [ae 93 12,
 ae 94 13,
 a_ 95 93 94 (.slice false 1 false true false),
 ae 96 12,
 ae 97 13,
 a_ 98 96 97 (.aH 1),
 aK 99 98 (.aS 1 false),
 dS 100 95 99 (.aB 364)] [0,3,4,9,11,12,13,100])
 (.cond (.t 100)
 (.seq
 (.ah [aV 101 3 5,
 a8 102 101 3 5 1 false,
 ae 103 11,
 a_ 104 102 103 (.aH 14),
 aV 105 104 0,
 aK 106 105 (.aS 1 false),
 cg 107 [k_ 6,.t 106] (.aB 365),
 bl 4 107 4 0 2] [4])
 .ret)
 .skip)))
 (.ah [ae 91 13,
 bo 92 91 1 (.bin .add),
 ae 13 92] [0,3,4,9,11,12,13])))
def g379L2:aw:=.loop [0,3,4,9,11,12,13] g379B2
theorem g379L2e: cl AP g379L2 st=after (cl AP g379L2) (cl AP g379B2 (norm (restrict [0,3,4,9,11,12,13] st))):=aG
def g379B1:aw:=
 (.seq
 (.seq
 (.ah [ae 54 11,
 aV 55 3 5,
 a8 56 55 3 5 1 false,
 aK 57 56 .len,
 a_ 58 54 57 (.bin .lss)] [0,3,4,9,11,58])
 (.cond (.t 58)
 .skip
 (.exit 2)))
 (.seq
 (.block 3
 (.seq
 (.ah [aV 61 3 5,
 a8 62 61 3 5 1 false,
 ae 63 11,
 a_ 64 62 63 (.aH 14),
 aV 65 64 2,
 aK 66 65 (.aS 1 false),
 ae 12 66] [0,3,4,9,11,12])
 (.seq
 (.seq
 (.ah [ae 67 12,
 aK 68 67 .len,
 ae 69 0,
 ae 70 9,
 a_ 71 69 70 (.aH 4),
 aV 72 71 3,
 aK 73 72 (.aS 1 false),
 ae 74 11,
 a_ 75 73 74 (.aH 3),
 aV 76 75 2,
 aK 77 76 (.aS 1 false),
 aK 78 77 .len,
 a_ 79 68 78 (.bin .neq)] [0,3,4,9,11,12,79])
 (.cond (.t 79)
 (.seq
 (.ah [aV 80 3 5,
 a8 81 80 3 5 1 false,
 ae 82 11,
 a_ 83 81 82 (.aH 14),
 aV 84 83 0,
 aK 85 84 (.aS 1 false),
 cg 86 [k_ 8,.t 85] (.aB 365),
 bl 4 86 4 0 2] [4])
 .ret)
 .skip))
 (.seq
 (.ah [bb 13 (k_ 0)] [0,3,4,9,11,12,13])
 (.block 4
 g379L2)))))
 (.ah [ae 59 11,
 bo 60 59 1 (.bin .add),
 ae 11 60] [0,3,4,9,11])))
def g379L1:aw:=.loop [0,3,4,9,11] g379B1
theorem g379L1e: cl AP g379L1 st=after (cl AP g379L1) (cl AP g379B1 (norm (restrict [0,3,4,9,11] st))):=aG
def g379:aC:=⟨2,109,[.c 4 2 true],
 (.seq
 (.ah [bz 3 1 (.box 3 11),
 dG 4 [a9,a9]] [0,3,4])
 (.seq
 (.seq
 (.ah [bb 5 (k_ 0)] [0,3,4,5])
 (.block 0
 g379L0))
 (.seq
 (.ah [ae 43 0,
 aV 44 3 5,
 a8 45 44 3 5 1 false,
 dS 46 43 45 (.aB 390),
 ae 42 46,
 aK 47 42 (.ext 0),
 aK 48 42 (.ext 1),
 ae 9 47,
 ae 10 48] [0,3,4,9,10])
 (.seq
 (.seq
 (.ah [ae 49 10,
 aK 50 49 (.un .not)] [0,3,4,9,50])
 (.cond (.t 50)
 (.seq
 (.ah [aV 51 3 1,
 a8 52 51 3 1 1 false,
 cg 53 [k_ 10,.t 52] (.aB 365),
 bl 4 53 4 0 2] [4])
 .ret)
 .skip))
 (.seq
 (.seq
 (.ah [bb 11 (k_ 0)] [0,3,4,9,11])
 (.block 2
 g379L1))
 (.seq
 (.ah [bs 108 [] (.build [a9,a9] []),
 bl 4 108 4 0 2] [4])
 .ret)))))),none,false⟩
def g380:aC:=⟨2,37,[.t 4],
 (.seq
 (.ah [bz 2 0 (.box 2 11),
 bs 4 [.c (.bR [])] .mv] [1,2])
 (.seq
 (.block 0
 (.seq
 (.seq
 (.ah [aV 6 2 0,
 a8 7 6 2 0 1 false,
 bo 8 7 4 (.bin .eql),
 ae 5 8] [1,2,5])
 (.cond (.t 5)
 .skip
 (.seq
 (.ah [aV 9 2 0,
 a8 10 9 2 0 1 false,
 bo 11 10 7 (.bin .eql),
 ae 5 11] [1,2,5])
 (.cond (.t 5)
 .skip
 (.ah [aV 12 2 0,
 a8 13 12 2 0 1 false,
 bo 14 13 6 (.bin .eql),
 ae 15 14,
 bj 16 15 true 1 (.v (.mv)),
 dU 17 15 true [.t 16,k_ 1] (.v (.bin .eql)),
 bs 18 [.t 15,.t 17,F_] .pick,
 ae 5 18] [1,2,5])))))
 (.cond (.t 5)
 (.seq
 (.ah [aV 19 2 2,
 a8 20 19 2 2 1 false,
 aK 21 20 (.a6 1),
 ae 4 21] [4])
 .ret)
 (.seq
 (.ah [aV 23 2 0,
 a8 24 23 2 0 1 false,
 bo 25 24 8 (.bin .eql),
 ae 26 25,
 bj 27 26 true 1 (.v (.mv)),
 dU 28 26 true [.t 27,k_ 0] (.v (.bin .gtr)),
 bs 29 [.t 26,.t 28,F_] .pick,
 ae 22 29] [1,2,22])
 (.cond (.t 22)
 (.seq
 (.ah [aV 30 2 5,
 a8 31 30 2 5 1 false,
 ae 32 1,
 bo 33 32 1 (.bin .sub),
 a_ 34 31 33 (.aH 14),
 aV 35 34 2,
 aK 36 35 (.aS 1 false),
 ae 4 36] [4])
 .ret)
 .skip)))))
 (.seq
 (.ah [bs 4 [.c (.bR [])] .mv] [4])
 .ret))),none,false⟩
def g390B1:aw:=
 (.seq
 (.seq
 (.ah [ae 24 7,
 ae 25 24,
 bj 26 25 true 8 (.v (.mv)),
 bj 27 25 true 1 (.v (.mv)),
 bj 28 25 true 27 (.v (.len)),
 dU 29 25 true [.t 26,.t 28] (.v (.bin .lss)),
 bs 30 [.t 25,.t 29,F_] .pick] [0,1,6,7,8,30])
 (.cond (.t 30)
 .skip
 (.exit 2)))
 (.seq
 (.block 3
 (.ah [ae 33 1,
 ae 34 8,
 a_ 35 33 34 (.aH 14),
 aV 36 35 1,
 aK 37 36 (.aS 1 false),
 ae 38 0,
 ae 39 6,
 a_ 40 38 39 (.aH 4),
 aV 41 40 3,
 aK 42 41 (.aS 1 false),
 ae 43 8,
 a_ 44 42 43 (.aH 3),
 aV 45 44 1,
 aK 46 45 (.aS 1 false),
 a_ 47 37 46 (.bin .eql),
 ae 7 47] [0,1,6,7,8]))
 (.ah [ae 31 8,
 bo 32 31 1 (.bin .add),
 ae 8 32] [0,1,6,7,8])))
def g390L1:aw:=.loop [0,1,6,7,8] g390B1
theorem g390L1e: cl AP g390L1 st=after (cl AP g390L1) (cl AP g390B1 (norm (restrict [0,1,6,7,8] st))):=aG
def g390B0:aw:=
 (.seq
 (.seq
 (.ah [ae 9 6,
 ae 10 0,
 aK 11 10 .len,
 a_ 12 9 11 (.bin .lss)] [0,1,6,12])
 (.cond (.t 12)
 .skip
 (.exit 0)))
 (.seq
 (.block 1
 (.seq
 (.ah [ae 15 1,
 aK 16 15 .len,
 ae 17 0,
 ae 18 6,
 a_ 19 17 18 (.aH 4),
 aV 20 19 3,
 aK 21 20 (.aS 1 false),
 aK 22 21 .len,
 a_ 23 16 22 (.bin .eql),
 ae 7 23] [0,1,6,7])
 (.seq
 (.seq
 (.ah [bb 8 (k_ 0)] [0,1,6,7,8])
 (.block 2
 g390L1))
 (.seq
 (.ah [ae 48 7] [0,1,6,48])
 (.cond (.t 48)
 (.seq
 (.ah [ae 49 6,
 ae 4 49,
 bb 5 T_] [4,5])
 .ret)
 .skip)))))
 (.ah [ae 13 6,
 bo 14 13 1 (.bin .add),
 ae 6 14] [0,1,6])))
def g390L0:aw:=.loop [0,1,6] g390B0
theorem g390L0e: cl AP g390L0 st=after (cl AP g390L0) (cl AP g390B0 (norm (restrict [0,1,6] st))):=aG
def g390:aC:=⟨2,50,[.t 4,.t 5],
 (.seq
 (.ah [bb 4 (k_ 0),
 bb 5 F_] [0,1])
 (.seq
 (.seq
 (.ah [bb 6 (k_ 0)] [0,1,6])
 (.block 0
 g390L0))
 (.seq
 (.ah [bb 4 (k_ 0),
 bb 5 F_] [4,5])
 .ret))),none,false⟩
def g400B0:aw:=
 (.seq
 (.seq
 (.ah [ae 48 13,
 ae 49 3,
 cg 50 [.t 49,k_ 6] (.aB 26),
 a_ 51 48 50 (.bin .lss)] [3,9,10,11,12,13,51])
 (.cond (.t 51)
 .skip
 (.exit 0)))
 (.seq
 (.block 1
 (.seq
 (.ah [a8 54 12 12 0 11 true,
 bz 55 54 (.aB 145),
 ae 14 55] [3,9,10,11,12,13,14])
 (.seq
 (.seq
 (.ah [ae 56 14,
 aK 57 56 .len,
 bo 58 57 0 (.bin .eql)] [3,9,10,11,12,13,14,58])
 (.cond (.t 58)
 (.exit 0)
 .skip))
 (.seq
 (.ah [ae 59 3,
 ae 60 13,
 bs 61 [k_ 3,.t 60] (.bin .mul),
 a_ 62 59 61 (.bin .add),
 ae 63 14,
 aK 64 63 .len,
 dS 65 62 64 (.aB 26),
 ae 15 65] [3,9,10,11,12,13,14,15])
 (.ah [ae 66 11,
 ae 67 15,
 aK 68 67 (.a6 1),
 dS 69 66 68 (.append 1 8),
 ae 70 14,
 ae 71 15,
 a_ 72 70 71 (.aH 11),
 aK 73 72 (.aS 11 true),
 ae 11 69,
 bl 12 73 12 0 11] [3,9,10,11,12,13])))))
 (.ah [ae 52 13,
 bo 53 52 1 (.bin .add),
 ae 13 53] [3,9,10,11,12,13])))
def g400L0:aw:=.loop [3,9,10,11,12,13] g400B0
theorem g400L0e: cl AP g400L0 st=after (cl AP g400L0) (cl AP g400B0 (norm (restrict [3,9,10,11,12,13] st))):=aG
def g400B1:aw:=
 (.seq
 (.seq
 (.ah [ae 78 17,
 aV 79 9 1,
 a8 80 79 9 1 1 false,
 aK 81 80 .len,
 a_ 82 78 81 (.bin .lss)] [9,12,16,17,82])
 (.cond (.t 82)
 .skip
 (.exit 2)))
 (.seq
 (.block 3
 (.ah [ae 85 16,
 aV 86 9 1,
 a8 87 86 9 1 1 false,
 ae 88 17,
 a_ 89 87 88 (.aH 20),
 aV 90 89 2,
 aK 91 90 (.aS 1 false),
 aK 92 91 (.a6 1),
 dS 93 85 92 (.cI 1 16 false),
 ae 16 93] [9,12,16,17]))
 (.ah [ae 83 17,
 bo 84 83 1 (.bin .add),
 ae 17 84] [9,12,16,17])))
def g400L1:aw:=.loop [9,12,16,17] g400B1
theorem g400L1e: cl AP g400L1 st=after (cl AP g400L1) (cl AP g400B1 (norm (restrict [9,12,16,17] st))):=aG
def g400:aC:=⟨4,101,[.t 8],
 (.seq
 (.ah [bb 8 F_] [0,1,2,3])
 (.seq
 (.seq
 (.ah [cg 18 [] (.aB 401),
 aK 19 18 (.un .not)] [0,1,2,3,19])
 (.cond (.t 19)
 (.seq
 (.ah [bb 8 F_] [8])
 .ret)
 .skip))
 (.seq
 (.seq
 (.ah [ae 20 1,
 bz 21 20 (.aB 15),
 aK 22 21 (.un .not)] [0,1,2,3,22])
 (.cond (.t 22)
 (.seq
 (.ah [bb 8 T_] [8])
 .ret)
 .skip))
 (.seq
 (.ah [ae 23 0,
 ae 24 1,
 ae 25 2,
 cg 26 [.t 23,.t 24,.t 25] (.aB 310),
 dG 9 [dN,dN],
 bl 9 26 9 0 2] [3,9])
 (.seq
 (.seq
 (.ah [a8 27 9 9 0 2 true,
 bz 28 27 (.aB 403),
 aK 29 28 (.field 0 1 false),
 bo 30 29 0 (.bin .neq),
 ae 31 30,
 bj 32 31 false 9 (.v (.b_ 1)),
 bj 33 31 false 32 (.de 9 1 1 false),
 bj 34 31 false 33 (.v (.len)),
 dU 35 31 false [.t 34,k_ 0] (.v (.bin .eql)),
 bs 36 [.t 31,T_,.t 35] .pick] [3,9,36])
 (.cond (.t 36)
 (.seq
 (.ah [bb 8 T_] [8])
 .ret)
 .skip))
 (.seq
 (.ah [aV 37 9 1,
 a8 38 37 9 1 1 false,
 ae 39 3,
 aV 40 9 1,
 a8 41 40 9 1 1 false,
 aK 42 41 .len,
 dS 43 39 42 (.aB 26),
 a_ 44 38 43 (.aH 20),
 aK 45 44 (.aS 20 true),
 dG 10 [a9,.bool false,fh,.bool false,a9,fh,a9,a9,dN,a9,a9,fh,a9,dN,dN,a9,fh,a9,a9,dN],
 bl 10 45 10 0 20] [3,9,10])
 (.seq
 (.ah [bs 11 [.c (.bR [])] .mv] [3,9,10,11])
 (.seq
 (.ah [aV 46 10 9,
 a8 47 46 10 9 11 true,
 dG 12 e8,
 bl 12 47 12 0 11] [3,9,10,11,12])
 (.seq
 (.seq
 (.ah [bb 13 (k_ 0)] [3,9,10,11,12,13])
 (.block 0
 g400L0))
 (.seq
 (.ah [aV 74 10 9,
 a8 75 74 10 9 11 true,
 ae 76 11,
 dS 77 75 76 (.aA 404 []),
 ae 16 77] [9,12,16])
 (.seq
 (.seq
 (.ah [bb 17 (k_ 0)] [9,12,16,17])
 (.block 2
 g400L1))
 (.seq
 (.seq
 (.eM [16])
 (.ah [aV 94 9 0,
 a8 95 94 9 0 1 false,
 ae 96 16,
 a8 97 12 12 0 11 true,
 cg 98 [.t 95,.t 96,.t 97] (.eI 405),
 aK 99 98 (.field 0 1 false),
 bo 100 99 0 (.bin .eql),
 ae 8 100] [8]))
 .ret)))))))))))),none,false⟩
def g401:aC:=⟨0,40,[.t 0],
 (.seq
 (.ah [bb 0 F_] [])
 (.seq
 (.ah [cg 5 [.c (.pv (.str [92,120,46,32,108,101,116,32,121,32,61,32,63,32,105,110,32,63]))] (.aB 406),
 dG 1 e8,
 bl 1 5 1 0 11] [1])
 (.seq
 (.ah [cg 6 [k_ 2] (.aB 32),
 ae 2 6] [1,2])
 (.seq
 (.ah [ae 8 2,
 cg 9 [.c (.pv (.str [99,97,115,101,32,120,32,111,102,32,78,111,110,101,46,32,49,32,124,32,83,111,109,101,32,120,46,32,120,32,101,110,100]))] (.aB 406),
 aK 10 9 (.field 5 1 false),
 dS 11 8 10 (.aB 407),
 ae 7 11,
 aK 12 7 (.ext 0),
 aK 13 7 (.ext 1),
 ae 3 12,
 ae 4 13] [1,2,3,4])
 (.seq
 (.ah [a8 14 1 1 0 11 true,
 bs 15 [k_ 0,k_ 0] (.a6 1),
 dS 16 14 15 (.aB 404),
 bs 17 [.c (.pv (.str [120]))] (.a6 1),
 dS 18 16 17 (.aB 408),
 ae 19 18,
 bj 20 19 true 1 (.de 1 0 11 true),
 dU 21 19 true [k_ 0,k_ 1] (.v (.a6 1)),
 dU 22 19 true [.t 20,.t 21] (.aB 404),
 dU 23 19 true [.c (.pv (.str [120])),.c (.pv (.str [121]))] (.v (.a6 1)),
 dU 24 19 true [.t 22,.t 23] (.aB 408),
 bs 25 [.t 19,.t 24,F_] .pick,
 ae 26 25,
 bj 27 26 true 4 (.v (.mv)),
 bs 28 [.t 26,.t 27,F_] .pick,
 ae 29 28,
 bj 30 29 true 3 (.v (.mv)),
 dU 31 29 true [.t 30,k_ 0] (.v (.bin .eql)),
 bs 32 [.t 29,.t 31,F_] .pick,
 ae 33 32,
 bj 34 33 true 2 (.v (.mv)),
 dU 35 33 true [.c (.pv (.str [120]))] (.aB 406),
 dU 36 33 true [.t 34,.c (.bR []),.t 35] (.aB 405),
 bj 37 33 true 36 (.v (.field 0 1 false)),
 dU 38 33 true [.t 37,k_ 9] (.v (.bin .eql)),
 bs 39 [.t 33,.t 38,F_] .pick,
 ae 0 39] [0])
 .ret))))),none,false⟩
def g402B0:aw:=
 (.seq
 (.seq
 (.ah [ae 19 7,
 aV 20 2 5,
 a8 21 20 2 5 1 false,
 aK 22 21 .len,
 a_ 23 19 22 (.bin .lss)] [1,2,4,6,7,23])
 (.cond (.t 23)
 .skip
 (.exit 0)))
 (.seq
 (.block 1
 (.seq
 (.ah [aV 26 2 5,
 a8 27 26 2 5 1 false,
 ae 28 7,
 ae 29 1,
 a_ 30 27 28 (.aH 14),
 aV 31 30 0,
 qp [.t 31,.t 29] (.cz 1)] [1,2,4,6,7])
 (.ah [ae 32 1,
 bo 33 32 1 (.bin .add),
 ae 1 33] [1,2,4,6,7])))
 (.ah [ae 24 7,
 bo 25 24 1 (.bin .add),
 ae 7 25] [1,2,4,6,7])))
def g402L0:aw:=.loop [1,2,4,6,7] g402B0
theorem g402L0e: cl AP g402L0 st=after (cl AP g402L0) (cl AP g402B0 (norm (restrict [1,2,4,6,7] st))):=aG
def g402B1:aw:=
 (.seq
 (.seq
 (.ah [ae 34 8,
 ae 35 6,
 aK 36 35 .len,
 a_ 37 34 36 (.bin .lss)] [1,2,4,6,8,37])
 (.cond (.t 37)
 .skip
 (.exit 2)))
 (.seq
 (.block 3
 (.ah [ae 41 6,
 ae 42 8,
 ae 43 6,
 ae 44 8,
 a_ 45 43 44 (.aH 11),
 bz 46 45 (.aR 11 true),
 ae 47 1,
 dS 48 46 47 (.aB 402),
 ae 40 48,
 aK 49 40 (.ext 0),
 aK 50 40 (.ext 1),
 a_ 51 41 42 (.aH 11),
 qp [.t 51,.t 49] (.cz 11),
 ae 1 50] [1,2,4,6,8]))
 (.ah [ae 38 8,
 bo 39 38 1 (.bin .add),
 ae 8 39] [1,2,4,6,8])))
def g402L1:aw:=.loop [1,2,4,6,8] g402B1
theorem g402L1e: cl AP g402L1 st=after (cl AP g402L1) (cl AP g402B1 (norm (restrict [1,2,4,6,8] st))):=aG
def g402:aC:=⟨2,56,[.c 4 11 true,.t 5],
 (.seq
 (.ah [bz 2 0 (.box 2 11),
 dG 4 e8,
 bb 5 (k_ 0)] [1,2,4])
 (.seq
 (.ah [ae 9 1,
 aV 10 2 1,
 bl 10 9 2 1 1] [1,2,4])
 (.seq
 (.ah [ae 11 1,
 bo 12 11 1 (.bin .add),
 ae 1 12] [1,2,4])
 (.seq
 (.ah [aV 13 2 5,
 a8 14 13 2 5 1 false,
 cg 15 [.c (.bR []),.t 14] (.cI 14 200 true),
 aV 16 2 5,
 bl 16 15 2 5 1] [1,2,4])
 (.seq
 (.ah [a8 17 2 2 0 11 true,
 bz 18 17 (.aA 145 []),
 ae 6 18] [1,2,4,6])
 (.seq
 (.seq
 (.ah [bb 7 (k_ 0)] [1,2,4,6,7])
 (.block 0
 g402L0))
 (.seq
 (.seq
 (.ah [bb 8 (k_ 0)] [1,2,4,6,8])
 (.block 2
 g402L1))
 (.seq
 (.ah [a8 52 2 2 0 11 true,
 ae 53 6,
 dS 54 52 53 (.eI 374),
 ae 55 1,
 bl 4 54 4 0 11,
 ae 5 55] [4,5])
 .ret)))))))),none,false⟩
def g404B1:aw:=
 (.seq
 (.ah [a_ 31 30 29 (.bin .lss)] [2,7,9,20,21,22,28,29,30,31])
 (.seq
 (.cond (.t 31)
 .skip
 (.exit 2))
 (.seq
 (.block 3
 (.seq
 (.ah [a_ 32 28 30 (.aH 1),
 aK 33 32 (.aS 1 false),
 cg 11 [] (.gl [fh]),
 qp [.t 11,.t 33] (.cz 1)] [2,7,9,11,20,21,22,28,29,30])
 (.seq
 (.ah [ae 34 7,
 aK 35 11 (.AL 413),
 dS 36 34 35 (.aA 412 [0]),
 ae 7 36] [2,7,9,11,20,21,22,28,29,30])
 (.ah [ae 37 7,
 bz 38 11 (.aR 1 false),
 aK 39 38 (.a6 1),
 dS 40 37 39 (.cI 1 16 false),
 ae 7 40] [2,7,9,20,21,22,28,29,30]))))
 (.ah [bo 41 30 1 (.bin .add),
 ae 30 41] [2,7,9,20,21,22,28,29,30]))))
def g404L1:aw:=.loop [2,7,9,20,21,22,28,29,30] g404B1
theorem g404L1e: cl AP g404L1 st=after (cl AP g404L1) (cl AP g404B1 (norm (restrict [2,7,9,20,21,22,28,29,30] st))):=aG
def g404B0:aw:=
 (.seq
 (.ah [a_ 23 22 21 (.bin .lss)] [2,7,20,21,22,23])
 (.seq
 (.cond (.t 23)
 .skip
 (.exit 0))
 (.seq
 (.block 1
 (.seq
 (.ah [a_ 24 20 22 (.aH 1),
 aK 25 24 (.aS 1 false),
 ae 9 25] [2,7,9,20,21,22])
 (.seq
 (.seq
 (.ah [a8 26 2 2 0 11 true,
 ae 27 9,
 dS 28 26 27 (.aB 411),
 aK 29 28 .len,
 bb 30 (k_ 0)] [2,7,9,20,21,22,28,29,30])
 (.block 2
 g404L1))
 (.ah [a8 42 2 2 0 11 true,
 bz 43 42 (.aB 414),
 ae 44 9,
 a_ 45 43 44 (.aH 11),
 aK 46 45 (.aS 11 true),
 bl 2 46 2 0 11] [2,7,20,21,22]))))
 (.ah [bo 47 22 1 (.bin .add),
 ae 22 47] [2,7,20,21,22]))))
def g404L0:aw:=.loop [2,7,20,21,22] g404B0
theorem g404L0e: cl AP g404L0 st=after (cl AP g404L0) (cl AP g404B0 (norm (restrict [2,7,20,21,22] st))):=aG
def g404:aC:=⟨2,49,[.t 4],
 (.seq
 (.ah [bz 2 0 (.box 2 11),
 bs 4 [.c (.bR [])] .mv] [1,2])
 (.seq
 (.seq
 (.ah [a8 13 2 2 0 11 true,
 ae 14 1,
 dS 15 13 14 (.aB 410),
 ae 12 15,
 aK 16 12 (.ext 0),
 aK 17 12 (.ext 1),
 dG 5 e8,
 bl 5 16 5 0 11,
 ae 6 17] [1,2,6])
 (.seq
 (.ah [ae 18 6,
 aK 19 18 (.un .not)] [1,2,19])
 (.cond (.t 19)
 (.seq
 (.ah [bs 4 [.c (.bR [])] .mv] [4])
 .ret)
 .skip)))
 (.seq
 (.ah [bs 7 [.c (.bR [])] .mv] [1,2,7])
 (.seq
 (.seq
 (.ah [ae 20 1,
 aK 21 20 .len,
 bb 22 (k_ 0)] [2,7,20,21,22])
 (.block 0
 g404L0))
 (.seq
 (.ah [ae 48 7,
 ae 4 48] [4])
 .ret))))),none,true⟩
def g405B0:aw:=
 (.seq
 (.ah [a_ 67 66 65 (.bin .lss)] [0,1,5,6,64,65,66,67])
 (.seq
 (.cond (.t 67)
 .skip
 (.exit 1))
 (.seq
 (.block 2
 (.seq
 (.ah [ae 68 66,
 a_ 69 64 66 (.aH 11),
 aK 70 69 (.aS 11 true),
 dG 13 e8,
 ae 12 68,
 bl 13 70 13 0 11] [0,1,5,6,12,13,64,65,66])
 (.seq
 (.ah [ae 71 0,
 ae 72 1,
 a8 73 5 5 0 11 true,
 ae 74 12,
 dS 75 73 74 (.aB 411),
 dS 76 72 75 (.aB 409),
 a8 77 13 13 0 11 true,
 cg 78 [.t 71,.t 76,.t 77] (.aB 405),
 dG 14 [a9,a9],
 bl 14 78 14 0 2] [0,1,5,6,14,64,65,66])
 (.seq
 (.ah [aV 79 14 0,
 a8 80 79 14 0 1 false,
 bo 81 80 0 (.bin .neq)] [0,1,5,6,14,64,65,66,81])
 (.cond (.t 81)
 (.seq
 (.ah [a8 82 14 14 0 2 true,
 bl 6 82 6 0 2] [6])
 .ret)
 .skip)))))
 (.ah [bo 83 66 1 (.bin .add),
 ae 66 83] [0,1,5,6,64,65,66]))))
def g405L0:aw:=.loop [0,1,5,6,64,65,66] g405B0
theorem g405L0e: cl AP g405L0 st=after (cl AP g405L0) (cl AP g405B0 (norm (restrict [0,1,5,6,64,65,66] st))):=aG
def g405:aC:=⟨3,85,[.c 6 2 true],
 (.seq
 (.ah [bz 5 2 (.box 5 11),
 dG 6 [a9,a9]] [0,1,5,6])
 (.seq
 (.ah [dG 7 [a9,a9]] [0,1,5,6,7])
 (.seq
 (.seq
 (.ah [aV 15 5 0,
 a8 16 15 5 0 1 false] [0,1,5,6,7,16])
 (.block 0
 (.seq
 (.ah [bo 18 16 1 (.bin .eql),
 ae 17 18] [0,1,5,6,7,16,17])
 (.cond (.t 17)
 (.seq
 (.ah [ae 19 1,
 aV 20 5 2,
 a8 21 20 5 2 1 false,
 dS 22 19 21 (.aB 214),
 aK 23 22 (.un .not)] [0,1,5,6,7,23])
 (.cond (.t 23)
 (.ah [aV 24 5 1,
 a8 25 24 5 1 1 false,
 bs 26 [k_ 9,.t 25] (.build [a9,a9] [(0,1),(1,1)]),
 bl 7 26 7 0 2] [0,1,5,6,7])
 .skip))
 (.seq
 (.ah [bo 28 16 2 (.bin .eql),
 ae 27 28] [0,1,5,6,7,16,27])
 (.cond (.t 27)
 (.seq
 (.ah [ae 30 0,
 aV 31 5 2,
 a8 32 31 5 2 1 false,
 dS 33 30 32 (.aB 190),
 ae 29 33,
 aK 34 29 (.ext 0),
 aK 35 29 (.ext 1),
 aK 36 29 (.ext 2),
 ae 8 34,
 ae 9 35,
 ae 10 36] [0,1,5,6,7,10])
 (.seq
 (.ah [ae 37 10,
 aK 38 37 (.un .not)] [0,1,5,6,7,38])
 (.cond (.t 38)
 (.ah [aV 39 5 1,
 a8 40 39 5 1 1 false,
 bs 41 [k_ 9,.t 40] (.build [a9,a9] [(0,1),(1,1)]),
 bl 7 41 7 0 2] [0,1,5,6,7])
 .skip)))
 (.seq
 (.ah [bo 43 16 8 (.bin .eql),
 ae 42 43] [0,1,5,6,7,16,42])
 (.cond (.t 42)
 (.ah [ae 44 0,
 a8 45 5 5 0 11 true,
 dS 46 44 45 (.aB 415),
 bl 7 46 7 0 2] [0,1,5,6,7])
 (.seq
 (.ah [bo 48 16 9 (.bin .eql),
 ae 47 48] [0,1,5,6,7,47])
 (.cond (.t 47)
 (.seq
 (.ah [ae 49 0,
 aV 50 5 6,
 a8 51 50 5 6 5 true,
 cg 52 [.t 49,.t 51,.c (.bR [])] (.aB 185),
 ae 11 52] [0,1,5,6,7,11])
 (.seq
 (.ah [ae 53 11,
 bo 54 53 0 (.bin .neq)] [0,1,5,6,7,11,54])
 (.cond (.t 54)
 (.ah [ae 55 11,
 aV 56 5 1,
 a8 57 56 5 1 1 false,
 a_ 58 55 57 (.build [a9,a9] [(0,1),(1,1)]),
 bl 7 58 7 0 2] [0,1,5,6,7])
 .skip)))
 .skip))))))))))
 (.seq
 (.seq
 (.ah [aV 59 7 0,
 a8 60 59 7 0 1 false,
 bo 61 60 0 (.bin .neq)] [0,1,5,6,7,61])
 (.cond (.t 61)
 (.seq
 (.ah [a8 62 7 7 0 2 true,
 bl 6 62 6 0 2] [6])
 .ret)
 .skip))
 (.seq
 (.seq
 (.ah [a8 63 5 5 0 11 true,
 bz 64 63 (.aB 414),
 aK 65 64 .len,
 bb 66 (k_ 0)] [0,1,5,6,64,65,66])
 (.block 1
 g405L0))
 (.seq
 (.ah [bs 84 [] (.build [a9,a9] []),
 bl 6 84 6 0 2] [6])
 .ret)))))),none,false⟩
def g406:aC:=⟨1,11,[.c 2 11 true],
 (.seq
 (.ah [dG 2 e8] [0,2])
 (.seq
 (.ah [ae 6 0,
 bz 7 6 (.aB 250),
 ae 5 7,
 aK 8 5 (.ext 0),
 aK 9 5 (.ext 1),
 dG 3 e8,
 dG 4 [a9,a9],
 bl 3 8 3 0 11,
 bl 4 9 4 0 2] [2,3])
 (.seq
 (.ah [a8 10 3 3 0 11 true,
 bl 2 10 2 0 11] [2])
 .ret))),none,false⟩
def g407:aC:=⟨2,14,[.t 4,.t 5],
 (.seq
 (.ah [bz 3 1 (.kX 1),
 bb 4 (k_ 0),
 bb 5 F_] [0,3])
 (.seq
 (.ah [ae 7 0,
 aK 8 3 (.AL 417),
 dS 9 7 8 (.aA 416 []),
 ae 6 9] [6])
 (.seq
 (.ah [ae 10 6,
 bo 11 10 0 .mx,
 ae 12 6,
 bo 13 12 0 (.bin .geq),
 ae 4 11,
 ae 5 13] [4,5])
 .ret))),none,false⟩
def g408B0:aw:=
 (.seq
 (.seq
 (.ah [ae 11 5,
 ae 12 0,
 aK 13 12 .len,
 a_ 14 11 13 (.bin .lss)] [0,1,5,14])
 (.cond (.t 14)
 .skip
 (.exit 0)))
 (.seq
 (.block 1
 (.seq
 (.ah [ae 17 0,
 ae 18 5,
 a_ 19 17 18 (.aH 1),
 aK 20 19 (.aS 1 false),
 ae 21 1,
 ae 22 5,
 a_ 23 21 22 (.aH 1),
 aK 24 23 (.aS 1 false),
 a_ 25 20 24 (.bin .neq)] [0,1,5,25])
 (.cond (.t 25)
 (.seq
 (.ah [bb 4 F_] [4])
 .ret)
 .skip)))
 (.ah [ae 15 5,
 bo 16 15 1 (.bin .add),
 ae 5 16] [0,1,5])))
def g408L0:aw:=.loop [0,1,5] g408B0
theorem g408L0e: cl AP g408L0 st=after (cl AP g408L0) (cl AP g408B0 (norm (restrict [0,1,5] st))):=aG
def g408:aC:=⟨2,26,[.t 4],
 (.seq
 (.ah [bb 4 F_] [0,1])
 (.seq
 (.seq
 (.ah [ae 6 0,
 aK 7 6 .len,
 ae 8 1,
 aK 9 8 .len,
 a_ 10 7 9 (.bin .neq)] [0,1,10])
 (.cond (.t 10)
 (.seq
 (.ah [bb 4 F_] [4])
 .ret)
 .skip))
 (.seq
 (.seq
 (.ah [bb 5 (k_ 0)] [0,1,5])
 (.block 0
 g408L0))
 (.seq
 (.ah [bb 4 T_] [4])
 .ret)))),none,false⟩
def g409:aC:=⟨2,9,[.t 4],
 (.seq
 (.ah [bs 4 [.c (.bR [])] .mv] [0,1])
 (.seq
 (.ah [ae 5 0,
 bz 6 5 (.clone 1 16),
 ae 7 1,
 dS 8 6 7 (.append 1 16),
 ae 4 8] [4])
 .ret)),none,false⟩
def g410B0:aw:=
 (.seq
 (.ah [a_ 12 11 10 (.bin .lss)] [2,4,9,10,11,12])
 (.seq
 (.cond (.t 12)
 .skip
 (.exit 0))
 (.seq
 (.block 1
 (.seq
 (.ah [a_ 13 9 11 (.aH 1),
 aK 14 13 (.aS 1 false),
 ae 7 14] [2,4,7,9,10,11])
 (.seq
 (.ah [a8 15 2 2 0 11 true,
 bz 16 15 (.aB 414),
 ae 8 16] [2,4,7,8,9,10,11])
 (.seq
 (.seq
 (.ah [ae 17 7,
 bo 18 17 0 (.bin .lss),
 ae 19 18,
 bj 20 19 false 7 (.v (.mv)),
 bj 21 19 false 8 (.v (.mv)),
 bj 22 19 false 21 (.v (.len)),
 dU 23 19 false [.t 20,.t 22] (.v (.bin .geq)),
 bs 24 [.t 19,T_,.t 23] .pick] [2,4,7,8,9,10,11,24])
 (.cond (.t 24)
 (.seq
 (.ah [bs 25 [] (.build e8 []),
 bl 4 25 4 0 11,
 bb 5 F_] [4,5])
 .ret)
 .skip))
 (.ah [ae 26 8,
 ae 27 7,
 a_ 28 26 27 (.aH 11),
 aK 29 28 (.aS 11 true),
 bl 2 29 2 0 11] [2,4,9,10,11])))))
 (.ah [bo 30 11 1 (.bin .add),
 ae 11 30] [2,4,9,10,11]))))
def g410L0:aw:=.loop [2,4,9,10,11] g410B0
theorem g410L0e: cl AP g410L0 st=after (cl AP g410L0) (cl AP g410B0 (norm (restrict [2,4,9,10,11] st))):=aG
def g410:aC:=⟨2,32,[.c 4 11 true,.t 5],
 (.seq
 (.ah [bz 2 0 (.box 2 11),
 dG 4 e8,
 bb 5 F_] [1,2,4])
 (.seq
 (.seq
 (.ah [ae 9 1,
 aK 10 9 .len,
 bb 11 (k_ 0)] [2,4,9,10,11])
 (.block 0
 g410L0))
 (.seq
 (.ah [a8 31 2 2 0 11 true,
 bl 4 31 4 0 11,
 bb 5 T_] [4,5])
 .ret))),none,false⟩
def g411:aC:=⟨2,37,[.t 4],
 (.seq
 (.ah [bz 2 0 (.box 2 11),
 bs 4 [.c (.bR [])] .mv] [1,2])
 (.seq
 (.seq
 (.ah [aV 5 2 0,
 a8 6 5 2 0 1 false] [1,2,6])
 (.block 0
 (.seq
 (.seq
 (.ah [bo 8 6 4 (.bin .eql),
 ae 7 8] [1,2,6,7])
 (.cond (.t 7)
 .skip
 (.ah [bo 9 6 7 (.bin .eql),
 ae 7 9] [1,2,6,7])))
 (.cond (.t 7)
 (.seq
 (.ah [aV 10 2 2,
 a8 11 10 2 2 1 false,
 aK 12 11 (.a6 1),
 ae 4 12] [4])
 .ret)
 (.seq
 (.ah [bo 14 6 6 (.bin .eql),
 ae 13 14] [1,2,6,13])
 (.cond (.t 13)
 (.seq
 (.ah [ae 15 1,
 bo 16 15 1 (.bin .eql)] [2,16])
 (.cond (.t 16)
 (.seq
 (.ah [aV 17 2 2,
 a8 18 17 2 2 1 false,
 aK 19 18 (.a6 1),
 ae 4 19] [4])
 .ret)
 .skip))
 (.seq
 (.ah [bo 21 6 8 (.bin .eql),
 ae 20 21] [1,2,20])
 (.cond (.t 20)
 (.seq
 (.ah [ae 22 1,
 aV 23 2 4,
 a8 24 23 2 4 1 false,
 aK 25 24 .len,
 a_ 26 22 25 (.bin .geq)] [1,2,26])
 (.cond (.t 26)
 (.seq
 (.ah [aV 27 2 5,
 a8 28 27 2 5 1 false,
 ae 29 1,
 aV 30 2 4,
 a8 31 30 2 4 1 false,
 aK 32 31 .len,
 a_ 33 29 32 (.bin .sub),
 a_ 34 28 33 (.aH 14),
 aV 35 34 2,
 aK 36 35 (.aS 1 false),
 ae 4 36] [4])
 .ret)
 .skip))
 .skip))))))))
 (.seq
 (.ah [bs 4 [.c (.bR [])] .mv] [4])
 .ret))),none,false⟩
def g412B0:aw:=
 (.seq
 (.seq
 (.ah [ae 16 6,
 ae 17 0,
 aK 18 17 .len,
 a_ 19 16 18 (.bin .lss)] [0,1,5,6,19])
 (.cond (.t 19)
 .skip
 (.exit 0)))
 (.seq
 (.block 1
 (.seq
 (.ah [ae 22 0,
 ae 23 6,
 a_ 24 22 23 (.aH 1),
 bz 25 24 (.aR 1 false),
 ae 7 25] [0,1,5,6,7])
 (.seq
 (.ah [ae 26 1,
 ae 27 7,
 dS 28 26 27 .eB,
 aK 29 28 (.un .not)] [0,1,5,6,7,29])
 (.cond (.t 29)
 (.seq
 (.ah [ae 30 0,
 ae 31 5,
 ae 32 7,
 a_ 33 30 31 (.aH 1),
 qp [.t 33,.t 32] (.cz 1)] [0,1,5,6])
 (.ah [ae 34 5,
 bo 35 34 1 (.bin .add),
 ae 5 35] [0,1,5,6]))
 .skip))))
 (.ah [ae 20 6,
 bo 21 20 1 (.bin .add),
 ae 6 21] [0,1,5,6])))
def g412L0:aw:=.loop [0,1,5,6] g412B0
theorem g412L0e: cl AP g412L0 st=after (cl AP g412L0) (cl AP g412B0 (norm (restrict [0,1,5,6] st))):=aG
def g412:aC:=⟨2,42,[.t 4],
 (.seq
 (.ah [bs 4 [.c (.bR [])] .mv] [0,1])
 (.seq
 (.ah [ae 8 0,
 ae 9 1,
 dS 10 8 9 (.aA 421 []),
 ae 5 10] [0,1,5])
 (.seq
 (.seq
 (.ah [ae 11 5,
 bo 12 11 (-1) (.bin .eql)] [0,1,5,12])
 (.cond (.t 12)
 (.seq
 (.ah [ae 13 0,
 ae 4 13] [4])
 .ret)
 .skip))
 (.seq
 (.seq
 (.ah [ae 14 5,
 bo 15 14 1 (.bin .add),
 ae 6 15] [0,1,5,6])
 (.block 0
 g412L0))
 (.seq
 (.ah [ae 36 0,
 ae 37 5,
 a_ 38 36 37 (.kW 1 true false),
 qp [.t 38] (.fR 1 [.str []])] [0,5])
 (.seq
 (.ah [ae 39 0,
 ae 40 5,
 a_ 41 39 40 (.kW 1 false true),
 ae 4 41] [4])
 .ret)))))),none,true⟩
def g413:aC:=⟨1,7,[.t 3],
 (.seq
 (.ah [bb 3 F_] [0,1])
 (.seq
 (.ah [ae 4 0,
 bz 5 1 (.aR 1 false),
 a_ 6 4 5 (.bin .eql),
 ae 3 6] [3])
 .ret)),none,false⟩
def g414B0:aw:=
 (.seq
 (.ah [a_ 13 12 11 (.bin .lss)] [3,10,11,12,13])
 (.seq
 (.cond (.t 13)
 .skip
 (.exit 0))
 (.seq
 (.block 1
 (.seq
 (.ah [a_ 14 10 12 (.aH 14),
 aK 15 14 (.aS 14 true),
 dG 5 [a9,fh,dN,a9,a9,fh,a9,dN,dN,a9,fh,a9,a9,dN],
 bl 5 15 5 0 14] [3,5,10,11,12])
 (.ah [ae 16 3,
 aV 17 5 3,
 a8 18 17 5 3 11 true,
 aK 19 18 (.a6 11),
 dS 20 16 19 (.append 11 152),
 ae 3 20] [3,10,11,12])))
 (.ah [bo 21 12 1 (.bin .add),
 ae 12 21] [3,10,11,12]))))
def g414L0:aw:=.loop [3,10,11,12] g414B0
theorem g414L0e: cl AP g414L0 st=after (cl AP g414L0) (cl AP g414B0 (norm (restrict [3,10,11,12] st))):=aG
def g414:aC:=⟨1,23,[.t 2],
 (.seq
 (.ah [bz 1 0 (.box 1 11),
 bs 2 [.c (.bR [])] .mv] [1])
 (.seq
 (.ah [aV 6 1 4,
 a8 7 6 1 4 1 false,
 bz 8 7 (.clone 11 152),
 ae 3 8] [1,3])
 (.seq
 (.seq
 (.ah [aV 9 1 5,
 a8 10 9 1 5 1 false,
 aK 11 10 .len,
 bb 12 (k_ 0)] [3,10,11,12])
 (.block 0
 g414L0))
 (.seq
 (.ah [ae 22 3,
 ae 2 22] [2])
 .ret)))),none,false⟩
def g415B0:aw:=
 (.seq
 (.ah [a_ 20 19 18 (.bin .lss)] [0,3,4,17,18,19,20])
 (.seq
 (.cond (.t 20)
 .skip
 (.exit 0))
 (.seq
 (.block 1
 (.seq
 (.ah [a_ 21 17 19 (.aH 14),
 aK 22 21 (.aS 14 true),
 dG 6 [a9,fh,dN,a9,a9,fh,a9,dN,dN,a9,fh,a9,a9,dN],
 bl 6 22 6 0 14] [0,3,4,6,17,18,19])
 (.seq
 (.ah [ae 24 0,
 aV 25 6 1,
 a8 26 25 6 1 1 false,
 dS 27 24 26 (.aB 190),
 ae 23 27,
 aK 28 23 (.ext 0),
 aK 29 23 (.ext 1),
 aK 30 23 (.ext 2),
 ae 7 28,
 ae 8 29,
 ae 9 30] [0,3,4,6,9,17,18,19])
 (.seq
 (.ah [ae 31 9,
 aK 32 31 (.un .not)] [0,3,4,6,17,18,19,32])
 (.cond (.t 32)
 (.seq
 (.ah [aV 33 6 0,
 a8 34 33 6 0 1 false,
 bs 35 [k_ 9,.t 34] (.build [a9,a9] [(0,1),(1,1)]),
 bl 4 35 4 0 2] [4])
 .ret)
 .skip)))))
 (.ah [bo 36 19 1 (.bin .add),
 ae 19 36] [0,3,4,17,18,19]))))
def g415L0:aw:=.loop [0,3,4,17,18,19] g415B0
theorem g415L0e: cl AP g415L0 st=after (cl AP g415L0) (cl AP g415B0 (norm (restrict [0,3,4,17,18,19] st))):=aG
def g415B2:aw:=
 (.seq
 (.ah [a_ 78 77 76 (.bin .lss)] [0,4,10,13,50,51,52,75,76,77,78])
 (.seq
 (.cond (.t 78)
 .skip
 (.exit 4))
 (.seq
 (.block 5
 (.seq
 (.ah [ae 79 77,
 a_ 80 75 77 (.aH 1),
 aK 81 80 (.aS 1 false),
 ae 14 79,
 ae 15 81] [0,4,10,13,14,15,50,51,52,75,76,77])
 (.seq
 (.ah [aV 82 13 2,
 a8 83 82 13 2 1 false,
 ae 84 14,
 a_ 85 83 84 (.slice false 1 false true false),
 ae 86 15,
 dS 87 85 86 (.aB 214)] [0,4,10,13,50,51,52,75,76,77,87])
 (.cond (.t 87)
 (.seq
 (.ah [aV 88 13 0,
 a8 89 88 13 0 1 false,
 bs 90 [k_ 6,.t 89] (.build [a9,a9] [(0,1),(1,1)]),
 bl 4 90 4 0 2] [4])
 .ret)
 .skip))))
 (.ah [bo 91 77 1 (.bin .add),
 ae 77 91] [0,4,10,13,50,51,52,75,76,77]))))
def g415L2:aw:=.loop [0,4,10,13,50,51,52,75,76,77] g415B2
theorem g415L2e: cl AP g415L2 st=after (cl AP g415L2) (cl AP g415B2 (norm (restrict [0,4,10,13,50,51,52,75,76,77] st))):=aG
def g415B1:aw:=
 (.seq
 (.ah [a_ 53 52 51 (.bin .lss)] [0,4,10,50,51,52,53])
 (.seq
 (.cond (.t 53)
 .skip
 (.exit 2))
 (.seq
 (.block 3
 (.seq
 (.ah [ae 54 52,
 a_ 55 50 52 (.aH 14),
 aK 56 55 (.aS 14 true),
 dG 13 [a9,fh,dN,a9,a9,fh,a9,dN,dN,a9,fh,a9,a9,dN],
 ae 12 54,
 bl 13 56 13 0 14] [0,4,10,12,13,50,51,52])
 (.seq
 (.seq
 (.ah [aV 57 13 2,
 a8 58 57 13 2 1 false,
 aK 59 58 .len,
 ae 60 0,
 ae 61 10,
 a_ 62 60 61 (.aH 4),
 aV 63 62 3,
 aK 64 63 (.aS 1 false),
 ae 65 12,
 a_ 66 64 65 (.aH 3),
 aV 67 66 2,
 aK 68 67 (.aS 1 false),
 aK 69 68 .len,
 a_ 70 59 69 (.bin .neq)] [0,4,10,13,50,51,52,70])
 (.cond (.t 70)
 (.seq
 (.ah [aV 71 13 0,
 a8 72 71 13 0 1 false,
 bs 73 [k_ 8,.t 72] (.build [a9,a9] [(0,1),(1,1)]),
 bl 4 73 4 0 2] [4])
 .ret)
 .skip))
 (.seq
 (.ah [aV 74 13 2,
 a8 75 74 13 2 1 false,
 aK 76 75 .len,
 bb 77 (k_ 0)] [0,4,10,13,50,51,52,75,76,77])
 (.block 4
 g415L2)))))
 (.ah [bo 92 52 1 (.bin .add),
 ae 52 92] [0,4,10,50,51,52]))))
def g415L1:aw:=.loop [0,4,10,50,51,52] g415B1
theorem g415L1e: cl AP g415L1 st=after (cl AP g415L1) (cl AP g415B1 (norm (restrict [0,4,10,50,51,52] st))):=aG
def g415:aC:=⟨2,94,[.c 4 2 true],
 (.seq
 (.ah [bz 3 1 (.box 3 11),
 dG 4 [a9,a9]] [0,3,4])
 (.seq
 (.seq
 (.ah [aV 16 3 5,
 a8 17 16 3 5 1 false,
 aK 18 17 .len,
 bb 19 (k_ 0)] [0,3,4,17,18,19])
 (.block 0
 g415L0))
 (.seq
 (.ah [ae 38 0,
 aV 39 3 5,
 a8 40 39 3 5 1 false,
 dS 41 38 40 (.aB 407),
 ae 37 41,
 aK 42 37 (.ext 0),
 aK 43 37 (.ext 1),
 ae 10 42,
 ae 11 43] [0,3,4,10,11])
 (.seq
 (.seq
 (.ah [ae 44 11,
 aK 45 44 (.un .not)] [0,3,4,10,45])
 (.cond (.t 45)
 (.seq
 (.ah [aV 46 3 1,
 a8 47 46 3 1 1 false,
 bs 48 [k_ 10,.t 47] (.build [a9,a9] [(0,1),(1,1)]),
 bl 4 48 4 0 2] [4])
 .ret)
 .skip))
 (.seq
 (.seq
 (.ah [aV 49 3 5,
 a8 50 49 3 5 1 false,
 aK 51 50 .len,
 bb 52 (k_ 0)] [0,4,10,50,51,52])
 (.block 2
 g415L1))
 (.seq
 (.ah [bs 93 [] (.build [a9,a9] []),
 bl 4 93 4 0 2] [4])
 .ret)))))),none,false⟩
def g416B0:aw:=
 (.seq
 (.ah [a_ 9 8 7 (.bin .lss)] [0,1,7,8,9])
 (.seq
 (.cond (.t 9)
 .skip
 (.exit 0))
 (.seq
 (.block 1
 (.seq
 (.ah [ae 10 8,
 ae 5 10] [0,1,5,7,8])
 (.seq
 (.ah [ae 11 1,
 ae 12 0,
 ae 13 5,
 a_ 14 12 13 (.aH 4),
 bz 15 14 (.aR 4 true),
 dS 16 11 15 .eB] [0,1,5,7,8,16])
 (.cond (.t 16)
 (.seq
 (.ah [ae 17 5,
 ae 4 17] [4])
 .ret)
 .skip))))
 (.ah [bo 18 8 1 (.bin .add),
 ae 8 18] [0,1,7,8]))))
def g416L0:aw:=.loop [0,1,7,8] g416B0
theorem g416L0e: cl AP g416L0 st=after (cl AP g416L0) (cl AP g416B0 (norm (restrict [0,1,7,8] st))):=aG
def g416:aC:=⟨2,19,[.t 4],
 (.seq
 (.ah [bb 4 (k_ 0)] [0,1])
 (.seq
 (.seq
 (.ah [ae 6 0,
 aK 7 6 .len,
 bb 8 (k_ 0)] [0,1,7,8])
 (.block 0
 g416L0))
 (.seq
 (.ah [bb 4 (k_ (-1))] [4])
 .ret))),none,false⟩
def g417:aC:=⟨1,8,[.t 3],
 (.seq
 (.ah [bz 2 0 (.box 2 4),
 bb 3 F_] [1,2])
 (.seq
 (.ah [aV 4 2 3,
 a8 5 4 2 3 1 false,
 bz 6 1 (.aR 1 false),
 cg 7 [.t 5,.t 6,.c (.fn 419 [])] (.aA 418 []),
 ae 3 7] [3])
 .ret)),none,false⟩
def g418B0:aw:=
 (.seq
 (.ah [a_ 18 17 16 (.bin .lss)] [1,2,15,16,17,18])
 (.seq
 (.cond (.t 18)
 .skip
 (.exit 0))
 (.seq
 (.block 1
 (.seq
 (.ah [ae 19 17,
 a_ 20 15 17 (.aH 3),
 bz 21 20 (.aR 3 true),
 dG 8 [a9,fh,dN],
 ae 7 19,
 bl 8 21 8 0 3] [1,2,7,8,15,16,17])
 (.seq
 (.ah [ae 22 1,
 ae 23 7,
 a_ 24 22 23 (.aH 14),
 bz 25 24 (.aR 14 true),
 dG 9 [a9,fh,dN,a9,a9,fh,a9,dN,dN,a9,fh,a9,a9,dN],
 bl 9 25 9 0 14] [1,2,8,9,15,16,17])
 (.seq
 (.ah [ae 26 2,
 a8 27 8 8 0 3 true,
 a8 28 9 9 0 14 true,
 cg 29 [.t 26,.t 27,.t 28] .eB,
 aK 30 29 (.un .not)] [1,2,15,16,17,30])
 (.cond (.t 30)
 (.seq
 (.ah [bb 6 F_] [6])
 .ret)
 .skip)))))
 (.ah [bo 31 17 1 (.bin .add),
 ae 17 31] [1,2,15,16,17]))))
def g418L0:aw:=.loop [1,2,15,16,17] g418B0
theorem g418L0e: cl AP g418L0 st=after (cl AP g418L0) (cl AP g418B0 (norm (restrict [1,2,15,16,17] st))):=aG
def g418:aC:=⟨3,32,[.t 6],
 (.seq
 (.ah [bb 6 F_] [0,1,2])
 (.seq
 (.seq
 (.ah [ae 10 0,
 aK 11 10 .len,
 ae 12 1,
 aK 13 12 .len,
 a_ 14 11 13 (.bin .neq)] [0,1,2,14])
 (.cond (.t 14)
 (.seq
 (.ah [bb 6 F_] [6])
 .ret)
 .skip))
 (.seq
 (.seq
 (.ah [ae 15 0,
 aK 16 15 .len,
 bb 17 (k_ 0)] [1,2,15,16,17])
 (.block 0
 g418L0))
 (.seq
 (.ah [bb 6 T_] [6])
 .ret)))),none,false⟩
def g419:aC:=⟨2,10,[.t 4],
 (.seq
 (.ah [bz 2 0 (.box 2 3),
 bz 3 1 (.box 3 14),
 bb 4 F_] [2,3])
 (.seq
 (.ah [aV 5 2 1,
 a8 6 5 2 1 1 false,
 aV 7 3 1,
 a8 8 7 3 1 1 false,
 a_ 9 6 8 (.bin .eql),
 ae 4 9] [4])
 .ret)),none,false⟩
def g421B0:aw:=
 (.seq
 (.ah [a_ 9 8 7 (.bin .lss)] [0,1,7,8,9])
 (.seq
 (.cond (.t 9)
 .skip
 (.exit 0))
 (.seq
 (.block 1
 (.seq
 (.ah [ae 10 8,
 ae 5 10] [0,1,5,7,8])
 (.seq
 (.ah [ae 11 1,
 ae 12 0,
 ae 13 5,
 a_ 14 12 13 (.aH 1),
 bz 15 14 (.aR 1 false),
 dS 16 11 15 .eB] [0,1,5,7,8,16])
 (.cond (.t 16)
 (.seq
 (.ah [ae 17 5,
 ae 4 17] [4])
 .ret)
 .skip))))
 (.ah [bo 18 8 1 (.bin .add),
 ae 8 18] [0,1,7,8]))))
def g421L0:aw:=.loop [0,1,7,8] g421B0
theorem g421L0e: cl AP g421L0 st=after (cl AP g421L0) (cl AP g421B0 (norm (restrict [0,1,7,8] st))):=aG
def g421:aC:=⟨2,19,[.t 4],
 (.seq
 (.ah [bb 4 (k_ 0)] [0,1])
 (.seq
 (.seq
 (.ah [ae 6 0,
 aK 7 6 .len,
 bb 8 (k_ 0)] [0,1,7,8])
 (.block 0
 g421L0))
 (.seq
 (.ah [bb 4 (k_ (-1))] [4])
 .ret))),none,false⟩
def g423B0:aw:=
 (.seq
 (.seq
 (.ah [ae 26 12,
 ae 27 3,
 aK 28 27 .len,
 a_ 29 26 28 (.bin .lss)] [0,1,2,3,4,11,12,29])
 (.cond (.t 29)
 .skip
 (.exit 0)))
 (.seq
 (.block 1
 (.ah [ae 32 11,
 bs 33 [.c (.pv (.str [120])),.c (.pv (.str [121])),.c (.pv (.str [122])),.c (.pv (.str [102])),.c (.pv (.str [103])),.c (.pv (.str [105,100]))] (.a6 1),
 ae 34 3,
 ae 35 12,
 a_ 36 34 35 (.aH 1),
 aK 37 36 (.aS 1 false),
 cg 38 [.t 37,k_ 6] (.aB 26),
 a_ 39 33 38 (.aH 1),
 aK 40 39 (.aS 1 false),
 aK 41 40 (.a6 1),
 dS 42 32 41 (.append 1 16),
 ae 11 42] [0,1,2,3,4,11,12]))
 (.ah [ae 30 12,
 bo 31 30 1 (.bin .add),
 ae 12 31] [0,1,2,3,4,11,12])))
def g423L0:aw:=.loop [0,1,2,3,4,11,12] g423B0
theorem g423L0e: cl AP g423L0 st=after (cl AP g423L0) (cl AP g423B0 (norm (restrict [0,1,2,3,4,11,12] st))):=aG
def g423:aC:=⟨5,84,[.t 10],
 (.seq
 (.ah [bb 10 F_] [0,1,2,3,4])
 (.seq
 (.seq
 (.ah [cg 16 [] (.aB 401),
 aK 17 16 (.un .not)] [0,1,2,3,4,17])
 (.cond (.t 17)
 (.seq
 (.ah [bb 10 F_] [10])
 .ret)
 .skip))
 (.seq
 (.seq
 (.ah [ae 18 2,
 bz 19 18 (.aB 15),
 aK 20 19 (.un .not),
 ae 21 20,
 bj 22 21 false 3 (.v (.mv)),
 bj 23 21 false 22 (.v (.len)),
 dU 24 21 false [.t 23,k_ 5] (.v (.bin .gtr)),
 bs 25 [.t 21,T_,.t 24] .pick] [0,1,2,3,4,25])
 (.cond (.t 25)
 (.seq
 (.ah [bb 10 T_] [10])
 .ret)
 .skip))
 (.seq
 (.ah [bs 11 [.c (.bR [])] .mv] [0,1,2,3,4,11])
 (.seq
 (.seq
 (.ah [bb 12 (k_ 0)] [0,1,2,3,4,11,12])
 (.block 0
 g423L0))
 (.seq
 (.ah [ae 43 2,
 aK 44 43 (.build [dN,a9] [(0,1)]),
 bz 45 44 (.kX 2),
 ae 13 45] [0,1,4,11,13])
 (.seq
 (.ah [ae 47 13,
 ae 48 0,
 bz 49 48 (.aB 32),
 cg 50 [.t 47,.t 49,k_ 4] (.aA 247 []),
 ae 51 4,
 dS 52 50 51 (.aB 431),
 cg 53 [.t 52,k_ 1] (.aB 402),
 ae 46 53,
 aK 54 46 (.ext 0),
 aK 55 46 (.ext 1),
 dG 14 e8,
 bl 14 54 14 0 11,
 ae 15 55] [0,1,11,14])
 (.seq
 (.ah [ae 56 1,
 bz 57 56 (.aB 32),
 ae 58 11,
 a8 59 14 14 0 11 true,
 cg 60 [.t 57,.t 58,.t 59] (.aB 405),
 ae 61 1,
 bz 62 61 (.aB 32),
 ae 63 11,
 a8 64 14 14 0 11 true,
 cg 65 [.t 62,.t 63,.t 64] (.aB 366),
 a_ 66 60 65 (.ES [.int,.int] false),
 ae 67 66,
 bj 68 67 true 0 (.v (.mv)),
 bj 69 67 true 68 (.aB 32),
 bj 70 67 true 11 (.v (.mv)),
 dU 71 67 true [.c (.pv (.str [120])),.c (.pv (.str [121])),.c (.pv (.str [122])),.c (.pv (.str [102])),.c (.pv (.str [103])),.c (.pv (.str [105,100])),.c (.pv (.str [118,49])),.c (.pv (.str [118,50]))] (.v (.a6 1)),
 dU 72 67 true [.t 70,.t 71] (.append 1 16),
 bj 73 67 true 14 (.de 14 0 11 true),
 dU 74 67 true [.t 69,.t 72,.t 73] (.aB 405),
 bj 75 67 true 0 (.v (.mv)),
 bj 76 67 true 75 (.aB 32),
 bj 77 67 true 11 (.v (.mv)),
 dU 78 67 true [.c (.pv (.str [120])),.c (.pv (.str [121])),.c (.pv (.str [122])),.c (.pv (.str [102])),.c (.pv (.str [103])),.c (.pv (.str [105,100])),.c (.pv (.str [118,49])),.c (.pv (.str [118,50]))] (.v (.a6 1)),
 dU 79 67 true [.t 77,.t 78,.t 72] (.eg 1 16),
 bj 80 67 true 14 (.de 14 0 11 true),
 dU 81 67 true [.t 76,.t 79,.t 80] (.aB 366),
 dU 82 67 true [.t 74,.t 81] (.v (.ES [.int,.int] false)),
 bs 83 [.t 67,.t 82,F_] .pick,
 ae 10 83] [10])
 .ret)))))))),none,false⟩
def g431B0:aw:=
 (.seq
 (.seq
 (.ah [ae 10 6,
 ae 11 5,
 aK 12 11 .len,
 a_ 13 10 12 (.bin .lss)] [1,2,4,5,6,13])
 (.cond (.t 13)
 .skip
 (.exit 0)))
 (.seq
 (.block 1
 (.ah [ae 16 5,
 ae 17 6,
 ae 18 5,
 ae 19 6,
 a_ 20 18 19 (.aH 11),
 bz 21 20 (.aR 11 true),
 ae 22 1,
 ae 23 6,
 a_ 24 22 23 (.bin .add),
 dS 25 21 24 (.aB 431),
 a_ 26 16 17 (.aH 11),
 qp [.t 26,.t 25] (.cz 11)] [1,2,4,5,6]))
 (.ah [ae 14 6,
 bo 15 14 1 (.bin .add),
 ae 6 15] [1,2,4,5,6])))
def g431L0:aw:=.loop [1,2,4,5,6] g431B0
theorem g431L0e: cl AP g431L0 st=after (cl AP g431L0) (cl AP g431B0 (norm (restrict [1,2,4,5,6] st))):=aG
def g431:aC:=⟨2,98,[.c 4 11 true],
 (.seq
 (.ah [bz 2 0 (.box 2 11),
 dG 4 e8] [1,2,4])
 (.seq
 (.ah [a8 8 2 2 0 11 true,
 bz 9 8 (.aA 145 []),
 ae 5 9] [1,2,4,5])
 (.seq
 (.seq
 (.ah [bb 6 (k_ 0)] [1,2,4,5,6])
 (.block 0
 g431L0))
 (.seq
 (.ah [a8 27 2 2 0 11 true,
 ae 28 5,
 dS 29 27 28 (.eI 374),
 bl 2 29 2 0 11] [1,2,4])
 (.seq
 (.seq
 (.ah [aV 30 2 5,
 a8 31 30 2 5 1 false,
 aK 32 31 .len,
 bo 33 32 0 (.bin .eql)] [1,2,4,33])
 (.cond (.t 33)
 (.seq
 (.ah [a8 34 2 2 0 11 true,
 bl 4 34 4 0 11] [4])
 .ret)
 .skip))
 (.seq
 (.ah [aV 35 2 5,
 a8 36 35 2 5 1 false,
 cg 37 [.c (.bR []),.t 36] (.cI 14 200 true),
 aV 38 2 5,
 bl 38 37 2 5 1] [1,2,4])
 (.seq
 (.ah [ae 39 1,
 aV 40 2 5,
 a8 41 40 2 5 1 false,
 aK 42 41 .len,
 dS 43 39 42 (.aB 26),
 ae 7 43] [1,2,4,7])
 (.seq
 (.seq
 (.ah [ae 44 1,
 cg 45 [.t 44,k_ 7] (.aB 26)] [2,4,7,45])
 (.block 2
 (.seq
 (.ah [bo 47 45 1 (.bin .eql),
 ae 46 47] [2,4,7,45,46])
 (.cond (.t 46)
 (.ah [aV 48 2 5,
 a8 49 48 2 5 1 false,
 ae 50 7,
 aV 51 2 5,
 a8 52 51 2 5 1 false,
 ae 53 7,
 a_ 54 52 53 (.aH 14),
 aV 55 54 2,
 bz 56 55 (.aR 1 false),
 cg 57 [.c (.bR []),.t 56] (.append 1 16),
 bs 58 [.c (.pv (.str [120]))] (.a6 1),
 dS 59 57 58 (.append 1 16),
 a_ 60 49 50 (.aH 14),
 aV 61 60 2,
 qp [.t 61,.t 59] (.cz 1)] [2,4])
 (.seq
 (.ah [bo 63 45 2 (.bin .eql),
 ae 62 63] [2,4,7,45,62])
 (.cond (.t 62)
 (.ah [aV 64 2 5,
 a8 65 64 2 5 1 false,
 ae 66 7,
 a_ 67 65 66 (.aH 14),
 aV 68 67 1,
 qp [.t 68,.c (.pv (.str [71,111,110,101]))] (.cz 1)] [2,4])
 (.seq
 (.ah [bo 70 45 3 (.bin .eql),
 ae 69 70] [2,4,7,45,69])
 (.cond (.t 69)
 (.ah [aV 71 2 5,
 a8 72 71 2 5 1 false,
 ae 73 7,
 aV 74 2 5,
 a8 75 74 2 5 1 false,
 aV 76 2 5,
 a8 77 76 2 5 1 false,
 bo 78 77 0 (.aH 14),
 bz 79 78 (.aR 14 true),
 aV 80 2 5,
 a8 81 80 2 5 1 false,
 ae 82 7,
 a_ 83 81 82 (.aH 14),
 bz 84 83 (.aR 14 true),
 a_ 85 72 73 (.aH 14),
 qp [.t 85,.t 79] (.cz 14),
 bo 86 75 0 (.aH 14),
 qp [.t 86,.t 84] (.cz 14)] [2,4])
 (.seq
 (.ah [bo 88 45 4 (.bin .eql),
 ae 87 88] [2,4,7,87])
 (.cond (.t 87)
 (.seq
 (.ah [aV 89 2 5,
 a8 90 89 2 5 1 false,
 ae 91 7,
 a_ 92 90 91 (.kW 14 false true),
 aV 93 2 5,
 bl 93 92 2 5 1] [2,4,7])
 (.seq
 (.ah [ae 94 7,
 bo 95 94 0 (.bin .eql)] [2,4,95])
 (.cond (.t 95)
 (.ah [bs 96 [k_ 10] (.build e8 [(0,1)]),
 bl 2 96 2 0 11] [2,4])
 .skip)))
 .skip))))))))))
 (.seq
 (.ah [a8 97 2 2 0 11 true,
 bl 4 97 4 0 11] [4])
 .ret))))))))),none,false⟩
end
def AP (g:Nat):Option aC:=match g with
 | 15=>some g15
 | 26=>some g26
 | 27=>some g27
 | 32=>some g32
 | 34=>some g34
 | 52=>some g52
 | 62=>some g62
 | 68=>some g68
 | 69=>some g69
 | 77=>some g77
 | 78=>some g78
 | 79=>some g79
 | 106=>some g106
 | 108=>some g108
 | 109=>some g109
 | 110=>some g110
 | 111=>some g111
 | 112=>some g112
 | 117=>some g117
 | 118=>some g118
 | 119=>some g119
 | 120=>some g120
 | 121=>some g121
 | 122=>some g122
 | 123=>some g123
 | 124=>some g124
 | 125=>some g125
 | 126=>some g126
 | 127=>some g127
 | 128=>some g128
 | 129=>some g129
 | 130=>some g130
 | 131=>some g131
 | 132=>some g132
 | 133=>some g133
 | 134=>some g134
 | 135=>some g135
 | 136=>some g136
 | 137=>some g137
 | 138=>some g138
 | 139=>some g139
 | 140=>some g140
 | 141=>some g141
 | 142=>some g142
 | 143=>some g143
 | 144=>some g144
 | 145=>some g145
 | 146=>some g146
 | 175=>some g175
 | 185=>some g185
 | 186=>some g186
 | 190=>some g190
 | 191=>some g191
 | 214=>some g214
 | 215=>some g215
 | 216=>some g216
 | 217=>some g217
 | 223=>some g223
 | 247=>some g247
 | 250=>some g250
 | 364=>some g364
 | 365=>some g365
 | 366=>some g366
 | 374=>some g374
 | 379=>some g379
 | 380=>some g380
 | 390=>some g390
 | 400=>some g400
 | 401=>some g401
 | 402=>some g402
 | 404=>some g404
 | 405=>some g405
 | 406=>some g406
 | 407=>some g407
 | 408=>some g408
 | 409=>some g409
 | 410=>some g410
 | 411=>some g411
 | 412=>some g412
 | 413=>some g413
 | 414=>some g414
 | 415=>some g415
 | 416=>some g416
 | 417=>some g417
 | 418=>some g418
 | 419=>some g419
 | 421=>some g421
 | 423=>some g423
 | 431=>some g431
 | _=>none
end Go.Ab
