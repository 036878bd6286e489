import Derived.Test.YtcjggpmnbcfedaaDoorAbEv
import Derived.Test.YtcjggpmnbcfedaaDoorAbPrim
/-
  The program's functions in slim code, as a program of ours printed them; what they have to do with the given program is proved in the text Impl.
-/
namespace Go.Ab
@[simp] abbrev ah (d s:Nat):dd:=⟨some d,none,[.t s],.v .mv⟩
@[simp] abbrev a0 (d x:Nat) (k:AK):dd:=⟨some d,none,[.t x],k⟩
@[simp] abbrev ir (d x y:Nat) (k:AK):dd:=⟨some d,none,[.t x,.t y],k⟩
@[simp] abbrev aS (d x:Nat) (k:zM):dd:=⟨some d,none,[.t x],.v k⟩
@[simp] abbrev bW (d x y:Nat) (k:zM):dd:=⟨some d,none,[.t x,.t y],.v k⟩
@[simp] abbrev aP (d:Nat) (a:List dD) (k:zM):dd:=⟨some d,none,a,.v k⟩
@[simp] abbrev cH (d:Nat) (a:List dD) (k:AK):dd:=⟨some d,none,a,k⟩
@[simp] abbrev DM (a:List dD) (k:AK):dd:=⟨none,none,a,k⟩
@[simp] abbrev d7 (d j:Nat) (b:Bool) (a:List dD) (k:AK):dd:=⟨some d,some (j,b),a,k⟩
@[simp] abbrev aX (d s n:Nat):dd:=⟨some d,none,[.t s],.v (.bE n)⟩
@[simp] abbrev bq (d s a b c:Nat) (t:Bool):dd:=⟨some d,none,[.t s],.cD a b c t⟩
@[simp] abbrev bK (s v a b c:Nat):dd:=⟨none,none,[.t s,.t v],.ee a b c⟩
@[simp] abbrev k_ (n:Int):dD:=.c (.pv (.int .i64 n))
@[simp] abbrev T_:dD:=.c (.pv (.bool true))
@[simp] abbrev F_:dD:=.c (.pv (.bool false))
@[simp] abbrev bb (d x:Nat) (n:Int) (k:zM):dd:=⟨some d,none,[.t x,.c (.pv (.int .i64 n))],.v k⟩
@[simp] abbrev cB (d:Nat) (x:dD):dd:=⟨some d,none,[x],.v .mv⟩
@[simp] abbrev a6 (d j:Nat) (b:Bool) (x:Nat) (k:AK):dd:=⟨some d,some (j,b),[.t x],k⟩
@[simp] abbrev ed (d:Nat) (l:List PV):dd:=⟨some d,none,[],.alloc d l⟩
@[simp] abbrev bL:PV:=.int .i64 0
@[simp] abbrev gO:PV:=.str []
@[simp] abbrev eD:PV:=.a8 []
@[simp] abbrev kq:List PV:=[bL,gO,bL,bL,eD]
@[simp] abbrev fp:List PV:=[bL,bL,gO,bL,eD,eD,bL,gO,bL,bL,eD]
@[simp] abbrev DN:List PV:=[bL,gO,eD,eD]
@[simp] abbrev GF:List PV:=[bL,bL,gO,bL,bL,eD]
section
variable {AP:Nat→Option aB} {st:St}
def g15:aB:=⟨1,6,[.t 2],
 (.seq
 (.aq [cB 2 F_] [0])
 (.seq
 (.aq [ah 3 0,
 aS 4 3 .len,
 bb 5 4 60 (.bin .leq),
 ah 2 5] [2])
 .ret)),none,false⟩
def g26:aB:=⟨2,16,[.t 4],
 (.seq
 (.aq [cB 4 (k_ 0)] [0,1])
 (.seq
 (.seq
 (.aq [ah 5 1,
 bb 6 5 1 (.bin .lss)] [0,1,6])
 (.cond (.t 6)
 (.seq
 (.aq [cB 4 (k_ 0)] [4])
 .ret)
 .skip))
 (.seq
 (.aq [ah 7 0,
 ah 8 1,
 bW 9 7 8 (.bin .rem),
 ah 0 9] [0,1])
 (.seq
 (.seq
 (.aq [ah 10 0,
 bb 11 10 0 (.bin .lss)] [0,1,11])
 (.cond (.t 11)
 (.aq [ah 12 0,
 ah 13 1,
 bW 14 12 13 (.bin .add),
 ah 0 14] [0])
 .skip))
 (.seq
 (.aq [ah 15 0,
 ah 4 15] [4])
 .ret))))),none,false⟩
def g27B0:aE:=
 (.seq
 (.seq
 (.aq [ah 61 12,
 aX 62 10 2,
 bq 63 62 10 2 1 false,
 aS 64 63 .len,
 bW 65 61 64 (.bin .lss)] [0,1,2,3,8,10,11,12,65])
 (.cond (.t 65)
 .skip
 (.exit 1)))
 (.seq
 (.block 2
 (.aq [ah 68 11,
 ah 69 0,
 ah 70 1,
 ah 71 2,
 ah 72 3,
 bb 73 72 1 (.bin .sub),
 cH 74 [.t 69,.t 70,.t 71,.t 73] (.az 27 []),
 aS 75 74 (.bf 5),
 ir 76 68 75 (.append 5 64),
 ah 11 76] [0,1,2,3,8,10,11,12]))
 (.aq [ah 66 12,
 bb 67 66 1 (.bin .add),
 ah 12 67] [0,1,2,3,8,10,11,12])))
def g27L0:aE:=.loop [0,1,2,3,8,10,11,12] g27B0
theorem g27L0e: cl AP g27L0 st=after (cl AP g27L0) (cl AP g27B0 (norm (restrict [0,1,2,3,8,10,11,12] st))):=aW
def g27:aB:=⟨4,95,[.c 8 5 true],
 (.seq
 (.aq [ed 8 kq] [0,1,2,3,8])
 (.seq
 (.aq [ah 14 0,
 cH 15 [.t 14,k_ 7] (.az 68 []),
 ah 9 15] [0,1,2,3,8,9])
 (.seq
 (.block 0
 (.seq
 (.aq [ah 17 9,
 bb 18 17 3 (.bin .lss),
 ah 19 18,
 a6 20 19 true 2 (.v (.mv)),
 a6 21 19 true 20 (.v (.len)),
 d7 22 19 true [.t 21,k_ 0] (.v (.bin .gtr)),
 aP 23 [.t 19,.t 22,F_] .pick,
 ah 16 23] [0,1,2,3,8,9,16])
 (.cond (.t 16)
 (.seq
 (.aq [ah 24 2,
 ah 25 0,
 ah 26 2,
 aS 27 26 .len,
 ir 28 25 27 (.az 68 []),
 bW 29 24 28 (.aO 5),
 a0 30 29 (.aJ 5 true),
 bK 8 30 8 0 5] [8])
 .ret)
 (.seq
 (.aq [ah 32 9,
 bb 33 32 4 (.bin .lss),
 ah 34 33,
 a6 35 34 false 3 (.v (.mv)),
 d7 36 34 false [.t 35,k_ 1] (.v (.bin .lss)),
 aP 37 [.t 34,T_,.t 36] .pick,
 ah 31 37] [0,1,2,3,8,9,31])
 (.cond (.t 31)
 (.seq
 (.aq [cH 38 [] (.aA 34),
 bK 8 38 8 0 5] [8])
 .ret)
 (.seq
 (.seq
 (.aq [ah 40 9,
 bb 41 40 4 (.bin .eql),
 ah 42 41,
 a6 43 42 true 1 (.v (.mv)),
 a6 44 42 true 43 (.v (.len)),
 d7 45 42 true [.t 44,k_ 0] (.v (.bin .gtr)),
 aP 46 [.t 42,.t 45,F_] .pick,
 ah 39 46] [0,1,2,3,8,9,39])
 (.cond (.t 39)
 .skip
 (.aq [ah 47 9,
 bb 48 47 5 (.bin .eql),
 ah 49 48,
 a6 50 49 true 1 (.v (.mv)),
 a6 51 49 true 50 (.v (.len)),
 d7 52 49 true [.t 51,k_ 0] (.v (.bin .gtr)),
 aP 53 [.t 49,.t 52,F_] .pick,
 ah 39 53] [0,1,2,3,8,39])))
 (.cond (.t 39)
 (.seq
 (.aq [ah 54 1,
 ah 55 0,
 ah 56 1,
 aS 57 56 .len,
 ir 58 55 57 (.az 68 []),
 bW 59 54 58 (.aO 4),
 a0 60 59 (.aJ 4 true),
 ed 10 DN,
 bK 10 60 10 0 4] [0,1,2,3,8,10])
 (.seq
 (.aq [aP 11 [.c (.cg [])] .mv] [0,1,2,3,8,10,11])
 (.seq
 (.seq
 (.aq [cB 12 (k_ 0)] [0,1,2,3,8,10,11,12])
 (.block 1
 g27L0))
 (.seq
 (.aq [aX 77 10 1,
 bq 78 77 10 1 1 false,
 ah 79 11,
 ir 80 78 79 (.aA 62),
 bK 8 80 8 0 5] [8])
 .ret))))
 .skip)))))))
 (.seq
 (.aq [ah 81 0,
 ah 82 1,
 ah 83 2,
 ah 84 3,
 bb 85 84 1 (.bin .sub),
 cH 86 [.t 81,.t 82,.t 83,.t 85] (.az 27 []),
 ed 13 kq,
 bK 13 86 13 0 5] [0,1,2,3,8,13])
 (.seq
 (.aq [bq 87 13 13 0 5 true,
 ah 88 0,
 ah 89 1,
 ah 90 2,
 ah 91 3,
 bb 92 91 1 (.bin .sub),
 cH 93 [.t 88,.t 89,.t 90,.t 92] (.az 27 []),
 ir 94 87 93 (.aA 69),
 bK 8 94 8 0 5] [8])
 .ret))))),none,false⟩
def g32B0:aE:=
 (.seq
 (.seq
 (.aq [ah 21 5,
 ah 22 3,
 aS 23 22 .len,
 bW 24 21 23 (.bin .lss)] [0,3,4,5,24])
 (.cond (.t 24)
 .skip
 (.exit 0)))
 (.seq
 (.block 1
 (.seq
 (.aq [ah 27 5,
 bb 28 27 1 (.bin .neq),
 ah 29 28,
 a6 30 29 true 0 (.v (.mv)),
 a6 31 29 true 5 (.v (.mv)),
 a6 32 29 true 31 (.v (.conv .u64)),
 d7 33 29 true [.t 30,.t 32] (.v (.bin .shr)),
 d7 34 29 true [.t 33,k_ 1] (.v (.bin .and)),
 d7 35 29 true [.t 34,k_ 1] (.v (.bin .eql)),
 aP 36 [.t 29,.t 35,F_] .pick] [0,3,4,5,36])
 (.cond (.t 36)
 (.aq [ah 37 4,
 ah 38 3,
 ah 39 5,
 bW 40 38 39 (.aO 4),
 aS 41 40 (.aR 4 true),
 aS 42 41 (.bf 4),
 ir 43 37 42 (.append 4 72),
 ah 4 43] [0,3,4,5])
 .skip)))
 (.aq [ah 25 5,
 bb 26 25 1 (.bin .add),
 ah 5 26] [0,3,4,5])))
def g32L0:aE:=.loop [0,3,4,5] g32B0
theorem g32L0e: cl AP g32L0 st=after (cl AP g32L0) (cl AP g32B0 (norm (restrict [0,3,4,5] st))):=aW
def g32:aB:=⟨1,45,[.t 2],
 (.seq
 (.aq [aP 2 [.c (.cg [])] .mv] [0])
 (.seq
 (.aq [cH 6 [] (.aA 79),
 ah 3 6] [0,3])
 (.seq
 (.aq [aP 4 [.c (.cg [])] .mv] [0,3,4])
 (.seq
 (.seq
 (.aq [ah 7 0,
 bb 8 7 2 (.bin .and),
 bb 9 8 0 (.bin .neq),
 ah 10 9,
 a6 11 10 false 0 (.v (.mv)),
 d7 12 10 false [.t 11,k_ 64] (.v (.bin .and)),
 d7 13 10 false [.t 12,k_ 0] (.v (.bin .neq)),
 aP 14 [.t 10,T_,.t 13] .pick] [0,3,4,14])
 (.cond (.t 14)
 (.aq [ah 15 4,
 ah 16 3,
 bb 17 16 1 (.aO 4),
 aS 18 17 (.aR 4 true),
 aS 19 18 (.bf 4),
 ir 20 15 19 (.append 4 72),
 ah 4 20] [0,3,4])
 .skip))
 (.seq
 (.seq
 (.aq [cB 5 (k_ 0)] [0,3,4,5])
 (.block 0
 g32L0))
 (.seq
 (.aq [ah 44 4,
 ah 2 44] [2])
 .ret)))))),none,false⟩
def g34:aB:=⟨0,2,[.c 0 5 true],
 (.seq
 (.aq [ed 0 kq] [0])
 (.seq
 (.aq [cH 1 [.c (.pv (.str [73,110,116])),.c (.cg [])] (.aA 62),
 bK 0 1 0 0 5] [0])
 .ret)),none,false⟩
def g52B0:aE:=
 (.seq
 (.seq
 (.aq [ah 5 4,
 aX 6 1 4,
 bq 7 6 1 4 1 false,
 aS 8 7 .len,
 bW 9 5 8 (.bin .lss)] [1,3,4,9])
 (.cond (.t 9)
 .skip
 (.exit 0)))
 (.seq
 (.block 1
 (.aq [ah 12 3,
 aX 13 1 4,
 bq 14 13 1 4 1 false,
 ah 15 4,
 bW 16 14 15 (.aO 5),
 aS 17 16 (.aR 5 true),
 a0 18 17 (.aA 52),
 aP 19 [k_ 1,.t 18] (.bin .add),
 bW 20 12 19 .mx,
 ah 3 20] [1,3,4]))
 (.aq [ah 10 4,
 bb 11 10 1 (.bin .add),
 ah 4 11] [1,3,4])))
def g52L0:aE:=.loop [1,3,4] g52B0
theorem g52L0e: cl AP g52L0 st=after (cl AP g52L0) (cl AP g52B0 (norm (restrict [1,3,4] st))):=aW
def g52:aB:=⟨1,22,[.t 2],
 (.seq
 (.aq [a0 1 0 (.box 1 5),
 cB 2 (k_ 0)] [1])
 (.seq
 (.aq [cB 3 (k_ 0)] [1,3])
 (.seq
 (.seq
 (.aq [cB 4 (k_ 0)] [1,3,4])
 (.block 0
 g52L0))
 (.seq
 (.aq [ah 21 3,
 ah 2 21] [2])
 .ret)))),none,false⟩
def g62:aB:=⟨2,9,[.c 4 5 true],
 (.seq
 (.aq [ed 4 kq] [0,1,4])
 (.seq
 (.aq [ah 5 0,
 ah 6 1,
 cH 7 [.c (.cg []),.t 6] (.append 5 64),
 aP 8 [k_ 4,.t 5,.t 7] (.build kq [(0,1),(1,1),(4,1)]),
 bK 4 8 4 0 5] [4])
 .ret)),none,false⟩
def g63:aB:=⟨1,5,[.c 2 5 true],
 (.seq
 (.aq [ed 2 kq] [0,2])
 (.seq
 (.aq [ah 3 0,
 aP 4 [k_ 1,.t 3] (.build kq [(0,1),(2,1)]),
 bK 2 4 2 0 5] [2])
 .ret)),none,false⟩
def g68:aB:=⟨2,35,[.t 4],
 (.seq
 (.aq [cB 4 (k_ 0)] [0,1])
 (.seq
 (.seq
 (.aq [ah 5 0,
 aS 6 5 .aI,
 aX 7 6 1,
 a0 8 7 (.aJ 1 false),
 ah 9 0,
 aS 10 9 .aI,
 aX 11 10 0,
 a0 12 11 (.aJ 1 false),
 aS 13 12 .len,
 bW 14 8 13 (.bin .geq)] [0,1,14])
 (.cond (.t 14)
 (.seq
 (.aq [cB 4 (k_ 0)] [4])
 .ret)
 .skip))
 (.seq
 (.aq [ah 15 0,
 aS 16 15 .aI,
 aX 17 16 1,
 a0 18 17 (.aJ 1 false),
 bb 19 18 1 (.bin .add),
 aS 20 15 .aI,
 aX 21 20 1,
 DM [.t 21,.t 19] (.dE 1)] [0,1])
 (.seq
 (.aq [ah 22 0,
 aS 23 22 .aI,
 aX 24 23 0,
 a0 25 24 (.aJ 1 false),
 ah 26 0,
 aS 27 26 .aI,
 aX 28 27 1,
 a0 29 28 (.aJ 1 false),
 bb 30 29 1 (.bin .sub),
 bW 31 25 30 (.aO 1),
 aS 32 31 (.aR 1 false),
 ah 33 1,
 ir 34 32 33 (.aA 26),
 ah 4 34] [4])
 .ret)))),none,false⟩
def g69:aB:=⟨2,9,[.c 4 5 true],
 (.seq
 (.aq [a0 2 0 (.box 2 5),
 a0 3 1 (.box 3 5),
 ed 4 kq] [2,3,4])
 (.seq
 (.aq [bq 5 2 2 0 5 true,
 bq 6 3 3 0 5 true,
 bW 7 5 6 (.bf 5),
 cH 8 [.c (.pv (.str [45,62])),.t 7] (.aA 62),
 bK 4 8 4 0 5] [4])
 .ret)),none,false⟩
def g72:aB:=⟨1,5,[.c 2 5 true],
 (.seq
 (.aq [ed 2 kq] [0,2])
 (.seq
 (.aq [ah 3 0,
 aP 4 [k_ 2,.t 3] (.build kq [(0,1),(2,1)]),
 bK 2 4 2 0 5] [2])
 .ret)),none,false⟩
def g77:aB:=⟨1,20,[.t 2],
 (.seq
 (.aq [cB 2 F_] [0])
 (.seq
 (.aq [ah 3 0,
 a0 4 3 (.aA 108),
 ah 5 4,
 a6 6 5 true 0 (.v (.mv)),
 d7 7 5 true [.t 6,k_ 0] (.v (.index)),
 a6 8 5 true 7 (.aA 109),
 aP 9 [.t 5,.t 8,F_] .pick,
 ah 10 9,
 a6 11 10 true 0 (.v (.mv)),
 a6 12 10 true 11 (.v (.gP)),
 d7 13 10 true [.t 12,k_ 12] (.v (.bin .leq)),
 aP 14 [.t 10,.t 13,F_] .pick,
 ah 15 14,
 a6 16 15 true 0 (.v (.mv)),
 a6 17 15 true 16 (.aA 110),
 a6 18 15 true 17 (.v (.un .not)),
 aP 19 [.t 15,.t 18,F_] .pick,
 ah 2 19] [2])
 .ret)),none,false⟩
def g78:aB:=⟨1,15,[.t 2],
 (.seq
 (.aq [cB 2 F_] [0])
 (.seq
 (.aq [ah 3 0,
 a0 4 3 (.aA 108),
 ah 5 4,
 a6 6 5 true 0 (.v (.mv)),
 d7 7 5 true [.t 6,k_ 0] (.v (.index)),
 a6 8 5 true 7 (.aA 111),
 aP 9 [.t 5,.t 8,F_] .pick,
 ah 10 9,
 a6 11 10 true 0 (.v (.mv)),
 a6 12 10 true 11 (.v (.gP)),
 d7 13 10 true [.t 12,k_ 12] (.v (.bin .leq)),
 aP 14 [.t 10,.t 13,F_] .pick,
 ah 2 14] [2])
 .ret)),none,false⟩
def g79:aB:=⟨0,9,[.t 0],
 (.seq
 (.aq [aP 0 [.c (.cg [])] .mv] [])
 (.seq
 (.aq [cH 4 [.c (.pv (.str [100,97,116,97,32,66,111,111,108,32,61,32,84,114,117,101,32,124,32,70,97,108,115,101,59,32,100,97,116,97,32,79,112,116,105,111,110,32,97,32,61,32,78,111,110,101,32,124,32,83,111,109,101,32,97,59,32,100,97,116,97,32,76,105,115,116,32,97,32,61,32,78,105,108,32,124,32,67,111,110,115,32,97,32,40,76,105,115,116,32,97,41,59,100,97,116,97,32,80,97,105,114,32,97,32,98,32,61,32,80,97,105,114,32,97,32,98,59,32,100,97,116,97,32,78,97,116,32,61,32,90,101,114,111,32,124,32,83,117,99,99,32,78,97,116,59,32,100,97,116,97,32,70,117,110,32,97,32,98,32,61,32,70,117,110,32,40,97,32,45,62,32,98,41,59,32,100,97,116,97,32,84,119,111,32,97,32,61,32,66,111,116,104,32,97,32,97,32,124,32,79,110,101,32,40,79,112,116,105,111,110,32,97,41,59]))] (.aA 112),
 ah 3 4,
 aS 5 3 (.ext 0),
 aS 6 3 (.ext 1),
 ed 1 [eD,eD],
 ed 2 [bL,bL],
 bK 1 5 1 0 2,
 bK 2 6 2 0 2] [1])
 (.seq
 (.aq [aX 7 1 0,
 bq 8 7 1 0 1 false,
 ah 0 8] [0])
 .ret))),none,false⟩
def g106:aB:=⟨1,5,[.c 2 5 true],
 (.seq
 (.aq [ed 2 kq] [0,2])
 (.seq
 (.aq [ah 3 0,
 aP 4 [k_ 5,.t 3] (.build kq [(0,1),(1,1)]),
 bK 2 4 2 0 5] [2])
 .ret)),none,false⟩
def g108B0:aE:=
 (.seq
 (.seq
 (.aq [ah 4 3,
 ah 5 0,
 aS 6 5 .gP,
 bW 7 4 6 (.bin .lss)] [0,3,7])
 (.cond (.t 7)
 .skip
 (.exit 0)))
 (.seq
 (.block 1
 (.seq
 (.aq [ah 10 0,
 ah 11 3,
 bW 12 10 11 .index,
 a0 13 12 (.aA 117),
 aS 14 13 (.un .not)] [0,3,14])
 (.cond (.t 14)
 (.seq
 (.aq [cB 2 F_] [2])
 .ret)
 .skip)))
 (.aq [ah 8 3,
 bb 9 8 1 (.bin .add),
 ah 3 9] [0,3])))
def g108L0:aE:=.loop [0,3] g108B0
theorem g108L0e: cl AP g108L0 st=after (cl AP g108L0) (cl AP g108B0 (norm (restrict [0,3] st))):=aW
def g108:aB:=⟨1,17,[.t 2],
 (.seq
 (.aq [cB 2 F_] [0])
 (.seq
 (.seq
 (.aq [cB 3 (k_ 0)] [0,3])
 (.block 0
 g108L0))
 (.seq
 (.aq [ah 15 0,
 aP 16 [.t 15,.c (.pv (.str []))] (.bin .neq),
 ah 2 16] [2])
 .ret))),none,false⟩
def g109:aB:=⟨1,9,[.t 2],
 (.seq
 (.aq [cB 2 F_] [0])
 (.seq
 (.aq [ah 3 0,
 aP 4 [.t 3,.c (.pv (.int .u8 97))] (.bin .geq),
 ah 5 4,
 a6 6 5 true 0 (.v (.mv)),
 d7 7 5 true [.t 6,.c (.pv (.int .u8 122))] (.v (.bin .leq)),
 aP 8 [.t 5,.t 7,F_] .pick,
 ah 2 8] [2])
 .ret)),none,false⟩
def g110B0:aE:=
 (.seq
 (.seq
 (.aq [ah 6 4,
 ah 7 3,
 aS 8 7 .len,
 bW 9 6 8 (.bin .lss)] [0,3,4,9])
 (.cond (.t 9)
 .skip
 (.exit 0)))
 (.seq
 (.block 1
 (.seq
 (.aq [ah 12 3,
 ah 13 4,
 bW 14 12 13 (.aO 1),
 aS 15 14 (.aR 1 false),
 ah 16 0,
 bW 17 15 16 (.bin .eql)] [0,3,4,17])
 (.cond (.t 17)
 (.seq
 (.aq [cB 2 T_] [2])
 .ret)
 .skip)))
 (.aq [ah 10 4,
 bb 11 10 1 (.bin .add),
 ah 4 11] [0,3,4])))
def g110L0:aE:=.loop [0,3,4] g110B0
theorem g110L0e: cl AP g110L0 st=after (cl AP g110L0) (cl AP g110B0 (norm (restrict [0,3,4] st))):=aW
def g110:aB:=⟨1,18,[.t 2],
 (.seq
 (.aq [cB 2 F_] [0])
 (.seq
 (.aq [aP 5 [.c (.pv (.str [100,97,116,97])),.c (.pv (.str [108,101,116])),.c (.pv (.str [114,101,99])),.c (.pv (.str [105,110])),.c (.pv (.str [99,97,115,101])),.c (.pv (.str [111,102])),.c (.pv (.str [101,110,100]))] (.bf 1),
 ah 3 5] [0,3])
 (.seq
 (.seq
 (.aq [cB 4 (k_ 0)] [0,3,4])
 (.block 0
 g110L0))
 (.seq
 (.aq [cB 2 F_] [2])
 .ret)))),none,false⟩
def g111:aB:=⟨1,9,[.t 2],
 (.seq
 (.aq [cB 2 F_] [0])
 (.seq
 (.aq [ah 3 0,
 aP 4 [.t 3,.c (.pv (.int .u8 65))] (.bin .geq),
 ah 5 4,
 a6 6 5 true 0 (.v (.mv)),
 d7 7 5 true [.t 6,.c (.pv (.int .u8 90))] (.v (.bin .leq)),
 aP 8 [.t 5,.t 7,F_] .pick,
 ah 2 8] [2])
 .ret)),none,false⟩
def g112B0:aE:=
 (.seq
 (.seq
 (.aq [ah 20 7,
 aS 21 20 .aI,
 aX 22 21 2,
 a0 23 22 (.aJ 1 false),
 aS 24 23 (.un .not),
 ah 25 24,
 a6 26 25 true 7 (.v (.mv)),
 a6 27 25 true 26 (.v (.aI)),
 a6 28 25 true 27 (.v (.bE 1)),
 a6 29 25 true 28 (.aJ 1 false),
 a6 30 25 true 4 (.v (.mv)),
 a6 31 25 true 30 (.v (.len)),
 d7 32 25 true [.t 29,.t 31] (.v (.bin .lss)),
 aP 33 [.t 25,.t 32,F_] .pick] [2,3,4,5,6,7,33])
 (.cond (.t 33)
 .skip
 (.exit 0)))
 (.block 1
 (.seq
 (.aq [ah 34 7,
 cH 35 [.t 34,.c (.pv (.str [100,97,116,97]))] (.az 120 [])] [2,3,4,5,6,7,35])
 (.cond (.t 35)
 (.aq [aX 36 6 0,
 bq 37 36 6 0 1 false,
 ah 38 7,
 a0 39 38 (.az 121 []),
 aS 40 39 (.bf 4),
 ir 41 37 40 (.append 4 72),
 aX 42 6 0,
 bK 42 41 6 0 1] [2,3,4,5,6,7])
 (.aq [aX 43 6 1,
 bq 44 43 6 1 1 false,
 ah 45 7,
 a0 46 45 (.az 122 []),
 aS 47 46 (.bf 20),
 ir 48 44 47 (.append 20 256),
 aX 49 6 1,
 bK 49 48 6 1 1] [2,3,4,5,6,7])))))
def g112L0:aE:=.loop [2,3,4,5,6,7] g112B0
theorem g112L0e: cl AP g112L0 st=after (cl AP g112L0) (cl AP g112B0 (norm (restrict [2,3,4,5,6,7] st))):=aW
def g112:aB:=⟨1,69,[.c 2 2 true,.c 3 2 true],
 (.seq
 (.aq [ed 2 [eD,eD],
 ed 3 [bL,bL]] [0,2,3])
 (.seq
 (.aq [ah 9 0,
 a0 10 9 (.aA 118),
 ah 8 10,
 aS 11 8 (.ext 0),
 aS 12 8 (.ext 1),
 ed 5 [bL,bL],
 ah 4 11,
 bK 5 12 5 0 2] [2,3,4,5])
 (.seq
 (.seq
 (.aq [aX 13 5 0,
 bq 14 13 5 0 1 false,
 bb 15 14 0 (.bin .neq)] [2,3,4,5,15])
 (.cond (.t 15)
 (.seq
 (.aq [aP 16 [] (.build [eD,eD] []),
 bq 17 5 5 0 2 true,
 bK 2 16 2 0 2,
 bK 3 17 3 0 2] [2,3])
 .ret)
 .skip))
 (.seq
 (.aq [ed 6 [eD,eD]] [2,3,4,5,6])
 (.seq
 (.aq [ah 18 4,
 cH 19 [.t 18,k_ 0] (.az 119 []),
 ah 7 19] [2,3,4,5,6,7])
 (.seq
 (.block 0
 g112L0)
 (.seq
 (.seq
 (.aq [ah 50 7,
 aS 51 50 .aI,
 aX 52 51 2,
 a0 53 52 (.aJ 1 false)] [2,3,5,6,7,53])
 (.cond (.t 53)
 (.seq
 (.aq [aP 54 [] (.build [eD,eD] []),
 ah 55 7,
 aS 56 55 .aI,
 aX 57 56 3,
 a0 58 57 (.aJ 1 false),
 aP 59 [k_ 3,.t 58] (.build [bL,bL] [(0,1),(1,1)]),
 bK 2 54 2 0 2,
 bK 3 59 3 0 2] [2,3])
 .ret)
 .skip))
 (.seq
 (.seq
 (.aq [bq 60 6 6 0 2 true,
 a0 61 60 (.aA 123),
 bK 5 61 5 0 2] [2,3,5,6])
 (.seq
 (.aq [aX 62 5 0,
 bq 63 62 5 0 1 false,
 bb 64 63 0 (.bin .neq)] [2,3,5,6,64])
 (.cond (.t 64)
 (.seq
 (.aq [aP 65 [] (.build [eD,eD] []),
 bq 66 5 5 0 2 true,
 bK 2 65 2 0 2,
 bK 3 66 3 0 2] [2,3])
 .ret)
 .skip)))
 (.seq
 (.aq [bq 67 6 6 0 2 true,
 bq 68 5 5 0 2 true,
 bK 2 67 2 0 2,
 bK 3 68 3 0 2] [2,3])
 .ret))))))))),none,true⟩
def g117:aB:=⟨1,17,[.t 2],
 (.seq
 (.aq [cB 2 F_] [0])
 (.seq
 (.aq [ah 3 0,
 a0 4 3 (.aA 109),
 ah 5 4,
 a6 6 5 false 0 (.v (.mv)),
 a6 7 5 false 6 (.aA 111),
 aP 8 [.t 5,T_,.t 7] .pick,
 ah 9 8,
 a6 10 9 false 0 (.v (.mv)),
 a6 11 9 false 10 (.aA 124),
 aP 12 [.t 9,T_,.t 11] .pick,
 ah 13 12,
 a6 14 13 false 0 (.v (.mv)),
 d7 15 13 false [.t 14,.c (.pv (.int .u8 95))] (.v (.bin .eql)),
 aP 16 [.t 13,T_,.t 15] .pick,
 ah 2 16] [2])
 .ret)),none,false⟩
def g118B1:aE:=
 (.seq
 (.seq
 (.aq [ah 42 5,
 ah 43 0,
 aS 44 43 .gP,
 bW 45 42 44 (.bin .lss),
 ah 46 45,
 a6 47 46 true 0 (.v (.mv)),
 a6 48 46 true 5 (.v (.mv)),
 d7 49 46 true [.t 47,.t 48] (.v (.index)),
 d7 50 46 true [.t 49,.c (.pv (.int .u8 10))] (.v (.bin .neq)),
 aP 51 [.t 46,.t 50,F_] .pick] [0,3,4,5,51])
 (.cond (.t 51)
 .skip
 (.exit 3)))
 (.block 4
 (.aq [ah 52 5,
 bb 53 52 1 (.bin .add),
 ah 5 53] [0,3,4,5])))
def g118L1:aE:=.loop [0,3,4,5] g118B1
theorem g118L1e: cl AP g118L1 st=after (cl AP g118L1) (cl AP g118B1 (norm (restrict [0,3,4,5] st))):=aW
def g118B2:aE:=
 (.seq
 (.seq
 (.aq [ah 57 7,
 ah 58 0,
 aS 59 58 .gP,
 bW 60 57 59 (.bin .lss),
 ah 61 60,
 a6 62 61 true 0 (.v (.mv)),
 a6 63 61 true 7 (.v (.mv)),
 d7 64 61 true [.t 62,.t 63] (.v (.index)),
 a6 65 61 true 64 (.aA 117),
 aP 66 [.t 61,.t 65,F_] .pick] [0,3,4,5,7,66])
 (.cond (.t 66)
 .skip
 (.exit 5)))
 (.block 6
 (.aq [ah 67 7,
 bb 68 67 1 (.bin .add),
 ah 7 68] [0,3,4,5,7])))
def g118L2:aE:=.loop [0,3,4,5,7] g118B2
theorem g118L2e: cl AP g118L2 st=after (cl AP g118L2) (cl AP g118B2 (norm (restrict [0,3,4,5,7] st))):=aW
def g118B0:aE:=
 (.seq
 (.seq
 (.aq [ah 13 5,
 ah 14 0,
 aS 15 14 .gP,
 bW 16 13 15 (.bin .lss)] [0,3,4,5,16])
 (.cond (.t 16)
 .skip
 (.exit 0)))
 (.block 1
 (.seq
 (.aq [ah 17 0,
 ah 18 5,
 bW 19 17 18 .index,
 ah 6 19] [0,3,4,5,6])
 (.seq
 (.aq [ah 20 5,
 bb 21 20 1 (.bin .add),
 ah 7 21] [0,3,4,5,6,7])
 (.seq
 (.block 2
 (.seq
 (.aq [ah 23 6,
 aP 24 [.t 23,.c (.pv (.int .u8 32))] (.bin .eql),
 ah 25 24,
 a6 26 25 false 6 (.v (.mv)),
 d7 27 25 false [.t 26,.c (.pv (.int .u8 9))] (.v (.bin .eql)),
 aP 28 [.t 25,T_,.t 27] .pick,
 ah 29 28,
 a6 30 29 false 6 (.v (.mv)),
 d7 31 29 false [.t 30,.c (.pv (.int .u8 13))] (.v (.bin .eql)),
 aP 32 [.t 29,T_,.t 31] .pick,
 ah 33 32,
 a6 34 33 false 6 (.v (.mv)),
 d7 35 33 false [.t 34,.c (.pv (.int .u8 10))] (.v (.bin .eql)),
 aP 36 [.t 33,T_,.t 35] .pick,
 ah 22 36] [0,3,4,5,6,7,22])
 (.cond (.t 22)
 (.seq
 (.aq [ah 37 5,
 bb 38 37 1 (.bin .add),
 ah 5 38] [0,3,4,5])
 (.exit 1))
 (.seq
 (.aq [ah 40 6,
 aP 41 [.t 40,.c (.pv (.int .u8 35))] (.bin .eql),
 ah 39 41] [0,3,4,5,6,7,39])
 (.cond (.t 39)
 (.seq
 (.block 3
 g118L1)
 (.exit 1))
 (.seq
 (.aq [ah 55 6,
 a0 56 55 (.aA 117),
 ah 54 56] [0,3,4,5,6,7,54])
 (.cond (.t 54)
 (.block 5
 g118L2)
 (.seq
 (.aq [ah 70 6,
 aP 71 [.t 70,.c (.pv (.int .u8 45))] (.bin .eql),
 ah 72 71,
 a6 73 72 true 7 (.v (.mv)),
 a6 74 72 true 0 (.v (.mv)),
 a6 75 72 true 74 (.v (.gP)),
 d7 76 72 true [.t 73,.t 75] (.v (.bin .lss)),
 aP 77 [.t 72,.t 76,F_] .pick,
 ah 78 77,
 a6 79 78 true 0 (.v (.mv)),
 a6 80 78 true 7 (.v (.mv)),
 d7 81 78 true [.t 79,.t 80] (.v (.index)),
 d7 82 78 true [.t 81,.c (.pv (.int .u8 62))] (.v (.bin .eql)),
 aP 83 [.t 78,.t 82,F_] .pick,
 ah 69 83] [0,3,4,5,7,69])
 (.cond (.t 69)
 (.aq [ah 84 7,
 bb 85 84 1 (.bin .add),
 ah 7 85] [0,3,4,5,7])
 .skip)))))))))
 (.seq
 (.aq [ah 86 0,
 ah 87 5,
 ah 88 7,
 aP 89 [.t 86,.t 87,.t 88] (.slice true 0 true true false),
 a0 90 89 (.aA 125),
 ah 8 90] [0,3,4,5,7,8])
 (.seq
 (.seq
 (.aq [ah 91 8,
 bb 92 91 0 (.bin .eql)] [0,3,4,5,7,8,92])
 (.cond (.t 92)
 (.seq
 (.aq [ah 93 5,
 aP 94 [k_ 2,.t 93] (.build [bL,bL] [(0,1),(1,1)]),
 aP 2 [.c (.cg [])] .mv,
 bK 3 94 3 0 2] [2,3])
 .ret)
 .skip))
 (.seq
 (.aq [ah 95 4,
 ah 96 8,
 ah 97 0,
 ah 98 5,
 ah 99 7,
 aP 100 [.t 97,.t 98,.t 99] (.slice true 0 true true false),
 ah 101 5,
 aP 102 [.t 96,.t 100,.t 101] (.build [bL,gO,bL] [(0,1),(1,1),(2,1)]),
 aS 103 102 (.bf 3),
 ir 104 95 103 (.append 3 32),
 ah 4 104] [0,3,4,7])
 (.aq [ah 105 7,
 ah 5 105] [0,3,4,5])))))))))
def g118L0:aE:=.loop [0,3,4,5] g118B0
theorem g118L0e: cl AP g118L0 st=after (cl AP g118L0) (cl AP g118B0 (norm (restrict [0,3,4,5] st))):=aW
def g118:aB:=⟨1,108,[.t 2,.c 3 2 true],
 (.seq
 (.aq [aP 2 [.c (.cg [])] .mv,
 ed 3 [bL,bL]] [0,3])
 (.seq
 (.seq
 (.aq [ah 9 0,
 aS 10 9 .gP,
 bb 11 10 4000 (.bin .gtr)] [0,3,11])
 (.cond (.t 11)
 (.seq
 (.aq [aP 12 [k_ 1] (.build [bL,bL] [(0,1)]),
 aP 2 [.c (.cg [])] .mv,
 bK 3 12 3 0 2] [2,3])
 .ret)
 .skip))
 (.seq
 (.aq [aP 4 [.c (.cg [])] .mv] [0,3,4])
 (.seq
 (.seq
 (.aq [cB 5 (k_ 0)] [0,3,4,5])
 (.block 0
 g118L0))
 (.seq
 (.aq [ah 106 4,
 aP 107 [] (.build [bL,bL] []),
 ah 2 106,
 bK 3 107 3 0 2] [2,3])
 .ret))))),none,false⟩
def g119:aB:=⟨2,19,[.t 4],
 (.seq
 (.aq [aP 4 [.c (.cz)] .mv] [0,1])
 (.seq
 (.seq
 (.aq [ah 5 1,
 bb 6 5 0 (.bin .lss),
 ah 7 6,
 a6 8 7 false 1 (.v (.mv)),
 a6 9 7 false 0 (.v (.mv)),
 a6 10 7 false 9 (.v (.len)),
 d7 11 7 false [.t 8,.t 10] (.v (.bin .gtr)),
 aP 12 [.t 7,T_,.t 11] .pick] [0,1,12])
 (.cond (.t 12)
 (.aq [ah 13 0,
 aS 14 13 .len,
 ah 1 14] [0,1])
 .skip))
 (.seq
 (.aq [ah 15 0,
 ah 16 1,
 bW 17 15 16 (.build [eD,bL,.bool false,bL] [(0,1),(1,1)]),
 a0 18 17 (.kr 4),
 ah 4 18] [4])
 .ret))),none,false⟩
def g120:aB:=⟨2,65,[.t 4],
 (.seq
 (.aq [cB 4 F_] [0,1])
 (.seq
 (.aq [ah 5 0,
 aS 6 5 .aI,
 aX 7 6 2,
 a0 8 7 (.aJ 1 false),
 aS 9 8 (.un .not),
 ah 10 9,
 a6 11 10 true 0 (.v (.mv)),
 a6 12 10 true 11 (.v (.aI)),
 a6 13 10 true 12 (.v (.bE 1)),
 a6 14 10 true 13 (.aJ 1 false),
 a6 15 10 true 0 (.v (.mv)),
 a6 16 10 true 15 (.v (.aI)),
 a6 17 10 true 16 (.v (.bE 0)),
 a6 18 10 true 17 (.aJ 1 false),
 a6 19 10 true 18 (.v (.len)),
 d7 20 10 true [.t 14,.t 19] (.v (.bin .lss)),
 aP 21 [.t 10,.t 20,F_] .pick,
 ah 22 21,
 a6 23 22 true 0 (.v (.mv)),
 a6 24 22 true 23 (.v (.aI)),
 a6 25 22 true 24 (.v (.bE 0)),
 a6 26 22 true 25 (.aJ 1 false),
 a6 27 22 true 0 (.v (.mv)),
 a6 28 22 true 27 (.v (.aI)),
 a6 29 22 true 28 (.v (.bE 1)),
 a6 30 22 true 29 (.aJ 1 false),
 d7 31 22 true [.t 26,.t 30] (.v (.aO 3)),
 a6 32 22 true 31 (.v (.bE 0)),
 a6 33 22 true 32 (.v (.aR 1 false)),
 d7 34 22 true [.t 33,k_ 5] (.v (.bin .eql)),
 a6 35 22 true 34 (.v (.mv)),
 a6 36 35 false 0 (.v (.mv)),
 a6 37 35 false 36 (.v (.aI)),
 a6 38 35 false 37 (.v (.bE 0)),
 a6 39 35 false 38 (.aJ 1 false),
 a6 40 35 false 0 (.v (.mv)),
 a6 41 35 false 40 (.v (.aI)),
 a6 42 35 false 41 (.v (.bE 1)),
 a6 43 35 false 42 (.aJ 1 false),
 d7 44 35 false [.t 39,.t 43] (.v (.aO 3)),
 a6 45 35 false 44 (.v (.bE 0)),
 a6 46 35 false 45 (.v (.aR 1 false)),
 d7 47 35 false [.t 46,k_ 4] (.v (.bin .eql)),
 d7 48 22 true [.t 35,T_,.t 47] (.v (.pick)),
 aP 49 [.t 22,.t 48,F_] .pick,
 ah 50 49,
 a6 51 50 true 0 (.v (.mv)),
 a6 52 50 true 51 (.v (.aI)),
 a6 53 50 true 52 (.v (.bE 0)),
 a6 54 50 true 53 (.aJ 1 false),
 a6 55 50 true 0 (.v (.mv)),
 a6 56 50 true 55 (.v (.aI)),
 a6 57 50 true 56 (.v (.bE 1)),
 a6 58 50 true 57 (.aJ 1 false),
 d7 59 50 true [.t 54,.t 58] (.v (.aO 3)),
 a6 60 50 true 59 (.v (.bE 1)),
 a6 61 50 true 60 (.v (.aR 1 false)),
 a6 62 50 true 1 (.v (.mv)),
 d7 63 50 true [.t 61,.t 62] (.v (.bin .eql)),
 aP 64 [.t 50,.t 63,F_] .pick,
 ah 4 64] [4])
 .ret)),none,false⟩
def g121B0:aE:=
 (.seq
 (.seq
 (.aq [ah 13 0,
 cH 14 [.t 13,k_ 1] (.az 129 [])] [0,2,3,14])
 (.cond (.t 14)
 .skip
 (.exit 0)))
 (.block 1
 (.aq [aX 15 3 2,
 bq 16 15 3 2 1 false,
 ah 17 0,
 cH 18 [.t 17,k_ 1] (.az 128 []),
 aS 19 18 (.bf 1),
 ir 20 16 19 (.append 1 16),
 aX 21 3 2,
 bK 21 20 3 2 1] [0,2,3])))
def g121L0:aE:=.loop [0,2,3] g121B0
theorem g121L0e: cl AP g121L0 st=after (cl AP g121L0) (cl AP g121B0 (norm (restrict [0,2,3] st))):=aW
def g121B2:aE:=
 (.seq
 (.seq
 (.aq [ah 34 0,
 a0 35 34 (.az 130 [])] [0,2,3,4,35])
 (.cond (.t 35)
 .skip
 (.exit 4)))
 (.block 5
 (.aq [aX 36 4 2,
 bq 37 36 4 2 1 false,
 ah 38 0,
 a0 39 38 (.az 131 []),
 aS 40 39 (.bf 5),
 ir 41 37 40 (.append 5 64),
 aX 42 4 2,
 bK 42 41 4 2 1] [0,2,3,4])))
def g121L2:aE:=.loop [0,2,3,4] g121B2
theorem g121L2e: cl AP g121L2 st=after (cl AP g121L2) (cl AP g121B2 (norm (restrict [0,2,3,4] st))):=aW
def g121B1:aE:=
 (.seq
 (.seq
 (.aq [ah 24 0,
 aS 25 24 .aI,
 aX 26 25 2,
 a0 27 26 (.aJ 1 false),
 aS 28 27 (.un .not)] [0,2,3,28])
 (.cond (.t 28)
 .skip
 (.exit 2)))
 (.block 3
 (.seq
 (.aq [ah 29 0,
 a0 30 29 (.az 126 []),
 ah 31 0,
 cH 32 [.t 31,k_ 2] (.az 128 []),
 bW 33 30 32 (.build [bL,gO,eD] [(0,1),(1,1)]),
 ed 4 [bL,gO,eD],
 bK 4 33 4 0 3] [0,2,3,4])
 (.seq
 (.block 4
 g121L2)
 (.seq
 (.aq [aX 43 3 3,
 bq 44 43 3 3 1 false,
 bq 45 4 4 0 3 true,
 aS 46 45 (.bf 3),
 ir 47 44 46 (.append 3 48),
 aX 48 3 3,
 bK 48 47 3 3 1] [0,2,3])
 (.seq
 (.aq [ah 49 0,
 cH 50 [.t 49,.c (.pv (.str [124]))] (.az 132 []),
 aS 51 50 (.un .not)] [0,2,3,51])
 (.cond (.t 51)
 (.exit 2)
 .skip)))))))
def g121L1:aE:=.loop [0,2,3] g121B1
theorem g121L1e: cl AP g121L1 st=after (cl AP g121L1) (cl AP g121B1 (norm (restrict [0,2,3] st))):=aW
def g121:aB:=⟨1,55,[.c 2 4 true],
 (.seq
 (.aq [ed 2 DN] [0,2])
 (.seq
 (.aq [ah 5 0,
 a0 6 5 (.az 126 []),
 aS 7 6 (.build DN [(0,1)]),
 ed 3 DN,
 bK 3 7 3 0 4] [0,2,3])
 (.seq
 (.aq [ah 8 0,
 cH 9 [.t 8,.c (.pv (.str [100,97,116,97]))] (.az 127 [])] [0,2,3])
 (.seq
 (.aq [ah 10 0,
 cH 11 [.t 10,k_ 2] (.az 128 []),
 aX 12 3 1,
 bK 12 11 3 1 1] [0,2,3])
 (.seq
 (.block 0
 g121L0)
 (.seq
 (.aq [ah 22 0,
 cH 23 [.t 22,.c (.pv (.str [61]))] (.az 127 [])] [0,2,3])
 (.seq
 (.block 2
 g121L1)
 (.seq
 (.aq [ah 52 0,
 cH 53 [.t 52,.c (.pv (.str [59]))] (.az 127 [])] [2,3])
 (.seq
 (.aq [bq 54 3 3 0 4 true,
 bK 2 54 2 0 4] [2])
 .ret))))))))),none,false⟩
def g122:aB:=⟨1,34,[.c 2 20 true],
 (.seq
 (.aq [ed 2 [bL,.bool false,gO,.bool false,bL,gO,bL,bL,eD,bL,bL,gO,bL,eD,eD,bL,gO,bL,bL,eD]] [0,2])
 (.seq
 (.aq [ah 4 0,
 a0 5 4 (.az 126 []),
 aS 6 5 (.build [bL,.bool false,gO,.bool false,bL,gO,bL,bL,eD,bL,bL,gO,bL,eD,eD,bL,gO,bL,bL,eD] [(0,1)]),
 ed 3 [bL,.bool false,gO,.bool false,bL,gO,bL,bL,eD,bL,bL,gO,bL,eD,eD,bL,gO,bL,bL,eD],
 bK 3 6 3 0 20] [0,2,3])
 (.seq
 (.aq [ah 7 0,
 cH 8 [.t 7,.c (.pv (.str [108,101,116]))] (.az 127 [])] [0,2,3])
 (.seq
 (.aq [ah 9 0,
 cH 10 [.t 9,.c (.pv (.str [114,101,99]))] (.az 132 []),
 aX 11 3 1,
 bK 11 10 3 1 1] [0,2,3])
 (.seq
 (.aq [ah 12 0,
 cH 13 [.t 12,k_ 1] (.az 128 []),
 aX 14 3 2,
 bK 14 13 3 2 1] [0,2,3])
 (.seq
 (.seq
 (.aq [ah 15 0,
 cH 16 [.t 15,.c (.pv (.str [58]))] (.az 132 [])] [0,2,3,16])
 (.cond (.t 16)
 (.seq
 (.aq [aX 17 3 3,
 DM [.t 17,T_] (.ee 3 3 1)] [0,2,3])
 (.aq [ah 18 0,
 a0 19 18 (.az 133 []),
 aX 20 3 4,
 bK 20 19 3 4 5] [0,2,3]))
 .skip))
 (.seq
 (.aq [ah 21 0,
 cH 22 [.t 21,.c (.pv (.str [61]))] (.az 127 [])] [0,2,3])
 (.seq
 (.seq
 (.aq [ah 23 0,
 aS 24 23 .aI,
 aX 25 24 2,
 a0 26 25 (.aJ 1 false),
 aS 27 26 (.un .not)] [0,2,3,27])
 (.cond (.t 27)
 (.aq [ah 28 0,
 a0 29 28 (.az 134 []),
 aX 30 3 9,
 bK 30 29 3 9 11] [0,2,3])
 .skip))
 (.seq
 (.aq [ah 31 0,
 cH 32 [.t 31,.c (.pv (.str [59]))] (.az 127 [])] [2,3])
 (.seq
 (.aq [bq 33 3 3 0 20 true,
 bK 2 33 2 0 20] [2])
 .ret)))))))))),none,false⟩
def g123B1:aE:=
 (.seq
 (.seq
 (.aq [ah 43 5,
 aX 44 4 3,
 bq 45 44 4 3 1 false,
 aS 46 45 .len,
 bW 47 43 46 (.bin .lss)] [1,2,3,4,5,47])
 (.cond (.t 47)
 .skip
 (.exit 2)))
 (.seq
 (.block 3
 (.seq
 (.aq [aX 50 4 3,
 bq 51 50 4 3 1 false,
 ah 52 5,
 bW 53 51 52 (.aO 3),
 aX 54 53 2,
 aS 55 54 (.aR 1 false),
 aS 56 55 .len,
 bb 57 56 4 (.bin .gtr)] [1,2,3,4,5,57])
 (.cond (.t 57)
 (.seq
 (.aq [aX 58 4 3,
 bq 59 58 4 3 1 false,
 ah 60 5,
 bW 61 59 60 (.aO 3),
 aX 62 61 0,
 aS 63 62 (.aR 1 false),
 aP 64 [k_ 5,.t 63] (.build [bL,bL] [(0,1),(1,1)]),
 bK 2 64 2 0 2] [2])
 .ret)
 .skip)))
 (.aq [ah 48 5,
 bb 49 48 1 (.bin .add),
 ah 5 49] [1,2,3,4,5])))
def g123L1:aE:=.loop [1,2,3,4,5] g123B1
theorem g123L1e: cl AP g123L1 st=after (cl AP g123L1) (cl AP g123B1 (norm (restrict [1,2,3,4,5] st))):=aW
def g123B0:aE:=
 (.seq
 (.seq
 (.aq [ah 14 3,
 aX 15 1 0,
 bq 16 15 1 0 1 false,
 aS 17 16 .len,
 bW 18 14 17 (.bin .lss)] [1,2,3,18])
 (.cond (.t 18)
 .skip
 (.exit 0)))
 (.seq
 (.block 1
 (.seq
 (.aq [aX 21 1 0,
 bq 22 21 1 0 1 false,
 ah 23 3,
 bW 24 22 23 (.aO 4),
 aS 25 24 (.aR 4 true),
 ed 4 DN,
 bK 4 25 4 0 4] [1,2,3,4])
 (.seq
 (.seq
 (.aq [ah 26 3,
 bb 27 26 8 (.bin .geq),
 ah 28 27,
 a6 29 28 false 4 (.v (.bE 2)),
 a6 30 28 false 29 (.cD 4 2 1 false),
 a6 31 28 false 30 (.v (.len)),
 d7 32 28 false [.t 31,k_ 4] (.v (.bin .gtr)),
 aP 33 [.t 28,T_,.t 32] .pick,
 ah 34 33,
 a6 35 34 false 4 (.v (.bE 3)),
 a6 36 34 false 35 (.cD 4 3 1 false),
 a6 37 34 false 36 (.v (.len)),
 d7 38 34 false [.t 37,k_ 6] (.v (.bin .gtr)),
 aP 39 [.t 34,T_,.t 38] .pick] [1,2,3,4,39])
 (.cond (.t 39)
 (.seq
 (.aq [aX 40 4 0,
 bq 41 40 4 0 1 false,
 aP 42 [k_ 5,.t 41] (.build [bL,bL] [(0,1),(1,1)]),
 bK 2 42 2 0 2] [2])
 .ret)
 .skip))
 (.seq
 (.aq [cB 5 (k_ 0)] [1,2,3,4,5])
 (.block 2
 g123L1)))))
 (.aq [ah 19 3,
 bb 20 19 1 (.bin .add),
 ah 3 20] [1,2,3])))
def g123L0:aE:=.loop [1,2,3] g123B0
theorem g123L0e: cl AP g123L0 st=after (cl AP g123L0) (cl AP g123B0 (norm (restrict [1,2,3] st))):=aW
def g123B4:aE:=
 (.seq
 (.seq
 (.aq [ah 94 9,
 aX 95 7 3,
 bq 96 95 7 3 1 false,
 ah 97 8,
 bW 98 96 97 (.aO 3),
 aX 99 98 2,
 aS 100 99 (.aR 1 false),
 aS 101 100 .len,
 bW 102 94 101 (.bin .lss)] [1,2,6,7,8,9,102])
 (.cond (.t 102)
 .skip
 (.exit 8)))
 (.seq
 (.block 9
 (.seq
 (.aq [aX 105 7 3,
 bq 106 105 7 3 1 false,
 ah 107 8,
 bW 108 106 107 (.aO 3),
 aX 109 108 2,
 aS 110 109 (.aR 1 false),
 ah 111 9,
 bW 112 110 111 (.aO 5),
 aS 113 112 (.aR 5 true),
 a0 114 113 (.aA 52),
 bb 115 114 40 (.bin .gtr)] [1,2,6,7,8,9,115])
 (.cond (.t 115)
 (.seq
 (.aq [aX 116 7 0,
 bq 117 116 7 0 1 false,
 aP 118 [k_ 4,.t 117] (.build [bL,bL] [(0,1),(1,1)]),
 bK 2 118 2 0 2] [2])
 .ret)
 .skip)))
 (.aq [ah 103 9,
 bb 104 103 1 (.bin .add),
 ah 9 104] [1,2,6,7,8,9])))
def g123L4:aE:=.loop [1,2,6,7,8,9] g123B4
theorem g123L4e: cl AP g123L4 st=after (cl AP g123L4) (cl AP g123B4 (norm (restrict [1,2,6,7,8,9] st))):=aW
def g123B3:aE:=
 (.seq
 (.seq
 (.aq [ah 87 8,
 aX 88 7 3,
 bq 89 88 7 3 1 false,
 aS 90 89 .len,
 bW 91 87 90 (.bin .lss)] [1,2,6,7,8,91])
 (.cond (.t 91)
 .skip
 (.exit 6)))
 (.seq
 (.block 7
 (.seq
 (.aq [cB 9 (k_ 0)] [1,2,6,7,8,9])
 (.block 8
 g123L4)))
 (.aq [ah 92 8,
 bb 93 92 1 (.bin .add),
 ah 8 93] [1,2,6,7,8])))
def g123L3:aE:=.loop [1,2,6,7,8] g123B3
theorem g123L3e: cl AP g123L3 st=after (cl AP g123L3) (cl AP g123B3 (norm (restrict [1,2,6,7,8] st))):=aW
def g123B2:aE:=
 (.seq
 (.seq
 (.aq [ah 75 6,
 aX 76 1 0,
 bq 77 76 1 0 1 false,
 aS 78 77 .len,
 bW 79 75 78 (.bin .lss)] [1,2,6,79])
 (.cond (.t 79)
 .skip
 (.exit 4)))
 (.seq
 (.block 5
 (.seq
 (.aq [aX 82 1 0,
 bq 83 82 1 0 1 false,
 ah 84 6,
 bW 85 83 84 (.aO 4),
 aS 86 85 (.aR 4 true),
 ed 7 DN,
 bK 7 86 7 0 4] [1,2,6,7])
 (.seq
 (.aq [cB 8 (k_ 0)] [1,2,6,7,8])
 (.block 6
 g123L3))))
 (.aq [ah 80 6,
 bb 81 80 1 (.bin .add),
 ah 6 81] [1,2,6])))
def g123L2:aE:=.loop [1,2,6] g123B2
theorem g123L2e: cl AP g123L2 st=after (cl AP g123L2) (cl AP g123B2 (norm (restrict [1,2,6] st))):=aW
def g123B5:aE:=
 (.seq
 (.seq
 (.aq [ah 119 10,
 aX 120 1 1,
 bq 121 120 1 1 1 false,
 aS 122 121 .len,
 bW 123 119 122 (.bin .lss)] [1,2,10,123])
 (.cond (.t 123)
 .skip
 (.exit 10)))
 (.seq
 (.block 11
 (.seq
 (.aq [aX 126 1 1,
 bq 127 126 1 1 1 false,
 ah 128 10,
 bW 129 127 128 (.aO 20),
 aS 130 129 (.aR 20 true),
 ed 11 [bL,.bool false,gO,.bool false,bL,gO,bL,bL,eD,bL,bL,gO,bL,eD,eD,bL,gO,bL,bL,eD],
 bK 11 130 11 0 20] [1,2,10,11])
 (.seq
 (.seq
 (.aq [aX 131 11 3,
 bq 132 131 11 3 1 false,
 ah 133 132,
 a6 134 133 true 11 (.v (.bE 4)),
 a6 135 133 true 134 (.cD 11 4 5 true),
 a6 136 133 true 135 (.aA 52),
 d7 137 133 true [.t 136,k_ 40] (.v (.bin .gtr)),
 aP 138 [.t 133,.t 137,F_] .pick,
 ah 139 138,
 a6 140 139 false 11 (.v (.bE 9)),
 a6 141 139 false 140 (.cD 11 9 11 true),
 a6 142 139 false 141 (.aA 135),
 aP 143 [.t 139,T_,.t 142] .pick] [1,2,10,11,143])
 (.cond (.t 143)
 (.seq
 (.aq [aX 144 11 0,
 bq 145 144 11 0 1 false,
 aP 146 [k_ 4,.t 145] (.build [bL,bL] [(0,1),(1,1)]),
 bK 2 146 2 0 2] [2])
 .ret)
 .skip))
 (.seq
 (.aq [aX 148 11 9,
 bq 149 148 11 9 11 true,
 a0 150 149 (.aA 136),
 ah 147 150,
 aS 151 147 (.ext 0),
 aS 152 147 (.ext 1),
 ah 12 151,
 ah 13 152] [1,2,10,12,13])
 (.seq
 (.aq [ah 153 13] [1,2,10,12,153])
 (.cond (.t 153)
 (.seq
 (.aq [ah 154 12,
 aP 155 [k_ 5,.t 154] (.build [bL,bL] [(0,1),(1,1)]),
 bK 2 155 2 0 2] [2])
 .ret)
 .skip))))))
 (.aq [ah 124 10,
 bb 125 124 1 (.bin .add),
 ah 10 125] [1,2,10])))
def g123L5:aE:=.loop [1,2,10] g123B5
theorem g123L5e: cl AP g123L5 st=after (cl AP g123L5) (cl AP g123B5 (norm (restrict [1,2,10] st))):=aW
def g123:aB:=⟨1,157,[.c 2 2 true],
 (.seq
 (.aq [a0 1 0 (.box 1 2),
 ed 2 [bL,bL]] [1,2])
 (.seq
 (.seq
 (.aq [cB 3 (k_ 0)] [1,2,3])
 (.block 0
 g123L0))
 (.seq
 (.seq
 (.aq [aX 65 1 1,
 bq 66 65 1 1 1 false,
 aS 67 66 .len,
 bb 68 67 16 (.bin .gtr)] [1,2,68])
 (.cond (.t 68)
 (.seq
 (.aq [aX 69 1 1,
 bq 70 69 1 1 1 false,
 bb 71 70 16 (.aO 20),
 aX 72 71 0,
 aS 73 72 (.aR 1 false),
 aP 74 [k_ 5,.t 73] (.build [bL,bL] [(0,1),(1,1)]),
 bK 2 74 2 0 2] [2])
 .ret)
 .skip))
 (.seq
 (.seq
 (.aq [cB 6 (k_ 0)] [1,2,6])
 (.block 4
 g123L2))
 (.seq
 (.seq
 (.aq [cB 10 (k_ 0)] [1,2,10])
 (.block 10
 g123L5))
 (.seq
 (.aq [aP 156 [] (.build [bL,bL] []),
 bK 2 156 2 0 2] [2])
 .ret)))))),none,false⟩
def g124:aB:=⟨1,9,[.t 2],
 (.seq
 (.aq [cB 2 F_] [0])
 (.seq
 (.aq [ah 3 0,
 aP 4 [.t 3,.c (.pv (.int .u8 48))] (.bin .geq),
 ah 5 4,
 a6 6 5 true 0 (.v (.mv)),
 d7 7 5 true [.t 6,.c (.pv (.int .u8 57))] (.v (.bin .leq)),
 aP 8 [.t 5,.t 7,F_] .pick,
 ah 2 8] [2])
 .ret)),none,false⟩
def g125:aB:=⟨1,18,[.t 2],
 (.seq
 (.aq [cB 2 (k_ 0)] [0])
 (.seq
 (.block 0
 (.seq
 (.aq [ah 4 0,
 a0 5 4 (.aA 110),
 ah 3 5] [0,3])
 (.cond (.t 3)
 (.seq
 (.aq [cB 2 (k_ 4)] [2])
 .ret)
 (.seq
 (.aq [ah 7 0,
 a0 8 7 (.aA 77),
 ah 6 8] [0,6])
 (.cond (.t 6)
 (.seq
 (.aq [cB 2 (k_ 1)] [2])
 .ret)
 (.seq
 (.aq [ah 10 0,
 a0 11 10 (.aA 78),
 ah 9 11] [0,9])
 (.cond (.t 9)
 (.seq
 (.aq [cB 2 (k_ 2)] [2])
 .ret)
 (.seq
 (.aq [ah 13 0,
 a0 14 13 (.aA 137),
 ah 12 14] [0,12])
 (.cond (.t 12)
 (.seq
 (.aq [cB 2 (k_ 3)] [2])
 .ret)
 (.seq
 (.aq [ah 16 0,
 a0 17 16 (.aA 138),
 ah 15 17] [15])
 (.cond (.t 15)
 (.seq
 (.aq [cB 2 (k_ 5)] [2])
 .ret)
 .skip)))))))))))
 (.seq
 (.aq [cB 2 (k_ 0)] [2])
 .ret))),none,false⟩
def g126:aB:=⟨1,24,[.t 2],
 (.seq
 (.aq [cB 2 (k_ 0)] [0])
 (.seq
 (.seq
 (.aq [ah 3 0,
 aS 4 3 .aI,
 aX 5 4 1,
 a0 6 5 (.aJ 1 false),
 ah 7 0,
 aS 8 7 .aI,
 aX 9 8 0,
 a0 10 9 (.aJ 1 false),
 aS 11 10 .len,
 bW 12 6 11 (.bin .lss)] [0,12])
 (.cond (.t 12)
 (.seq
 (.aq [ah 13 0,
 aS 14 13 .aI,
 aX 15 14 0,
 a0 16 15 (.aJ 1 false),
 ah 17 0,
 aS 18 17 .aI,
 aX 19 18 1,
 a0 20 19 (.aJ 1 false),
 bW 21 16 20 (.aO 3),
 aX 22 21 2,
 aS 23 22 (.aR 1 false),
 ah 2 23] [2])
 .ret)
 .skip))
 (.seq
 (.aq [cB 2 (k_ 0)] [2])
 .ret))),none,false⟩
def g127:aB:=⟨2,10,[],
 (.seq
 (.aq [ah 4 0,
 ah 5 1,
 ir 6 4 5 (.az 132 []),
 aS 7 6 (.un .not)] [0,7])
 (.cond (.t 7)
 (.aq [ah 8 0,
 a0 9 8 (.az 139 [])] [])
 .skip)),none,false⟩
def g128:aB:=⟨2,30,[.t 4],
 (.seq
 (.aq [aP 4 [.c (.pv (.str []))] .mv] [0,1])
 (.seq
 (.seq
 (.aq [ah 5 0,
 ah 6 1,
 ir 7 5 6 (.az 129 []),
 aS 8 7 (.un .not)] [0,8])
 (.cond (.t 8)
 (.seq
 (.aq [ah 9 0,
 a0 10 9 (.az 139 [])] [])
 (.seq
 (.aq [aP 4 [.c (.pv (.str []))] .mv] [4])
 .ret))
 .skip))
 (.seq
 (.aq [ah 11 0,
 aS 12 11 .aI,
 aX 13 12 1,
 a0 14 13 (.aJ 1 false),
 bb 15 14 1 (.bin .add),
 aS 16 11 .aI,
 aX 17 16 1,
 DM [.t 17,.t 15] (.dE 1)] [0])
 (.seq
 (.aq [ah 18 0,
 aS 19 18 .aI,
 aX 20 19 0,
 a0 21 20 (.aJ 1 false),
 ah 22 0,
 aS 23 22 .aI,
 aX 24 23 1,
 a0 25 24 (.aJ 1 false),
 bb 26 25 1 (.bin .sub),
 bW 27 21 26 (.aO 3),
 aX 28 27 1,
 aS 29 28 (.aR 1 false),
 ah 4 29] [4])
 .ret)))),none,false⟩
def g129:aB:=⟨2,37,[.t 4],
 (.seq
 (.aq [cB 4 F_] [0,1])
 (.seq
 (.aq [ah 5 0,
 aS 6 5 .aI,
 aX 7 6 2,
 a0 8 7 (.aJ 1 false),
 aS 9 8 (.un .not),
 ah 10 9,
 a6 11 10 true 0 (.v (.mv)),
 a6 12 10 true 11 (.v (.aI)),
 a6 13 10 true 12 (.v (.bE 1)),
 a6 14 10 true 13 (.aJ 1 false),
 a6 15 10 true 0 (.v (.mv)),
 a6 16 10 true 15 (.v (.aI)),
 a6 17 10 true 16 (.v (.bE 0)),
 a6 18 10 true 17 (.aJ 1 false),
 a6 19 10 true 18 (.v (.len)),
 d7 20 10 true [.t 14,.t 19] (.v (.bin .lss)),
 aP 21 [.t 10,.t 20,F_] .pick,
 ah 22 21,
 a6 23 22 true 0 (.v (.mv)),
 a6 24 22 true 23 (.v (.aI)),
 a6 25 22 true 24 (.v (.bE 0)),
 a6 26 22 true 25 (.aJ 1 false),
 a6 27 22 true 0 (.v (.mv)),
 a6 28 22 true 27 (.v (.aI)),
 a6 29 22 true 28 (.v (.bE 1)),
 a6 30 22 true 29 (.aJ 1 false),
 d7 31 22 true [.t 26,.t 30] (.v (.aO 3)),
 a6 32 22 true 31 (.v (.bE 0)),
 a6 33 22 true 32 (.v (.aR 1 false)),
 a6 34 22 true 1 (.v (.mv)),
 d7 35 22 true [.t 33,.t 34] (.v (.bin .eql)),
 aP 36 [.t 22,.t 35,F_] .pick,
 ah 4 36] [4])
 .ret)),none,false⟩
def g130:aB:=⟨1,13,[.t 2],
 (.seq
 (.aq [cB 2 F_] [0])
 (.seq
 (.aq [ah 3 0,
 cH 4 [.t 3,k_ 1] (.az 129 []),
 ah 5 4,
 a6 6 5 false 0 (.v (.mv)),
 d7 7 5 false [.t 6,k_ 2] (.az 129 []),
 aP 8 [.t 5,T_,.t 7] .pick,
 ah 9 8,
 a6 10 9 false 0 (.v (.mv)),
 d7 11 9 false [.t 10,.c (.pv (.str [40]))] (.az 120 []),
 aP 12 [.t 9,T_,.t 11] .pick,
 ah 2 12] [2])
 .ret)),none,false⟩
def g131:aB:=⟨1,28,[.c 2 5 true],
 (.seq
 (.aq [ed 2 kq] [0,2])
 (.seq
 (.block 0
 (.seq
 (.aq [ah 5 0,
 cH 6 [.t 5,k_ 1] (.az 129 []),
 ah 4 6] [0,2,4])
 (.cond (.t 4)
 (.seq
 (.aq [ah 7 0,
 cH 8 [.t 7,k_ 1] (.az 128 []),
 a0 9 8 (.aA 106),
 bK 2 9 2 0 5] [2])
 .ret)
 (.seq
 (.aq [ah 11 0,
 cH 12 [.t 11,k_ 2] (.az 129 []),
 ah 10 12] [0,2,10])
 (.cond (.t 10)
 (.seq
 (.aq [ah 13 0,
 cH 14 [.t 13,k_ 2] (.az 128 []),
 cH 15 [.t 14,.c (.cg [])] (.az 62 []),
 bK 2 15 2 0 5] [2])
 .ret)
 .skip)))))
 (.seq
 (.aq [ah 16 0,
 cH 17 [.t 16,.c (.pv (.str [40]))] (.az 127 [])] [0,2])
 (.seq
 (.seq
 (.aq [ah 18 0,
 aS 19 18 .aI,
 aX 20 19 2,
 a0 21 20 (.aJ 1 false)] [0,2,21])
 (.cond (.t 21)
 (.seq
 (.aq [aP 22 [] (.build kq []),
 bK 2 22 2 0 5] [2])
 .ret)
 .skip))
 (.seq
 (.aq [ah 23 0,
 a0 24 23 (.az 133 []),
 ed 3 kq,
 bK 3 24 3 0 5] [0,2,3])
 (.seq
 (.aq [ah 25 0,
 cH 26 [.t 25,.c (.pv (.str [41]))] (.az 127 [])] [2,3])
 (.seq
 (.aq [bq 27 3 3 0 5 true,
 bK 2 27 2 0 5] [2])
 .ret))))))),none,false⟩
def g132:aB:=⟨2,15,[.t 4],
 (.seq
 (.aq [cB 4 F_] [0,1])
 (.seq
 (.seq
 (.aq [ah 5 0,
 ah 6 1,
 ir 7 5 6 (.az 120 [])] [0,7])
 (.cond (.t 7)
 (.seq
 (.aq [ah 8 0,
 aS 9 8 .aI,
 aX 10 9 1,
 a0 11 10 (.aJ 1 false),
 bb 12 11 1 (.bin .add),
 aS 13 8 .aI,
 aX 14 13 1,
 DM [.t 14,.t 12] (.dE 1)] [])
 (.seq
 (.aq [cB 4 T_] [4])
 .ret))
 .skip))
 (.seq
 (.aq [cB 4 F_] [4])
 .ret))),none,false⟩
def g133B0:aE:=
 (.seq
 (.seq
 (.aq [ah 9 0,
 a0 10 9 (.az 130 [])] [0,2,3,10])
 (.cond (.t 10)
 .skip
 (.exit 0)))
 (.block 1
 (.aq [aX 11 3 4,
 bq 12 11 3 4 1 false,
 ah 13 0,
 a0 14 13 (.az 131 []),
 aS 15 14 (.bf 5),
 ir 16 12 15 (.append 5 64),
 aX 17 3 4,
 bK 17 16 3 4 1] [0,2,3])))
def g133L0:aE:=.loop [0,2,3] g133B0
theorem g133L0e: cl AP g133L0 st=after (cl AP g133L0) (cl AP g133B0 (norm (restrict [0,2,3] st))):=aW
def g133:aB:=⟨1,27,[.c 2 5 true],
 (.seq
 (.aq [ed 2 kq] [0,2])
 (.seq
 (.aq [ed 3 kq] [0,2,3])
 (.seq
 (.seq
 (.aq [ah 4 0,
 cH 5 [.t 4,k_ 2] (.az 129 [])] [0,2,3,5])
 (.cond (.t 5)
 (.seq
 (.aq [ah 6 0,
 cH 7 [.t 6,k_ 2] (.az 128 []),
 cH 8 [.t 7,.c (.cg [])] (.az 62 []),
 bK 3 8 3 0 5] [0,2,3])
 (.block 0
 g133L0))
 (.aq [ah 18 0,
 a0 19 18 (.az 131 []),
 bK 3 19 3 0 5] [0,2,3])))
 (.seq
 (.seq
 (.aq [ah 20 0,
 cH 21 [.t 20,.c (.pv (.str [45,62]))] (.az 132 [])] [0,2,3,21])
 (.cond (.t 21)
 (.seq
 (.aq [bq 22 3 3 0 5 true,
 ah 23 0,
 a0 24 23 (.az 133 []),
 ir 25 22 24 (.aA 69),
 bK 2 25 2 0 5] [2])
 .ret)
 .skip))
 (.seq
 (.aq [bq 26 3 3 0 5 true,
 bK 2 26 2 0 5] [2])
 .ret))))),none,false⟩
def g134B0:aE:=
 (.seq
 (.seq
 (.aq [ah 69 0,
 aS 70 69 .aI,
 aX 71 70 2,
 a0 72 71 (.aJ 1 false),
 aS 73 72 (.un .not),
 ah 74 73,
 a6 75 74 true 0 (.v (.mv)),
 a6 76 74 true 75 (.v (.aI)),
 a6 77 74 true 76 (.v (.bE 1)),
 a6 78 74 true 77 (.aJ 1 false),
 a6 79 74 true 0 (.v (.mv)),
 a6 80 74 true 79 (.v (.aI)),
 a6 81 74 true 80 (.v (.bE 0)),
 a6 82 74 true 81 (.aJ 1 false),
 a6 83 74 true 82 (.v (.len)),
 d7 84 74 true [.t 78,.t 83] (.v (.bin .lss)),
 aP 85 [.t 74,.t 84,F_] .pick,
 ah 86 85,
 a6 87 86 true 0 (.v (.mv)),
 a6 88 86 true 87 (.v (.aI)),
 a6 89 86 true 88 (.v (.bE 0)),
 a6 90 86 true 89 (.aJ 1 false),
 a6 91 86 true 0 (.v (.mv)),
 a6 92 86 true 91 (.v (.aI)),
 a6 93 86 true 92 (.v (.bE 1)),
 a6 94 86 true 93 (.aJ 1 false),
 d7 95 86 true [.t 90,.t 94] (.v (.aO 3)),
 a6 96 86 true 95 (.v (.aR 3 true)),
 a6 97 86 true 96 (.aA 142),
 aP 98 [.t 86,.t 97,F_] .pick] [0,2,8,98])
 (.cond (.t 98)
 .skip
 (.exit 1)))
 (.block 2
 (.seq
 (.aq [ah 99 0,
 a0 100 99 (.az 141 []),
 ed 9 fp,
 bK 9 100 9 0 11] [0,2,8,9])
 (.aq [aX 101 8 1,
 bq 102 101 8 1 1 false,
 bq 103 8 8 0 11 true,
 bq 104 9 9 0 11 true,
 bW 105 103 104 (.bf 11),
 aP 106 [k_ 5,.t 102,.t 105] (.build fp [(0,1),(1,1),(4,1)]),
 bK 8 106 8 0 11] [0,2,8]))))
def g134L0:aE:=.loop [0,2,8] g134B0
theorem g134L0e: cl AP g134L0 st=after (cl AP g134L0) (cl AP g134B0 (norm (restrict [0,2,8] st))):=aW
def g134:aB:=⟨1,108,[.c 2 11 true],
 (.seq
 (.aq [ed 2 fp] [0,2])
 (.seq
 (.aq [ah 10 0,
 a0 11 10 (.az 126 []),
 ah 3 11] [0,2,3])
 (.seq
 (.block 0
 (.seq
 (.aq [ah 13 0,
 cH 14 [.t 13,.c (.pv (.str [92]))] (.az 132 []),
 ah 12 14] [0,2,3,12])
 (.cond (.t 12)
 (.seq
 (.aq [ah 15 0,
 cH 16 [.t 15,k_ 1] (.az 128 []),
 ah 4 16] [0,2,3,4])
 (.seq
 (.aq [ah 17 0,
 cH 18 [.t 17,.c (.pv (.str [46]))] (.az 127 [])] [0,2,3,4])
 (.seq
 (.seq
 (.aq [ah 19 0,
 aS 20 19 .aI,
 aX 21 20 2,
 a0 22 21 (.aJ 1 false)] [0,2,3,4,22])
 (.cond (.t 22)
 (.seq
 (.aq [aP 23 [] (.build fp []),
 bK 2 23 2 0 11] [2])
 .ret)
 .skip))
 (.seq
 (.aq [ah 24 3,
 ah 25 4,
 ah 26 0,
 a0 27 26 (.az 134 []),
 aS 28 27 (.bf 11),
 aP 29 [k_ 4,.t 24,.t 25,.t 28] (.build fp [(0,1),(1,1),(2,1),(4,1)]),
 bK 2 29 2 0 11] [2])
 .ret))))
 (.seq
 (.aq [ah 31 0,
 cH 32 [.t 31,.c (.pv (.str [108,101,116]))] (.az 132 []),
 ah 30 32] [0,2,3,30])
 (.cond (.t 30)
 (.seq
 (.aq [cB 5 (k_ 6)] [0,2,3,5])
 (.seq
 (.seq
 (.aq [ah 33 0,
 cH 34 [.t 33,.c (.pv (.str [114,101,99]))] (.az 132 [])] [0,2,3,5,34])
 (.cond (.t 34)
 (.aq [cB 5 (k_ 7)] [0,2,3,5])
 .skip))
 (.seq
 (.aq [ah 35 0,
 cH 36 [.t 35,k_ 1] (.az 128 []),
 ah 6 36] [0,2,3,5,6])
 (.seq
 (.aq [ah 37 0,
 cH 38 [.t 37,.c (.pv (.str [61]))] (.az 127 [])] [0,2,3,5,6])
 (.seq
 (.seq
 (.aq [ah 39 0,
 aS 40 39 .aI,
 aX 41 40 2,
 a0 42 41 (.aJ 1 false)] [0,2,3,5,6,42])
 (.cond (.t 42)
 (.seq
 (.aq [aP 43 [] (.build fp []),
 bK 2 43 2 0 11] [2])
 .ret)
 .skip))
 (.seq
 (.aq [ah 44 0,
 a0 45 44 (.az 134 []),
 ed 7 fp,
 bK 7 45 7 0 11] [0,2,3,5,6,7])
 (.seq
 (.aq [ah 46 0,
 cH 47 [.t 46,.c (.pv (.str [105,110]))] (.az 127 [])] [0,2,3,5,6,7])
 (.seq
 (.seq
 (.aq [ah 48 0,
 aS 49 48 .aI,
 aX 50 49 2,
 a0 51 50 (.aJ 1 false)] [0,2,3,5,6,7,51])
 (.cond (.t 51)
 (.seq
 (.aq [aP 52 [] (.build fp []),
 bK 2 52 2 0 11] [2])
 .ret)
 .skip))
 (.seq
 (.aq [ah 53 5,
 ah 54 3,
 ah 55 6,
 bq 56 7 7 0 11 true,
 ah 57 0,
 a0 58 57 (.az 134 []),
 bW 59 56 58 (.bf 11),
 aP 60 [.t 53,.t 54,.t 55,.t 59] (.build fp [(0,1),(1,1),(2,1),(4,1)]),
 bK 2 60 2 0 11] [2])
 .ret)))))))))
 (.seq
 (.aq [ah 62 0,
 cH 63 [.t 62,.c (.pv (.str [99,97,115,101]))] (.az 132 []),
 ah 61 63] [0,2,3,61])
 (.cond (.t 61)
 (.seq
 (.aq [ah 64 0,
 ah 65 3,
 ir 66 64 65 (.az 140 []),
 bK 2 66 2 0 11] [2])
 .ret)
 .skip)))))))
 (.seq
 (.aq [ah 67 0,
 a0 68 67 (.az 141 []),
 ed 8 fp,
 bK 8 68 8 0 11] [0,2,8])
 (.seq
 (.block 1
 g134L0)
 (.seq
 (.aq [bq 107 8 8 0 11 true,
 bK 2 107 2 0 11] [2])
 .ret)))))),none,false⟩
def g135:aB:=⟨1,10,[.t 2],
 (.seq
 (.aq [a0 1 0 (.box 1 11),
 cB 2 F_] [1])
 (.seq
 (.aq [bq 3 1 1 0 11 true,
 a0 4 3 (.aA 143),
 bb 5 4 40 (.bin .gtr),
 ah 6 5,
 a6 7 6 false 1 (.cD 1 0 11 true),
 a6 8 6 false 7 (.aA 144),
 aP 9 [.t 6,T_,.t 8] .pick,
 ah 2 9] [2])
 .ret)),none,false⟩
def g136B0:aE:=
 (.seq
 (.seq
 (.aq [ah 9 4,
 aX 10 1 5,
 bq 11 10 1 5 1 false,
 aS 12 11 .len,
 bW 13 9 12 (.bin .lss)] [1,4,13])
 (.cond (.t 13)
 .skip
 (.exit 0)))
 (.seq
 (.block 1
 (.seq
 (.aq [aX 16 1 5,
 bq 17 16 1 5 1 false,
 ah 18 4,
 bW 19 17 18 (.aO 14),
 aX 20 19 2,
 aS 21 20 (.aR 1 false),
 aS 22 21 .len,
 bb 23 22 4 (.bin .gtr)] [1,4,23])
 (.cond (.t 23)
 (.seq
 (.aq [aX 24 1 5,
 bq 25 24 1 5 1 false,
 ah 26 4,
 bW 27 25 26 (.aO 14),
 aX 28 27 0,
 aS 29 28 (.aR 1 false),
 ah 2 29,
 cB 3 T_] [2,3])
 .ret)
 .skip)))
 (.aq [ah 14 4,
 bb 15 14 1 (.bin .add),
 ah 4 15] [1,4])))
def g136L0:aE:=.loop [1,4] g136B0
theorem g136L0e: cl AP g136L0 st=after (cl AP g136L0) (cl AP g136B0 (norm (restrict [1,4] st))):=aW
def g136B1:aE:=
 (.seq
 (.seq
 (.aq [ah 32 6,
 ah 33 5,
 aS 34 33 .len,
 bW 35 32 34 (.bin .lss)] [5,6,35])
 (.cond (.t 35)
 .skip
 (.exit 2)))
 (.seq
 (.block 3
 (.seq
 (.aq [ah 39 5,
 ah 40 6,
 bW 41 39 40 (.aO 11),
 aS 42 41 (.aR 11 true),
 a0 43 42 (.aA 136),
 ah 38 43,
 aS 44 38 (.ext 0),
 aS 45 38 (.ext 1),
 ah 7 44,
 ah 8 45] [5,6,7,8])
 (.seq
 (.aq [ah 46 8] [5,6,7,46])
 (.cond (.t 46)
 (.seq
 (.aq [ah 47 7,
 ah 2 47,
 cB 3 T_] [2,3])
 .ret)
 .skip))))
 (.aq [ah 36 6,
 bb 37 36 1 (.bin .add),
 ah 6 37] [5,6])))
def g136L1:aE:=.loop [5,6] g136B1
theorem g136L1e: cl AP g136L1 st=after (cl AP g136L1) (cl AP g136B1 (norm (restrict [5,6] st))):=aW
def g136:aB:=⟨1,48,[.t 2,.t 3],
 (.seq
 (.aq [a0 1 0 (.box 1 11),
 cB 2 (k_ 0),
 cB 3 F_] [1])
 (.seq
 (.seq
 (.aq [cB 4 (k_ 0)] [1,4])
 (.block 0
 g136L0))
 (.seq
 (.aq [bq 30 1 1 0 11 true,
 a0 31 30 (.aA 145),
 ah 5 31] [5])
 (.seq
 (.seq
 (.aq [cB 6 (k_ 0)] [5,6])
 (.block 2
 g136L1))
 (.seq
 (.aq [cB 2 (k_ 0),
 cB 3 F_] [2,3])
 .ret))))),none,false⟩
def g137B0:aE:=
 (.seq
 (.seq
 (.aq [ah 21 3,
 ah 22 0,
 aS 23 22 .gP,
 bW 24 21 23 (.bin .lss)] [0,3,24])
 (.cond (.t 24)
 .skip
 (.exit 0)))
 (.seq
 (.block 1
 (.seq
 (.aq [ah 27 0,
 ah 28 3,
 bW 29 27 28 .index,
 a0 30 29 (.aA 124),
 aS 31 30 (.un .not)] [0,3,31])
 (.cond (.t 31)
 (.seq
 (.aq [cB 2 F_] [2])
 .ret)
 .skip)))
 (.aq [ah 25 3,
 bb 26 25 1 (.bin .add),
 ah 3 26] [0,3])))
def g137L0:aE:=.loop [0,3] g137B0
theorem g137L0e: cl AP g137L0 st=after (cl AP g137L0) (cl AP g137B0 (norm (restrict [0,3] st))):=aW
def g137:aB:=⟨1,32,[.t 2],
 (.seq
 (.aq [cB 2 F_] [0])
 (.seq
 (.seq
 (.aq [ah 4 0,
 aP 5 [.t 4,.c (.pv (.str []))] (.bin .eql),
 ah 6 5,
 a6 7 6 false 0 (.v (.mv)),
 a6 8 6 false 7 (.v (.gP)),
 d7 9 6 false [.t 8,k_ 9] (.v (.bin .gtr)),
 aP 10 [.t 6,T_,.t 9] .pick,
 ah 11 10,
 a6 12 11 false 0 (.v (.mv)),
 d7 13 11 false [.t 12,k_ 0] (.v (.index)),
 d7 14 11 false [.t 13,.c (.pv (.int .u8 48))] (.v (.bin .eql)),
 a6 15 11 false 14 (.v (.mv)),
 a6 16 15 true 0 (.v (.mv)),
 a6 17 15 true 16 (.v (.gP)),
 d7 18 15 true [.t 17,k_ 1] (.v (.bin .gtr)),
 d7 19 11 false [.t 15,.t 18,F_] (.v (.pick)),
 aP 20 [.t 11,T_,.t 19] .pick] [0,20])
 (.cond (.t 20)
 (.seq
 (.aq [cB 2 F_] [2])
 .ret)
 .skip))
 (.seq
 (.seq
 (.aq [cB 3 (k_ 0)] [0,3])
 (.block 0
 g137L0))
 (.seq
 (.aq [cB 2 T_] [2])
 .ret)))),none,false⟩
def g138B0:aE:=
 (.seq
 (.seq
 (.aq [ah 6 3,
 bb 7 6 11 (.bin .lss)] [0,3,7])
 (.cond (.t 7)
 .skip
 (.exit 0)))
 (.seq
 (.block 1
 (.seq
 (.aq [ah 10 0,
 ah 11 3,
 ah 12 3,
 bb 13 12 1 (.bin .add),
 aP 14 [.c (.pv (.str [92,46,61,59,58,124,40,41,123,125,63])),.t 11,.t 13] (.slice true 0 true true false),
 bW 15 10 14 (.bin .eql)] [0,3,15])
 (.cond (.t 15)
 (.seq
 (.aq [cB 2 T_] [2])
 .ret)
 .skip)))
 (.aq [ah 8 3,
 bb 9 8 1 (.bin .add),
 ah 3 9] [0,3])))
def g138L0:aE:=.loop [0,3] g138B0
theorem g138L0e: cl AP g138L0 st=after (cl AP g138L0) (cl AP g138B0 (norm (restrict [0,3] st))):=aW
def g138:aB:=⟨1,16,[.t 2],
 (.seq
 (.aq [cB 2 F_] [0])
 (.seq
 (.seq
 (.aq [ah 4 0,
 aP 5 [.t 4,.c (.pv (.str [45,62]))] (.bin .eql)] [0,5])
 (.cond (.t 5)
 (.seq
 (.aq [cB 2 T_] [2])
 .ret)
 .skip))
 (.seq
 (.seq
 (.aq [cB 3 (k_ 0)] [0,3])
 (.block 0
 g138L0))
 (.seq
 (.aq [cB 2 F_] [2])
 .ret)))),none,false⟩
def g139:aB:=⟨1,63,[],
 (.seq
 (.seq
 (.aq [ah 3 0,
 aS 4 3 .aI,
 aX 5 4 2,
 a0 6 5 (.aJ 1 false)] [0,6])
 (.cond (.t 6)
 .ret
 .skip))
 (.seq
 (.aq [ah 7 0,
 aS 8 7 .aI,
 aX 9 8 2,
 DM [.t 9,T_] (.dE 1)] [0])
 (.block 0
 (.seq
 (.aq [ah 11 0,
 aS 12 11 .aI,
 aX 13 12 1,
 a0 14 13 (.aJ 1 false),
 ah 15 0,
 aS 16 15 .aI,
 aX 17 16 0,
 a0 18 17 (.aJ 1 false),
 aS 19 18 .len,
 bW 20 14 19 (.bin .lss),
 ah 10 20] [0,10])
 (.cond (.t 10)
 (.aq [ah 21 0,
 ah 22 0,
 aS 23 22 .aI,
 aX 24 23 0,
 a0 25 24 (.aJ 1 false),
 ah 26 0,
 aS 27 26 .aI,
 aX 28 27 1,
 a0 29 28 (.aJ 1 false),
 bW 30 25 29 (.aO 3),
 aX 31 30 2,
 aS 32 31 (.aR 1 false),
 aS 33 21 .aI,
 aX 34 33 3,
 DM [.t 34,.t 32] (.dE 1)] [])
 (.seq
 (.aq [ah 36 0,
 aS 37 36 .aI,
 aX 38 37 0,
 a0 39 38 (.aJ 1 false),
 aS 40 39 .len,
 bb 41 40 0 (.bin .gtr),
 ah 35 41] [0,35])
 (.cond (.t 35)
 (.seq
 (.aq [ah 42 0,
 aS 43 42 .aI,
 aX 44 43 0,
 a0 45 44 (.aJ 1 false),
 ah 46 0,
 aS 47 46 .aI,
 aX 48 47 0,
 a0 49 48 (.aJ 1 false),
 aS 50 49 .len,
 bb 51 50 1 (.bin .sub),
 bW 52 45 51 (.aO 3),
 aS 53 52 (.aR 3 true),
 ed 2 [bL,gO,bL],
 bK 2 53 2 0 3] [0,2])
 (.aq [ah 54 0,
 aX 55 2 2,
 bq 56 55 2 2 1 false,
 aX 57 2 1,
 bq 58 57 2 1 1 false,
 aS 59 58 .gP,
 bW 60 56 59 (.bin .add),
 aS 61 54 .aI,
 aX 62 61 3,
 DM [.t 62,.t 60] (.dE 1)] []))
 .skip))))))),none,false⟩
def g140B1:aE:=
 (.seq
 (.seq
 (.aq [ah 19 0,
 cH 20 [.t 19,k_ 1] (.az 129 [])] [0,4,5,6,20])
 (.cond (.t 20)
 .skip
 (.exit 2)))
 (.block 3
 (.aq [aX 21 6 2,
 bq 22 21 6 2 1 false,
 ah 23 0,
 cH 24 [.t 23,k_ 1] (.az 128 []),
 aS 25 24 (.bf 1),
 ir 26 22 25 (.append 1 16),
 aX 27 6 2,
 bK 27 26 6 2 1] [0,4,5,6])))
def g140L1:aE:=.loop [0,4,5,6] g140B1
theorem g140L1e: cl AP g140L1 st=after (cl AP g140L1) (cl AP g140B1 (norm (restrict [0,4,5,6] st))):=aW
def g140B0:aE:=
 (.block 1
 (.seq
 (.aq [ah 14 0,
 a0 15 14 (.az 126 []),
 ah 16 0,
 cH 17 [.t 16,k_ 2] (.az 128 []),
 bW 18 15 17 (.build [bL,gO,eD,bL,bL,gO,bL,eD,eD,bL,gO,bL,bL,eD] [(0,1),(1,1)]),
 ed 6 [bL,gO,eD,bL,bL,gO,bL,eD,eD,bL,gO,bL,bL,eD],
 bK 6 18 6 0 14] [0,4,5,6])
 (.seq
 (.block 2
 g140L1)
 (.seq
 (.aq [ah 28 0,
 cH 29 [.t 28,.c (.pv (.str [46]))] (.az 127 [])] [0,4,5,6])
 (.seq
 (.seq
 (.aq [ah 30 0,
 aS 31 30 .aI,
 aX 32 31 2,
 a0 33 32 (.aJ 1 false)] [0,4,5,6,33])
 (.cond (.t 33)
 (.seq
 (.aq [aP 34 [] (.build fp []),
 bK 4 34 4 0 11] [4])
 .ret)
 .skip))
 (.seq
 (.aq [ah 35 0,
 a0 36 35 (.az 134 []),
 aX 37 6 3,
 bK 37 36 6 3 11] [0,4,5,6])
 (.seq
 (.aq [aX 38 5 5,
 bq 39 38 5 5 1 false,
 bq 40 6 6 0 14 true,
 aS 41 40 (.bf 14),
 ir 42 39 41 (.append 14 200),
 aX 43 5 5,
 bK 43 42 5 5 1] [0,4,5])
 (.seq
 (.aq [ah 44 0,
 cH 45 [.t 44,.c (.pv (.str [124]))] (.az 132 []),
 aS 46 45 (.un .not)] [0,4,5,46])
 (.cond (.t 46)
 (.exit 0)
 .skip)))))))))
def g140L0:aE:=.loop [0,4,5] g140B0
theorem g140L0e: cl AP g140L0 st=after (cl AP g140L0) (cl AP g140B0 (norm (restrict [0,4,5] st))):=aW
def g140:aB:=⟨2,50,[.c 4 11 true],
 (.seq
 (.aq [ed 4 fp] [0,1,4])
 (.seq
 (.aq [ah 7 1,
 ah 8 0,
 a0 9 8 (.az 134 []),
 aS 10 9 (.bf 11),
 aP 11 [k_ 8,.t 7,.t 10] (.build fp [(0,1),(1,1),(4,1)]),
 ed 5 fp,
 bK 5 11 5 0 11] [0,4,5])
 (.seq
 (.aq [ah 12 0,
 cH 13 [.t 12,.c (.pv (.str [111,102]))] (.az 127 [])] [0,4,5])
 (.seq
 (.block 0
 g140L0)
 (.seq
 (.aq [ah 47 0,
 cH 48 [.t 47,.c (.pv (.str [101,110,100]))] (.az 127 [])] [4,5])
 (.seq
 (.aq [bq 49 5 5 0 11 true,
 bK 4 49 4 0 11] [4])
 .ret)))))),none,false⟩
def g141:aB:=⟨1,68,[.c 2 11 true],
 (.seq
 (.aq [ed 2 fp] [0,2])
 (.seq
 (.aq [ah 7 0,
 a0 8 7 (.az 126 []),
 ah 3 8] [0,2,3])
 (.seq
 (.block 0
 (.seq
 (.aq [ah 10 0,
 cH 11 [.t 10,k_ 1] (.az 129 []),
 ah 9 11] [0,2,3,9])
 (.cond (.t 9)
 (.seq
 (.aq [ah 12 3,
 ah 13 0,
 cH 14 [.t 13,k_ 1] (.az 128 []),
 aP 15 [k_ 1,.t 12,.t 14] (.build fp [(0,1),(1,1),(2,1)]),
 bK 2 15 2 0 11] [2])
 .ret)
 (.seq
 (.aq [ah 17 0,
 cH 18 [.t 17,k_ 2] (.az 129 []),
 ah 16 18] [0,2,3,16])
 (.cond (.t 16)
 (.seq
 (.aq [ah 19 3,
 ah 20 0,
 cH 21 [.t 20,k_ 2] (.az 128 []),
 aP 22 [k_ 2,.t 19,.t 21] (.build fp [(0,1),(1,1),(2,1)]),
 bK 2 22 2 0 11] [2])
 .ret)
 (.seq
 (.aq [ah 24 0,
 cH 25 [.t 24,k_ 3] (.az 129 []),
 ah 23 25] [0,2,3,23])
 (.cond (.t 23)
 (.seq
 (.aq [ah 26 3,
 ah 27 0,
 cH 28 [.t 27,k_ 3] (.az 128 []),
 a0 29 28 (.aA 146),
 aP 30 [k_ 3,.t 26,.t 29] (.build fp [(0,1),(1,1),(3,1)]),
 bK 2 30 2 0 11] [2])
 .ret)
 (.seq
 (.aq [ah 32 0,
 cH 33 [.t 32,.c (.pv (.str [63]))] (.az 132 []),
 ah 31 33] [0,2,3,31])
 (.cond (.t 31)
 (.seq
 (.aq [ah 34 3,
 aP 35 [k_ 10,.t 34] (.build fp [(0,1),(1,1)]),
 bK 2 35 2 0 11] [2])
 .ret)
 (.seq
 (.aq [ah 37 0,
 cH 38 [.t 37,.c (.pv (.str [123]))] (.az 132 []),
 ah 36 38] [0,2,3,36])
 (.cond (.t 36)
 (.seq
 (.aq [ah 39 0,
 a0 40 39 (.az 134 []),
 ed 4 fp,
 bK 4 40 4 0 11] [0,2,3,4])
 (.seq
 (.aq [ah 41 0,
 cH 42 [.t 41,.c (.pv (.str [125]))] (.az 127 [])] [2,3,4])
 (.seq
 (.aq [ah 43 3,
 bq 44 4 4 0 11 true,
 aS 45 44 (.bf 11),
 aP 46 [k_ 11,.t 43,.t 45] (.build fp [(0,1),(1,1),(4,1)]),
 bK 2 46 2 0 11] [2])
 .ret)))
 .skip)))))))))))
 (.seq
 (.aq [ah 47 0,
 cH 48 [.t 47,.c (.pv (.str [40]))] (.az 127 [])] [0,2,3])
 (.seq
 (.seq
 (.aq [ah 49 0,
 aS 50 49 .aI,
 aX 51 50 2,
 a0 52 51 (.aJ 1 false)] [0,2,3,52])
 (.cond (.t 52)
 (.seq
 (.aq [aP 53 [] (.build fp []),
 bK 2 53 2 0 11] [2])
 .ret)
 .skip))
 (.seq
 (.aq [ah 54 0,
 a0 55 54 (.az 134 []),
 ed 5 fp,
 bK 5 55 5 0 11] [0,2,3,5])
 (.seq
 (.seq
 (.aq [ah 56 0,
 cH 57 [.t 56,.c (.pv (.str [58]))] (.az 132 [])] [0,2,3,5,57])
 (.cond (.t 57)
 (.seq
 (.aq [ah 58 0,
 a0 59 58 (.az 133 []),
 ed 6 kq,
 bK 6 59 6 0 5] [0,2,3,5,6])
 (.aq [ah 60 3,
 bq 61 5 5 0 11 true,
 aS 62 61 (.bf 11),
 bq 63 6 6 0 5 true,
 aP 64 [k_ 9,.t 60,.t 62,.t 63] (.build fp [(0,1),(1,1),(4,1),(6,5)]),
 bK 5 64 5 0 11] [0,2,5]))
 .skip))
 (.seq
 (.aq [ah 65 0,
 cH 66 [.t 65,.c (.pv (.str [41]))] (.az 127 [])] [2,5])
 (.seq
 (.aq [bq 67 5 5 0 11 true,
 bK 2 67 2 0 11] [2])
 .ret))))))))),none,false⟩
def g142:aB:=⟨1,24,[.t 2],
 (.seq
 (.aq [a0 1 0 (.box 1 3),
 cB 2 F_] [1])
 (.seq
 (.seq
 (.aq [aX 3 1 0,
 bq 4 3 1 0 1 false] [1,4])
 (.block 0
 (.seq
 (.seq
 (.aq [bb 6 4 1 (.bin .eql),
 ah 5 6] [1,4,5])
 (.cond (.t 5)
 .skip
 (.seq
 (.aq [bb 7 4 2 (.bin .eql),
 ah 5 7] [1,4,5])
 (.cond (.t 5)
 .skip
 (.aq [bb 8 4 3 (.bin .eql),
 ah 5 8] [1,4,5])))))
 (.cond (.t 5)
 (.seq
 (.aq [cB 2 T_] [2])
 .ret)
 (.seq
 (.aq [bb 10 4 5 (.bin .eql),
 ah 9 10] [1,9])
 (.cond (.t 9)
 (.seq
 (.aq [aX 11 1 1,
 bq 12 11 1 1 1 false,
 aP 13 [.t 12,.c (.pv (.str [63]))] (.bin .eql),
 ah 14 13,
 a6 15 14 false 1 (.v (.bE 1)),
 a6 16 14 false 15 (.cD 1 1 1 false),
 d7 17 14 false [.t 16,.c (.pv (.str [40]))] (.v (.bin .eql)),
 aP 18 [.t 14,T_,.t 17] .pick,
 ah 19 18,
 a6 20 19 false 1 (.v (.bE 1)),
 a6 21 19 false 20 (.cD 1 1 1 false),
 d7 22 19 false [.t 21,.c (.pv (.str [123]))] (.v (.bin .eql)),
 aP 23 [.t 19,T_,.t 22] .pick,
 ah 2 23] [2])
 .ret)
 .skip))))))
 (.seq
 (.aq [cB 2 F_] [2])
 .ret))),none,false⟩
def g143B0:aE:=
 (.seq
 (.seq
 (.aq [ah 8 5,
 ah 9 4,
 aS 10 9 .len,
 bW 11 8 10 (.bin .lss)] [3,4,5,11])
 (.cond (.t 11)
 .skip
 (.exit 0)))
 (.seq
 (.block 1
 (.aq [ah 14 3,
 ah 15 4,
 ah 16 5,
 bW 17 15 16 (.aO 11),
 aS 18 17 (.aR 11 true),
 a0 19 18 (.aA 143),
 aP 20 [k_ 1,.t 19] (.bin .add),
 bW 21 14 20 .mx,
 ah 3 21] [3,4,5]))
 (.aq [ah 12 5,
 bb 13 12 1 (.bin .add),
 ah 5 13] [3,4,5])))
def g143L0:aE:=.loop [3,4,5] g143B0
theorem g143L0e: cl AP g143L0 st=after (cl AP g143L0) (cl AP g143B0 (norm (restrict [3,4,5] st))):=aW
def g143:aB:=⟨1,23,[.t 2],
 (.seq
 (.aq [a0 1 0 (.box 1 11),
 cB 2 (k_ 0)] [1])
 (.seq
 (.aq [cB 3 (k_ 0)] [1,3])
 (.seq
 (.aq [bq 6 1 1 0 11 true,
 a0 7 6 (.aA 145),
 ah 4 7] [3,4])
 (.seq
 (.seq
 (.aq [cB 5 (k_ 0)] [3,4,5])
 (.block 0
 g143L0))
 (.seq
 (.aq [ah 22 3,
 ah 2 22] [2])
 .ret))))),none,false⟩
def g144B0:aE:=
 (.seq
 (.seq
 (.aq [ah 16 4,
 ah 17 3,
 aS 18 17 .len,
 bW 19 16 18 (.bin .lss)] [3,4,19])
 (.cond (.t 19)
 .skip
 (.exit 0)))
 (.seq
 (.block 1
 (.seq
 (.aq [ah 22 3,
 ah 23 4,
 bW 24 22 23 (.aO 11),
 aS 25 24 (.aR 11 true),
 a0 26 25 (.aA 144)] [3,4,26])
 (.cond (.t 26)
 (.seq
 (.aq [cB 2 T_] [2])
 .ret)
 .skip)))
 (.aq [ah 20 4,
 bb 21 20 1 (.bin .add),
 ah 4 21] [3,4])))
def g144L0:aE:=.loop [3,4] g144B0
theorem g144L0e: cl AP g144L0 st=after (cl AP g144L0) (cl AP g144B0 (norm (restrict [3,4] st))):=aW
def g144:aB:=⟨1,27,[.t 2],
 (.seq
 (.aq [a0 1 0 (.box 1 11),
 cB 2 F_] [1])
 (.seq
 (.seq
 (.aq [aX 5 1 0,
 bq 6 5 1 0 1 false,
 bb 7 6 9 (.bin .eql),
 ah 8 7,
 a6 9 8 true 1 (.v (.bE 6)),
 a6 10 8 true 9 (.cD 1 6 5 true),
 a6 11 8 true 10 (.aA 52),
 d7 12 8 true [.t 11,k_ 40] (.v (.bin .gtr)),
 aP 13 [.t 8,.t 12,F_] .pick] [1,13])
 (.cond (.t 13)
 (.seq
 (.aq [cB 2 T_] [2])
 .ret)
 .skip))
 (.seq
 (.aq [bq 14 1 1 0 11 true,
 a0 15 14 (.aA 145),
 ah 3 15] [3])
 (.seq
 (.seq
 (.aq [cB 4 (k_ 0)] [3,4])
 (.block 0
 g144L0))
 (.seq
 (.aq [cB 2 F_] [2])
 .ret))))),none,false⟩
def g145B0:aE:=
 (.seq
 (.seq
 (.aq [ah 8 4,
 aX 9 1 5,
 bq 10 9 1 5 1 false,
 aS 11 10 .len,
 bW 12 8 11 (.bin .lss)] [1,3,4,12])
 (.cond (.t 12)
 .skip
 (.exit 0)))
 (.seq
 (.block 1
 (.aq [ah 15 3,
 aX 16 1 5,
 bq 17 16 1 5 1 false,
 ah 18 4,
 bW 19 17 18 (.aO 14),
 aX 20 19 3,
 a0 21 20 (.aJ 11 true),
 aS 22 21 (.bf 11),
 ir 23 15 22 (.di 11 152 true),
 ah 3 23] [1,3,4]))
 (.aq [ah 13 4,
 bb 14 13 1 (.bin .add),
 ah 4 14] [1,3,4])))
def g145L0:aE:=.loop [1,3,4] g145B0
theorem g145L0e: cl AP g145L0 st=after (cl AP g145L0) (cl AP g145B0 (norm (restrict [1,3,4] st))):=aW
def g145:aB:=⟨1,25,[.t 2],
 (.seq
 (.aq [a0 1 0 (.box 1 11),
 aP 2 [.c (.cg [])] .mv] [1])
 (.seq
 (.aq [aX 5 1 4,
 bq 6 5 1 4 1 false,
 cH 7 [.c (.cg []),.t 6] (.di 11 152 true),
 ah 3 7] [1,3])
 (.seq
 (.seq
 (.aq [cB 4 (k_ 0)] [1,3,4])
 (.block 0
 g145L0))
 (.seq
 (.aq [ah 24 3,
 ah 2 24] [2])
 .ret)))),none,true⟩
def g146B0:aE:=
 (.seq
 (.seq
 (.aq [ah 5 4,
 ah 6 0,
 aS 7 6 .gP,
 bW 8 5 7 (.bin .lss)] [0,3,4,8])
 (.cond (.t 8)
 .skip
 (.exit 0)))
 (.seq
 (.block 1
 (.aq [ah 11 3,
 aP 12 [k_ 10,.t 11] (.bin .mul),
 ah 13 0,
 ah 14 4,
 bW 15 13 14 .index,
 aP 16 [.t 15,.c (.pv (.int .u8 48))] (.bin .sub),
 aS 17 16 (.conv .i64),
 bW 18 12 17 (.bin .add),
 ah 3 18] [0,3,4]))
 (.aq [ah 9 4,
 bb 10 9 1 (.bin .add),
 ah 4 10] [0,3,4])))
def g146L0:aE:=.loop [0,3,4] g146B0
theorem g146L0e: cl AP g146L0 st=after (cl AP g146L0) (cl AP g146B0 (norm (restrict [0,3,4] st))):=aW
def g146:aB:=⟨1,20,[.t 2],
 (.seq
 (.aq [cB 2 (k_ 0)] [0])
 (.seq
 (.aq [cB 3 (k_ 0)] [0,3])
 (.seq
 (.seq
 (.aq [cB 4 (k_ 0)] [0,3,4])
 (.block 0
 g146L0))
 (.seq
 (.aq [ah 19 3,
 ah 2 19] [2])
 .ret)))),none,false⟩
def g175:aB:=⟨1,8,[.t 2],
 (.seq
 (.aq [aP 2 [.c (.pv (.str []))] .mv] [0])
 (.seq
 (.aq [aP 3 [.c (.pv (.str [120])),.c (.pv (.str [121])),.c (.pv (.str [122])),.c (.pv (.str [102])),.c (.pv (.str [103])),.c (.pv (.str [118,49])),.c (.pv (.str [118,50])),.c (.pv (.str [105,100]))] (.bf 1),
 ah 4 0,
 cH 5 [.t 4,k_ 8] (.az 68 []),
 bW 6 3 5 (.aO 1),
 aS 7 6 (.aR 1 false),
 ah 2 7] [2])
 .ret)),none,false⟩
def g194:aB:=⟨1,29,[.c 2 5 true,.c 3 5 true,.t 4],
 (.seq
 (.aq [a0 1 0 (.box 1 5),
 ed 2 kq,
 ed 3 kq,
 cB 4 F_] [1,2,3])
 (.seq
 (.seq
 (.aq [aX 5 1 0,
 bq 6 5 1 0 1 false,
 bb 7 6 4 (.bin .eql),
 ah 8 7,
 a6 9 8 true 1 (.v (.bE 1)),
 a6 10 8 true 9 (.cD 1 1 1 false),
 d7 11 8 true [.t 10,.c (.pv (.str [45,62]))] (.v (.bin .eql)),
 aP 12 [.t 8,.t 11,F_] .pick,
 ah 13 12,
 a6 14 13 true 1 (.v (.bE 4)),
 a6 15 13 true 14 (.cD 1 4 1 false),
 a6 16 13 true 15 (.v (.len)),
 d7 17 13 true [.t 16,k_ 2] (.v (.bin .eql)),
 aP 18 [.t 13,.t 17,F_] .pick] [1,2,3,18])
 (.cond (.t 18)
 (.seq
 (.aq [aX 19 1 4,
 bq 20 19 1 4 1 false,
 bb 21 20 0 (.aO 5),
 aS 22 21 (.aR 5 true),
 aX 23 1 4,
 bq 24 23 1 4 1 false,
 bb 25 24 1 (.aO 5),
 aS 26 25 (.aR 5 true),
 bK 2 22 2 0 5,
 bK 3 26 3 0 5,
 cB 4 T_] [2,3,4])
 .ret)
 .skip))
 (.seq
 (.aq [aP 27 [] (.build kq []),
 aP 28 [] (.build kq []),
 bK 2 27 2 0 5,
 bK 3 28 3 0 5,
 cB 4 F_] [2,3,4])
 .ret))),none,false⟩
def g242:aB:=⟨2,24,[.t 4],
 (.seq
 (.aq [cB 4 F_] [0,1])
 (.seq
 (.seq
 (.aq [cH 7 [] (.aA 244),
 aS 8 7 (.un .not)] [0,1,8])
 (.cond (.t 8)
 (.seq
 (.aq [cB 4 F_] [4])
 .ret)
 .skip))
 (.seq
 (.seq
 (.aq [ah 9 1,
 a0 10 9 (.aA 15),
 aS 11 10 (.un .not)] [0,1,11])
 (.cond (.t 11)
 (.seq
 (.aq [cB 4 T_] [4])
 .ret)
 .skip))
 (.seq
 (.aq [ah 12 1,
 aS 13 12 (.build [eD,bL] [(0,1)]),
 a0 14 13 (.kr 2),
 ah 5 14] [0,5])
 (.seq
 (.aq [ah 15 5,
 ah 16 0,
 a0 17 16 (.aA 32),
 cH 18 [.t 15,.t 17,k_ 5] (.az 247 []),
 ed 6 fp,
 bK 6 18 6 0 11] [6])
 (.seq
 (.aq [bq 19 6 6 0 11 true,
 a0 20 19 (.aA 248),
 bq 21 6 6 0 11 true,
 a0 22 21 (.aA 249),
 bW 23 20 22 (.bin .eql),
 ah 4 23] [4])
 .ret)))))),none,false⟩
def g244:aB:=⟨0,23,[.t 0],
 (.seq
 (.aq [cB 0 F_] [])
 (.seq
 (.aq [aP 3 [k_ 1,.c (.pv (.str [120]))] (.build fp [(0,1),(2,1)]),
 cH 4 [.c (.pv (.str [103])),.t 3] (.aA 254),
 cH 5 [.c (.pv (.str [102])),.t 4] (.aA 254),
 ed 1 fp,
 bK 1 5 1 0 11] [1])
 (.seq
 (.aq [cH 6 [k_ 0] (.aA 72),
 cH 7 [k_ 1] (.aA 72),
 ir 8 6 7 (.aA 69),
 cH 9 [k_ 1] (.aA 63),
 ir 10 8 9 (.aA 69),
 ed 2 kq,
 bK 2 10 2 0 5] [1,2])
 (.seq
 (.aq [bq 11 1 1 0 11 true,
 a0 12 11 (.aA 248),
 aP 13 [.t 12,.c (.pv (.str [102,32,40,103,32,120,41]))] (.bin .eql),
 ah 14 13,
 a6 15 14 true 2 (.cD 2 0 5 true),
 a6 16 14 true 15 (.aA 252),
 d7 17 14 true [.t 16,.c (.pv (.str [40,97,32,45,62,32,98,41,32,45,62,32,95,98]))] (.v (.bin .eql)),
 aP 18 [.t 14,.t 17,F_] .pick,
 ah 19 18,
 d7 20 19 true [k_ 27] (.aA 245),
 d7 21 19 true [.t 20,.c (.pv (.str [98,49]))] (.v (.bin .eql)),
 aP 22 [.t 19,.t 21,F_] .pick,
 ah 0 22] [0])
 .ret)))),none,false⟩
def g245:aB:=⟨1,24,[.t 2],
 (.seq
 (.aq [aP 2 [.c (.pv (.str []))] .mv] [0])
 (.seq
 (.aq [ah 5 0,
 bb 6 5 0 .mx,
 ah 0 6] [0])
 (.seq
 (.aq [aP 7 [.c (.pv (.int .u8 97)),.c (.pv (.int .u8 98)),.c (.pv (.int .u8 99)),.c (.pv (.int .u8 100)),.c (.pv (.int .u8 101)),.c (.pv (.int .u8 102)),.c (.pv (.int .u8 103)),.c (.pv (.int .u8 104)),.c (.pv (.int .u8 105)),.c (.pv (.int .u8 106)),.c (.pv (.int .u8 107)),.c (.pv (.int .u8 108)),.c (.pv (.int .u8 109)),.c (.pv (.int .u8 110)),.c (.pv (.int .u8 111)),.c (.pv (.int .u8 112)),.c (.pv (.int .u8 113)),.c (.pv (.int .u8 114)),.c (.pv (.int .u8 115)),.c (.pv (.int .u8 116)),.c (.pv (.int .u8 117)),.c (.pv (.int .u8 118)),.c (.pv (.int .u8 119)),.c (.pv (.int .u8 120)),.c (.pv (.int .u8 121)),.c (.pv (.int .u8 122))] (.bf 1),
 ah 3 7] [0,3])
 (.seq
 (.aq [ah 8 3,
 ah 9 0,
 bb 10 9 26 (.bin .rem),
 ah 11 0,
 bb 12 11 26 (.bin .rem),
 bb 13 12 1 (.bin .add),
 aP 14 [.t 8,.t 10,.t 13] (.slice false 1 true true false),
 aS 15 14 .b2s,
 ah 4 15] [0,4])
 (.seq
 (.seq
 (.aq [ah 16 0,
 bb 17 16 26 (.bin .geq)] [0,4,17])
 (.cond (.t 17)
 (.aq [ah 18 4,
 ah 19 0,
 bb 20 19 26 (.bin .quo),
 a0 21 20 (.aA 255),
 bW 22 18 21 (.bin .add),
 ah 4 22] [4])
 .skip))
 (.seq
 (.aq [ah 23 4,
 ah 2 23] [2])
 .ret)))))),none,false⟩
def g247B1:aE:=
 (.seq
 (.seq
 (.aq [ah 171 17,
 aX 172 13 3,
 bq 173 172 13 3 1 false,
 ah 174 15,
 bW 175 173 174 (.aO 3),
 aX 176 175 2,
 aS 177 176 (.aR 1 false),
 aS 178 177 .len,
 bW 179 171 178 (.bin .lss)] [0,1,2,6,13,14,15,16,17,179])
 (.cond (.t 179)
 .skip
 (.exit 3)))
 (.seq
 (.block 4
 (.aq [aX 182 16 2,
 bq 183 182 16 2 1 false,
 ah 184 0,
 a0 185 184 (.az 175 []),
 aS 186 185 (.bf 1),
 ir 187 183 186 (.append 1 16),
 aX 188 16 2,
 bK 188 187 16 2 1] [0,1,2,6,13,14,15,16,17]))
 (.aq [ah 180 17,
 bb 181 180 1 (.bin .add),
 ah 17 181] [0,1,2,6,13,14,15,16,17])))
def g247L1:aE:=.loop [0,1,2,6,13,14,15,16,17] g247B1
theorem g247L1e: cl AP g247L1 st=after (cl AP g247L1) (cl AP g247B1 (norm (restrict [0,1,2,6,13,14,15,16,17] st))):=aW
def g247B0:aE:=
 (.seq
 (.seq
 (.aq [ah 157 15,
 aX 158 13 3,
 bq 159 158 13 3 1 false,
 aS 160 159 .len,
 bW 161 157 160 (.bin .lss)] [0,1,2,6,13,14,15,161])
 (.cond (.t 161)
 .skip
 (.exit 1)))
 (.seq
 (.block 2
 (.seq
 (.aq [aX 164 13 3,
 bq 165 164 13 3 1 false,
 ah 166 15,
 bW 167 165 166 (.aO 3),
 aX 168 167 1,
 aS 169 168 (.aR 1 false),
 aS 170 169 (.build [bL,gO,eD,bL,bL,gO,bL,eD,eD,bL,gO,bL,bL,eD] [(1,1)]),
 ed 16 [bL,gO,eD,bL,bL,gO,bL,eD,eD,bL,gO,bL,bL,eD],
 bK 16 170 16 0 14] [0,1,2,6,13,14,15,16])
 (.seq
 (.seq
 (.aq [cB 17 (k_ 0)] [0,1,2,6,13,14,15,16,17])
 (.block 3
 g247L1))
 (.seq
 (.aq [ah 189 0,
 ah 190 1,
 ah 191 2,
 bb 192 191 1 (.bin .sub),
 cH 193 [.t 189,.t 190,.t 192] (.az 247 []),
 aX 194 16 3,
 bK 194 193 16 3 11] [0,1,2,6,13,14,15,16])
 (.aq [aX 195 14 5,
 bq 196 195 14 5 1 false,
 bq 197 16 16 0 14 true,
 aS 198 197 (.bf 14),
 ir 199 196 198 (.append 14 200),
 aX 200 14 5,
 bK 200 199 14 5 1] [0,1,2,6,13,14,15])))))
 (.aq [ah 162 15,
 bb 163 162 1 (.bin .add),
 ah 15 163] [0,1,2,6,13,14,15])))
def g247L0:aE:=.loop [0,1,2,6,13,14,15] g247B0
theorem g247L0e: cl AP g247L0 st=after (cl AP g247L0) (cl AP g247B0 (norm (restrict [0,1,2,6,13,14,15] st))):=aW
def g247:aB:=⟨3,202,[.c 6 11 true],
 (.seq
 (.aq [ed 6 fp] [0,1,2,6])
 (.seq
 (.aq [ah 18 0,
 cH 19 [.t 18,k_ 14] (.az 68 []),
 ah 7 19] [0,1,2,6,7])
 (.seq
 (.seq
 (.aq [ah 20 2,
 bb 21 20 1 (.bin .lss)] [0,1,2,6,7,21])
 (.cond (.t 21)
 (.aq [ah 22 7,
 bb 23 22 5 (.bin .rem),
 ah 7 23] [0,1,2,6,7])
 .skip))
 (.seq
 (.seq
 (.aq [ah 24 7] [0,1,2,6,24])
 (.block 0
 (.seq
 (.seq
 (.aq [bb 26 24 0 (.bin .eql),
 ah 25 26] [0,1,2,6,24,25])
 (.cond (.t 25)
 .skip
 (.aq [bb 27 24 1 (.bin .eql),
 ah 25 27] [0,1,2,6,24,25])))
 (.cond (.t 25)
 (.seq
 (.aq [ah 28 0,
 a0 29 28 (.az 175 []),
 aP 30 [k_ 1,.t 29] (.build fp [(0,1),(2,1)]),
 bK 6 30 6 0 11] [6])
 .ret)
 (.seq
 (.aq [bb 32 24 2 (.bin .eql),
 ah 31 32] [0,1,2,6,24,31])
 (.cond (.t 31)
 (.seq
 (.aq [ah 33 0,
 cH 34 [.t 33,k_ 4] (.az 68 []),
 aP 35 [k_ 3,.t 34] (.build fp [(0,1),(3,1)]),
 bK 6 35 6 0 11] [6])
 .ret)
 (.seq
 (.aq [bb 37 24 3 (.bin .eql),
 ah 36 37] [0,1,2,6,24,36])
 (.cond (.t 36)
 (.seq
 (.seq
 (.aq [ah 38 1,
 aS 39 38 .len,
 bb 40 39 0 (.bin .gtr)] [0,1,6,40])
 (.cond (.t 40)
 (.seq
 (.aq [ah 41 1,
 ah 42 0,
 ah 43 1,
 aS 44 43 .len,
 ir 45 42 44 (.az 68 []),
 bW 46 41 45 (.aO 4),
 a0 47 46 (.aJ 4 true),
 ed 8 DN,
 bK 8 47 8 0 4] [0,6,8])
 (.seq
 (.aq [aX 48 8 3,
 bq 49 48 8 3 1 false,
 ah 50 0,
 aX 51 8 3,
 bq 52 51 8 3 1 false,
 aS 53 52 .len,
 ir 54 50 53 (.az 68 []),
 bW 55 49 54 (.aO 3),
 aX 56 55 1,
 aS 57 56 (.aR 1 false),
 aP 58 [k_ 2,.t 57] (.build fp [(0,1),(2,1)]),
 bK 6 58 6 0 11] [6])
 .ret))
 .skip))
 (.seq
 (.aq [aP 59 [k_ 2,.c (.pv (.str [71,111,110,101]))] (.build fp [(0,1),(2,1)]),
 bK 6 59 6 0 11] [6])
 .ret))
 (.seq
 (.aq [bb 61 24 4 (.bin .eql),
 ah 60 61] [0,1,2,6,24,60])
 (.cond (.t 60)
 (.seq
 (.aq [aP 62 [k_ 10] (.build fp [(0,1)]),
 bK 6 62 6 0 11] [6])
 .ret)
 (.seq
 (.seq
 (.aq [bb 64 24 5 (.bin .eql),
 ah 63 64] [0,1,2,6,24,63])
 (.cond (.t 63)
 .skip
 (.aq [bb 65 24 6 (.bin .eql),
 ah 63 65] [0,1,2,6,24,63])))
 (.cond (.t 63)
 (.seq
 (.aq [ah 66 0,
 a0 67 66 (.az 175 []),
 ah 68 0,
 ah 69 1,
 ah 70 2,
 bb 71 70 1 (.bin .sub),
 cH 72 [.t 68,.t 69,.t 71] (.az 247 []),
 aS 73 72 (.bf 11),
 aP 74 [k_ 4,.t 67,.t 73] (.build fp [(0,1),(2,1),(4,1)]),
 bK 6 74 6 0 11] [6])
 .ret)
 (.seq
 (.seq
 (.aq [bb 76 24 7 (.bin .eql),
 ah 75 76] [0,1,2,6,24,75])
 (.cond (.t 75)
 .skip
 (.seq
 (.aq [bb 77 24 8 (.bin .eql),
 ah 75 77] [0,1,2,6,24,75])
 (.cond (.t 75)
 .skip
 (.aq [bb 78 24 9 (.bin .eql),
 ah 75 78] [0,1,2,6,24,75])))))
 (.cond (.t 75)
 (.seq
 (.aq [ah 79 0,
 ah 80 1,
 ah 81 2,
 bb 82 81 1 (.bin .sub),
 cH 83 [.t 79,.t 80,.t 82] (.az 247 []),
 ed 9 fp,
 bK 9 83 9 0 11] [0,1,2,6,9])
 (.seq
 (.aq [bq 84 9 9 0 11 true,
 ah 85 0,
 ah 86 1,
 ah 87 2,
 bb 88 87 1 (.bin .sub),
 cH 89 [.t 85,.t 86,.t 88] (.az 247 []),
 bW 90 84 89 (.bf 11),
 aP 91 [k_ 5,.t 90] (.build fp [(0,1),(4,1)]),
 bK 6 91 6 0 11] [6])
 .ret))
 (.seq
 (.aq [bb 93 24 10 (.bin .eql),
 ah 92 93] [0,1,2,6,24,92])
 (.cond (.t 92)
 (.seq
 (.aq [ah 94 0,
 cH 95 [.t 94,k_ 2] (.az 68 []),
 aP 96 [k_ 6,.t 95] (.bin .add),
 ah 10 96] [0,1,2,6,10])
 (.seq
 (.aq [ah 97 0,
 a0 98 97 (.az 175 []),
 ah 11 98] [0,1,2,6,10,11])
 (.seq
 (.aq [ah 99 0,
 ah 100 1,
 ah 101 2,
 bb 102 101 1 (.bin .sub),
 cH 103 [.t 99,.t 100,.t 102] (.az 247 []),
 ed 12 fp,
 bK 12 103 12 0 11] [0,1,2,6,10,11,12])
 (.seq
 (.aq [ah 104 10,
 ah 105 11,
 bq 106 12 12 0 11 true,
 ah 107 0,
 ah 108 1,
 ah 109 2,
 bb 110 109 1 (.bin .sub),
 cH 111 [.t 107,.t 108,.t 110] (.az 247 []),
 bW 112 106 111 (.bf 11),
 aP 113 [.t 104,.t 105,.t 112] (.build fp [(0,1),(2,1),(4,1)]),
 bK 6 113 6 0 11] [6])
 .ret))))
 (.seq
 (.aq [bb 115 24 11 (.bin .eql),
 ah 114 115] [0,1,2,6,24,114])
 (.cond (.t 114)
 (.seq
 (.aq [ah 116 0,
 ah 117 1,
 ah 118 2,
 bb 119 118 1 (.bin .sub),
 cH 120 [.t 116,.t 117,.t 119] (.az 247 []),
 aS 121 120 (.bf 11),
 ah 122 0,
 ah 123 1,
 cH 124 [.t 122,.t 123,.c (.cg []),k_ 2] (.az 27 []),
 aP 125 [k_ 9,.t 121,.t 124] (.build fp [(0,1),(4,1),(6,5)]),
 bK 6 125 6 0 11] [6])
 .ret)
 (.seq
 (.aq [bb 127 24 12 (.bin .eql),
 ah 126 127] [0,1,2,6,126])
 (.cond (.t 126)
 (.seq
 (.aq [ah 128 0,
 ah 129 1,
 ah 130 2,
 bb 131 130 1 (.bin .sub),
 cH 132 [.t 128,.t 129,.t 131] (.az 247 []),
 aS 133 132 (.bf 11),
 aP 134 [k_ 11,.t 133] (.build fp [(0,1),(4,1)]),
 bK 6 134 6 0 11] [6])
 .ret)
 .skip))))))))))))))))))))
 (.seq
 (.seq
 (.aq [ah 135 1,
 aS 136 135 .len,
 bb 137 136 0 (.bin .eql)] [0,1,2,6,137])
 (.cond (.t 137)
 (.seq
 (.aq [ah 138 0,
 ah 139 1,
 ah 140 2,
 bb 141 140 1 (.bin .sub),
 cH 142 [.t 138,.t 139,.t 141] (.az 247 []),
 bK 6 142 6 0 11] [6])
 .ret)
 .skip))
 (.seq
 (.aq [ah 143 1,
 ah 144 0,
 ah 145 1,
 aS 146 145 .len,
 ir 147 144 146 (.az 68 []),
 bW 148 143 147 (.aO 4),
 a0 149 148 (.aJ 4 true),
 ed 13 DN,
 bK 13 149 13 0 4] [0,1,2,6,13])
 (.seq
 (.aq [ah 150 0,
 ah 151 1,
 ah 152 2,
 bb 153 152 1 (.bin .sub),
 cH 154 [.t 150,.t 151,.t 153] (.az 247 []),
 aS 155 154 (.bf 11),
 aP 156 [k_ 8,.t 155] (.build fp [(0,1),(4,1)]),
 ed 14 fp,
 bK 14 156 14 0 11] [0,1,2,6,13,14])
 (.seq
 (.seq
 (.aq [cB 15 (k_ 0)] [0,1,2,6,13,14,15])
 (.block 1
 g247L0))
 (.seq
 (.aq [bq 201 14 14 0 11 true,
 bK 6 201 6 0 11] [6])
 .ret))))))))),none,false⟩
def g248:aB:=⟨1,117,[.t 2],
 (.seq
 (.aq [a0 1 0 (.kr 11),
 aP 2 [.c (.pv (.str []))] .mv] [1])
 (.seq
 (.aq [aS 6 1 (.Ch 257),
 ah 3 6] [1,3])
 (.seq
 (.seq
 (.aq [aX 7 1 0,
 a0 8 7 (.aJ 1 false)] [1,3,8])
 (.block 0
 (.seq
 (.seq
 (.aq [bb 10 8 1 (.bin .eql),
 ah 9 10] [1,3,8,9])
 (.cond (.t 9)
 .skip
 (.aq [bb 11 8 2 (.bin .eql),
 ah 9 11] [1,3,8,9])))
 (.cond (.t 9)
 (.seq
 (.aq [aX 12 1 2,
 a0 13 12 (.aJ 1 false),
 ah 2 13] [2])
 .ret)
 (.seq
 (.aq [bb 15 8 3 (.bin .eql),
 ah 14 15] [1,3,8,14])
 (.cond (.t 14)
 (.seq
 (.aq [aX 16 1 3,
 a0 17 16 (.aJ 1 false),
 a0 18 17 (.aA 255),
 ah 2 18] [2])
 .ret)
 (.seq
 (.aq [bb 20 8 10 (.bin .eql),
 ah 19 20] [1,3,8,19])
 (.cond (.t 19)
 (.seq
 (.aq [aP 2 [.c (.pv (.str [63]))] .mv] [2])
 .ret)
 (.seq
 (.aq [bb 22 8 4 (.bin .eql),
 ah 21 22] [1,3,8,21])
 (.cond (.t 21)
 (.seq
 (.aq [aX 23 1 2,
 a0 24 23 (.aJ 1 false),
 aP 25 [.c (.pv (.str [92])),.t 24] (.bin .add),
 aP 26 [.t 25,.c (.pv (.str [46,32]))] (.bin .add),
 ah 27 3,
 cH 28 [.t 27,k_ 0] .b_,
 bW 29 26 28 (.bin .add),
 ah 2 29] [2])
 .ret)
 (.seq
 (.aq [bb 31 8 5 (.bin .eql),
 ah 30 31] [1,3,8,30])
 (.cond (.t 30)
 (.seq
 (.seq
 (.aq [aX 32 1 4,
 a0 33 32 (.aJ 1 false),
 aS 34 33 .len,
 bb 35 34 2 (.bin .lss)] [1,3,35])
 (.cond (.t 35)
 (.seq
 (.aq [aP 2 [.c (.pv (.str []))] .mv] [2])
 .ret)
 .skip))
 (.seq
 (.aq [aX 36 1 4,
 a0 37 36 (.aJ 1 false),
 bb 38 37 0 (.aO 11),
 aS 39 38 (.aR 11 true),
 aX 40 1 4,
 a0 41 40 (.aJ 1 false),
 bb 42 41 1 (.aO 11),
 aS 43 42 (.aR 11 true),
 ed 4 fp,
 ed 5 fp,
 bK 4 39 4 0 11,
 bK 5 43 5 0 11] [3,4,5])
 (.seq
 (.aq [ah 44 3,
 cH 45 [.t 44,k_ 0] .b_,
 bq 46 4 4 0 11 true,
 a0 47 46 (.aA 259),
 aS 48 47 (.un .not),
 ah 49 48,
 a6 50 49 true 4 (.v (.bE 0)),
 a6 51 49 true 50 (.cD 4 0 1 false),
 d7 52 49 true [.t 51,k_ 5] (.v (.bin .neq)),
 aP 53 [.t 49,.t 52,F_] .pick,
 ir 54 45 53 (.aA 258),
 aP 55 [.t 54,.c (.pv (.str [32]))] (.bin .add),
 ah 56 3,
 cH 57 [.t 56,k_ 1] .b_,
 bq 58 5 5 0 11 true,
 a0 59 58 (.aA 259),
 aS 60 59 (.un .not),
 ir 61 57 60 (.aA 258),
 bW 62 55 61 (.bin .add),
 ah 2 62] [2])
 .ret)))
 (.seq
 (.aq [bb 64 8 6 (.bin .eql),
 ah 63 64] [1,3,8,63])
 (.cond (.t 63)
 (.seq
 (.aq [aX 65 1 2,
 a0 66 65 (.aJ 1 false),
 aP 67 [.c (.pv (.str [108,101,116,32])),.t 66] (.bin .add),
 aP 68 [.t 67,.c (.pv (.str [32,61,32]))] (.bin .add),
 ah 69 3,
 cH 70 [.t 69,k_ 0] .b_,
 bW 71 68 70 (.bin .add),
 aP 72 [.t 71,.c (.pv (.str [32,105,110,32]))] (.bin .add),
 ah 73 3,
 cH 74 [.t 73,k_ 1] .b_,
 bW 75 72 74 (.bin .add),
 ah 2 75] [2])
 .ret)
 (.seq
 (.aq [bb 77 8 7 (.bin .eql),
 ah 76 77] [1,3,8,76])
 (.cond (.t 76)
 (.seq
 (.aq [aX 78 1 2,
 a0 79 78 (.aJ 1 false),
 aP 80 [.c (.pv (.str [108,101,116,32,114,101,99,32])),.t 79] (.bin .add),
 aP 81 [.t 80,.c (.pv (.str [32,61,32]))] (.bin .add),
 ah 82 3,
 cH 83 [.t 82,k_ 0] .b_,
 bW 84 81 83 (.bin .add),
 aP 85 [.t 84,.c (.pv (.str [32,105,110,32]))] (.bin .add),
 ah 86 3,
 cH 87 [.t 86,k_ 1] .b_,
 bW 88 85 87 (.bin .add),
 ah 2 88] [2])
 .ret)
 (.seq
 (.aq [bb 90 8 8 (.bin .eql),
 ah 89 90] [1,3,8,89])
 (.cond (.t 89)
 (.seq
 (.aq [ah 91 3,
 cH 92 [.t 91,k_ 0] .b_,
 aP 93 [.c (.pv (.str [99,97,115,101,32])),.t 92] (.bin .add),
 aP 94 [.t 93,.c (.pv (.str [32,111,102,32]))] (.bin .add),
 aX 95 1 5,
 a0 96 95 (.aJ 1 false),
 a0 97 96 (.aA 260),
 bW 98 94 97 (.bin .add),
 aP 99 [.t 98,.c (.pv (.str [32,101,110,100]))] (.bin .add),
 ah 2 99] [2])
 .ret)
 (.seq
 (.aq [bb 101 8 9 (.bin .eql),
 ah 100 101] [1,3,8,100])
 (.cond (.t 100)
 (.seq
 (.aq [ah 102 3,
 cH 103 [.t 102,k_ 0] .b_,
 aP 104 [.c (.pv (.str [40])),.t 103] (.bin .add),
 aP 105 [.t 104,.c (.pv (.str [32,58,32]))] (.bin .add),
 aX 106 1 6,
 a0 107 106 (.aJ 5 true),
 a0 108 107 (.aA 252),
 bW 109 105 108 (.bin .add),
 aP 110 [.t 109,.c (.pv (.str [41]))] (.bin .add),
 ah 2 110] [2])
 .ret)
 (.seq
 (.aq [bb 112 8 11 (.bin .eql),
 ah 111 112] [3,111])
 (.cond (.t 111)
 (.seq
 (.aq [ah 113 3,
 cH 114 [.t 113,k_ 0] .b_,
 aP 115 [.c (.pv (.str [123])),.t 114] (.bin .add),
 aP 116 [.t 115,.c (.pv (.str [125]))] (.bin .add),
 ah 2 116] [2])
 .ret)
 .skip))))))))))))))))))))))
 (.seq
 (.aq [aP 2 [.c (.pv (.str []))] .mv] [2])
 .ret)))),none,false⟩
def g249B1:aE:=
 (.seq
 (.seq
 (.aq [ah 146 7,
 aX 147 1 5,
 bq 148 147 1 5 1 false,
 ah 149 6,
 bW 150 148 149 (.aO 14),
 aX 151 150 2,
 aS 152 151 (.aR 1 false),
 aS 153 152 .len,
 bW 154 146 153 (.bin .lss)] [1,5,6,7,154])
 (.cond (.t 154)
 .skip
 (.exit 3)))
 (.seq
 (.block 4
 (.aq [ah 157 5,
 aX 158 1 5,
 bq 159 158 1 5 1 false,
 ah 160 6,
 bW 161 159 160 (.aO 14),
 aX 162 161 2,
 aS 163 162 (.aR 1 false),
 ah 164 7,
 bW 165 163 164 (.aO 1),
 aS 166 165 (.aR 1 false),
 aP 167 [.c (.pv (.str [32])),.t 166] (.bin .add),
 bW 168 157 167 (.bin .add),
 ah 5 168] [1,5,6,7]))
 (.aq [ah 155 7,
 bb 156 155 1 (.bin .add),
 ah 7 156] [1,5,6,7])))
def g249L1:aE:=.loop [1,5,6,7] g249B1
theorem g249L1e: cl AP g249L1 st=after (cl AP g249L1) (cl AP g249B1 (norm (restrict [1,5,6,7] st))):=aW
def g249B0:aE:=
 (.seq
 (.seq
 (.aq [ah 127 6,
 aX 128 1 5,
 bq 129 128 1 5 1 false,
 aS 130 129 .len,
 bW 131 127 130 (.bin .lss)] [1,5,6,131])
 (.cond (.t 131)
 .skip
 (.exit 1)))
 (.seq
 (.block 2
 (.seq
 (.seq
 (.aq [ah 134 6,
 bb 135 134 0 (.bin .gtr)] [1,5,6,135])
 (.cond (.t 135)
 (.aq [ah 136 5,
 aP 137 [.t 136,.c (.pv (.str [32,124,32]))] (.bin .add),
 ah 5 137] [1,5,6])
 .skip))
 (.seq
 (.aq [ah 138 5,
 aX 139 1 5,
 bq 140 139 1 5 1 false,
 ah 141 6,
 bW 142 140 141 (.aO 14),
 aX 143 142 1,
 aS 144 143 (.aR 1 false),
 bW 145 138 144 (.bin .add),
 ah 5 145] [1,5,6])
 (.seq
 (.seq
 (.aq [cB 7 (k_ 0)] [1,5,6,7])
 (.block 3
 g249L1))
 (.aq [ah 169 5,
 aX 170 1 5,
 bq 171 170 1 5 1 false,
 ah 172 6,
 bW 173 171 172 (.aO 14),
 aX 174 173 3,
 aS 175 174 (.aR 11 true),
 a0 176 175 (.aA 249),
 aP 177 [.c (.pv (.str [46,32])),.t 176] (.bin .add),
 bW 178 169 177 (.bin .add),
 ah 5 178] [1,5,6])))))
 (.aq [ah 132 6,
 bb 133 132 1 (.bin .add),
 ah 6 133] [1,5,6])))
def g249L0:aE:=.loop [1,5,6] g249B0
theorem g249L0e: cl AP g249L0 st=after (cl AP g249L0) (cl AP g249B0 (norm (restrict [1,5,6] st))):=aW
def g249:aB:=⟨1,181,[.t 2],
 (.seq
 (.aq [a0 1 0 (.box 1 11),
 aP 2 [.c (.pv (.str []))] .mv] [1])
 (.seq
 (.seq
 (.aq [aX 8 1 0,
 bq 9 8 1 0 1 false] [1,9])
 (.block 0
 (.seq
 (.seq
 (.aq [bb 11 9 1 (.bin .eql),
 ah 10 11] [1,9,10])
 (.cond (.t 10)
 .skip
 (.aq [bb 12 9 2 (.bin .eql),
 ah 10 12] [1,9,10])))
 (.cond (.t 10)
 (.seq
 (.aq [aX 13 1 2,
 bq 14 13 1 2 1 false,
 ah 2 14] [2])
 .ret)
 (.seq
 (.aq [bb 16 9 3 (.bin .eql),
 ah 15 16] [1,9,15])
 (.cond (.t 15)
 (.seq
 (.aq [aX 17 1 3,
 bq 18 17 1 3 1 false,
 a0 19 18 (.aA 256),
 ah 2 19] [2])
 .ret)
 (.seq
 (.aq [bb 21 9 10 (.bin .eql),
 ah 20 21] [1,9,20])
 (.cond (.t 20)
 (.seq
 (.aq [aP 2 [.c (.pv (.str [63]))] .mv] [2])
 .ret)
 (.seq
 (.aq [bb 23 9 4 (.bin .eql),
 ah 22 23] [1,9,22])
 (.cond (.t 22)
 (.seq
 (.aq [aX 24 1 2,
 bq 25 24 1 2 1 false,
 aP 26 [.c (.pv (.str [92])),.t 25] (.bin .add),
 aP 27 [.t 26,.c (.pv (.str [46,32]))] (.bin .add),
 aX 28 1 4,
 bq 29 28 1 4 1 false,
 bb 30 29 0 (.aO 11),
 aS 31 30 (.aR 11 true),
 a0 32 31 (.aA 249),
 bW 33 27 32 (.bin .add),
 ah 2 33] [2])
 .ret)
 (.seq
 (.aq [bb 35 9 5 (.bin .eql),
 ah 34 35] [1,9,34])
 (.cond (.t 34)
 (.seq
 (.aq [aX 36 1 4,
 bq 37 36 1 4 1 false,
 bb 38 37 0 (.aO 11),
 aS 39 38 (.aR 11 true),
 aX 40 1 4,
 bq 41 40 1 4 1 false,
 bb 42 41 1 (.aO 11),
 aS 43 42 (.aR 11 true),
 ed 3 fp,
 ed 4 fp,
 bK 3 39 3 0 11,
 bK 4 43 4 0 11] [3,4])
 (.seq
 (.aq [bq 44 3 3 0 11 true,
 bq 45 3 3 0 11 true,
 a0 46 45 (.aA 262),
 ah 47 46,
 a6 48 47 false 3 (.v (.bE 0)),
 a6 49 47 false 48 (.cD 3 0 1 false),
 d7 50 47 false [.t 49,k_ 5] (.v (.bin .eql)),
 aP 51 [.t 47,T_,.t 50] .pick,
 ir 52 44 51 (.aA 261),
 aP 53 [.t 52,.c (.pv (.str [32]))] (.bin .add),
 bq 54 4 4 0 11 true,
 bq 55 4 4 0 11 true,
 a0 56 55 (.aA 262),
 ir 57 54 56 (.aA 261),
 bW 58 53 57 (.bin .add),
 ah 2 58] [2])
 .ret))
 (.seq
 (.aq [bb 60 9 6 (.bin .eql),
 ah 59 60] [1,9,59])
 (.cond (.t 59)
 (.seq
 (.aq [aX 61 1 2,
 bq 62 61 1 2 1 false,
 aP 63 [.c (.pv (.str [108,101,116,32])),.t 62] (.bin .add),
 aP 64 [.t 63,.c (.pv (.str [32,61,32]))] (.bin .add),
 aX 65 1 4,
 bq 66 65 1 4 1 false,
 bb 67 66 0 (.aO 11),
 aS 68 67 (.aR 11 true),
 a0 69 68 (.aA 249),
 bW 70 64 69 (.bin .add),
 aP 71 [.t 70,.c (.pv (.str [32,105,110,32]))] (.bin .add),
 aX 72 1 4,
 bq 73 72 1 4 1 false,
 bb 74 73 1 (.aO 11),
 aS 75 74 (.aR 11 true),
 a0 76 75 (.aA 249),
 bW 77 71 76 (.bin .add),
 ah 2 77] [2])
 .ret)
 (.seq
 (.aq [bb 79 9 7 (.bin .eql),
 ah 78 79] [1,9,78])
 (.cond (.t 78)
 (.seq
 (.aq [aX 80 1 2,
 bq 81 80 1 2 1 false,
 aP 82 [.c (.pv (.str [108,101,116,32,114,101,99,32])),.t 81] (.bin .add),
 aP 83 [.t 82,.c (.pv (.str [32,61,32]))] (.bin .add),
 aX 84 1 4,
 bq 85 84 1 4 1 false,
 bb 86 85 0 (.aO 11),
 aS 87 86 (.aR 11 true),
 a0 88 87 (.aA 249),
 bW 89 83 88 (.bin .add),
 aP 90 [.t 89,.c (.pv (.str [32,105,110,32]))] (.bin .add),
 aX 91 1 4,
 bq 92 91 1 4 1 false,
 bb 93 92 1 (.aO 11),
 aS 94 93 (.aR 11 true),
 a0 95 94 (.aA 249),
 bW 96 90 95 (.bin .add),
 ah 2 96] [2])
 .ret)
 (.seq
 (.aq [bb 98 9 9 (.bin .eql),
 ah 97 98] [1,9,97])
 (.cond (.t 97)
 (.seq
 (.aq [aX 99 1 4,
 bq 100 99 1 4 1 false,
 bb 101 100 0 (.aO 11),
 aS 102 101 (.aR 11 true),
 a0 103 102 (.aA 249),
 aP 104 [.c (.pv (.str [40])),.t 103] (.bin .add),
 aP 105 [.t 104,.c (.pv (.str [32,58,32]))] (.bin .add),
 aX 106 1 6,
 bq 107 106 1 6 5 true,
 a0 108 107 (.aA 263),
 bW 109 105 108 (.bin .add),
 aP 110 [.t 109,.c (.pv (.str [41]))] (.bin .add),
 ah 2 110] [2])
 .ret)
 (.seq
 (.aq [bb 112 9 11 (.bin .eql),
 ah 111 112] [1,111])
 (.cond (.t 111)
 (.seq
 (.aq [aX 113 1 4,
 bq 114 113 1 4 1 false,
 bb 115 114 0 (.aO 11),
 aS 116 115 (.aR 11 true),
 a0 117 116 (.aA 249),
 aP 118 [.c (.pv (.str [123])),.t 117] (.bin .add),
 aP 119 [.t 118,.c (.pv (.str [125]))] (.bin .add),
 ah 2 119] [2])
 .ret)
 .skip))))))))))))))))))))
 (.seq
 (.aq [aX 120 1 4,
 bq 121 120 1 4 1 false,
 bb 122 121 0 (.aO 11),
 aS 123 122 (.aR 11 true),
 a0 124 123 (.aA 249),
 aP 125 [.c (.pv (.str [99,97,115,101,32])),.t 124] (.bin .add),
 aP 126 [.t 125,.c (.pv (.str [32,111,102,32]))] (.bin .add),
 ah 5 126] [1,5])
 (.seq
 (.seq
 (.aq [cB 6 (k_ 0)] [1,5,6])
 (.block 1
 g249L0))
 (.seq
 (.aq [ah 179 5,
 aP 180 [.t 179,.c (.pv (.str [32,101,110,100]))] (.bin .add),
 ah 2 180] [2])
 .ret))))),none,false⟩
def g252B0:aE:=
 (.seq
 (.aq [bW 55 54 53 (.bin .lss)] [3,52,53,54,55])
 (.seq
 (.cond (.t 55)
 .skip
 (.exit 1))
 (.seq
 (.block 2
 (.seq
 (.aq [bW 56 52 54 (.aO 5),
 aS 57 56 (.aR 5 true),
 ed 5 kq,
 bK 5 57 5 0 5] [3,5,52,53,54])
 (.aq [ah 58 3,
 bq 59 5 5 0 5 true,
 a0 60 59 (.aA 265),
 aP 61 [.c (.pv (.str [32])),.t 60] (.bin .add),
 bW 62 58 61 (.bin .add),
 ah 3 62] [3,52,53,54])))
 (.aq [bb 63 54 1 (.bin .add),
 ah 54 63] [3,52,53,54]))))
def g252L0:aE:=.loop [3,52,53,54] g252B0
theorem g252L0e: cl AP g252L0 st=after (cl AP g252L0) (cl AP g252B0 (norm (restrict [3,52,53,54] st))):=aW
def g252:aB:=⟨1,65,[.t 2],
 (.seq
 (.aq [a0 1 0 (.box 1 5),
 aP 2 [.c (.pv (.str []))] .mv] [1])
 (.seq
 (.seq
 (.aq [aX 6 1 0,
 bq 7 6 1 0 1 false] [1,7])
 (.block 0
 (.seq
 (.aq [bb 9 7 1 (.bin .eql),
 ah 8 9] [1,7,8])
 (.cond (.t 8)
 (.seq
 (.aq [aX 10 1 2,
 bq 11 10 1 2 1 false,
 a0 12 11 (.aA 245),
 aP 13 [.c (.pv (.str [95])),.t 12] (.bin .add),
 ah 2 13] [2])
 .ret)
 (.seq
 (.aq [bb 15 7 2 (.bin .eql),
 ah 14 15] [1,7,14])
 (.cond (.t 14)
 (.seq
 (.aq [aX 16 1 2,
 bq 17 16 1 2 1 false,
 a0 18 17 (.aA 245),
 ah 2 18] [2])
 .ret)
 (.seq
 (.aq [bb 20 7 3 (.bin .eql),
 ah 19 20] [1,7,19])
 (.cond (.t 19)
 (.seq
 (.aq [aX 21 1 2,
 bq 22 21 1 2 1 false,
 a0 23 22 (.aA 245),
 aP 24 [.c (.pv (.str [39])),.t 23] (.bin .add),
 ah 2 24] [2])
 .ret)
 (.seq
 (.aq [bb 26 7 5 (.bin .eql),
 ah 25 26] [1,25])
 (.cond (.t 25)
 (.seq
 (.aq [aX 27 1 1,
 bq 28 27 1 1 1 false,
 ah 2 28] [2])
 .ret)
 .skip))))))))))
 (.seq
 (.seq
 (.aq [bq 29 1 1 0 5 true,
 a0 30 29 (.aA 264)] [1,30])
 (.cond (.t 30)
 (.seq
 (.aq [aX 31 1 4,
 bq 32 31 1 4 1 false,
 bb 33 32 0 (.aO 5),
 aS 34 33 (.aR 5 true),
 a0 35 34 (.aA 252),
 aX 36 1 4,
 bq 37 36 1 4 1 false,
 bb 38 37 0 (.aO 5),
 aS 39 38 (.aR 5 true),
 a0 40 39 (.aA 264),
 ir 41 35 40 (.aA 258),
 aP 42 [.t 41,.c (.pv (.str [32,45,62,32]))] (.bin .add),
 aX 43 1 4,
 bq 44 43 1 4 1 false,
 bb 45 44 1 (.aO 5),
 aS 46 45 (.aR 5 true),
 a0 47 46 (.aA 252),
 bW 48 42 47 (.bin .add),
 ah 2 48] [2])
 .ret)
 .skip))
 (.seq
 (.aq [aX 49 1 1,
 bq 50 49 1 1 1 false,
 ah 3 50] [1,3])
 (.seq
 (.seq
 (.aq [aX 51 1 4,
 bq 52 51 1 4 1 false,
 aS 53 52 .len,
 cB 54 (k_ 0)] [3,52,53,54])
 (.block 1
 g252L0))
 (.seq
 (.aq [ah 64 3,
 ah 2 64] [2])
 .ret)))))),none,false⟩
def g254:aB:=⟨2,10,[.c 4 11 true],
 (.seq
 (.aq [a0 3 1 (.box 3 11),
 ed 4 fp] [0,3,4])
 (.seq
 (.aq [ah 5 0,
 aP 6 [k_ 1,.t 5] (.build fp [(0,1),(2,1)]),
 bq 7 3 3 0 11 true,
 bW 8 6 7 (.bf 11),
 aP 9 [k_ 5,.t 8] (.build fp [(0,1),(4,1)]),
 bK 4 9 4 0 11] [4])
 .ret)),none,false⟩
def g255:aB:=⟨1,1,[],.exit 0,some pL,false⟩
def g256B0:aE:=
 (.seq
 (.seq
 (.aq [ah 9 4,
 bb 10 9 0 (.bin .neq)] [0,3,4,10])
 (.cond (.t 10)
 .skip
 (.exit 0)))
 (.seq
 (.block 1
 (.seq
 (.aq [ah 13 4,
 bb 14 13 10 (.bin .rem),
 ah 5 14] [0,3,4,5])
 (.seq
 (.seq
 (.aq [ah 15 5,
 bb 16 15 0 (.bin .lss)] [0,3,4,5,16])
 (.cond (.t 16)
 (.aq [ah 17 5,
 aS 18 17 (.un .neg),
 ah 5 18] [0,3,4,5])
 .skip))
 (.aq [ah 19 5,
 ah 20 5,
 bb 21 20 1 (.bin .add),
 aP 22 [.c (.pv (.str [48,49,50,51,52,53,54,55,56,57])),.t 19,.t 21] (.slice true 0 true true false),
 ah 23 3,
 bW 24 22 23 (.bin .add),
 ah 3 24] [0,3,4]))))
 (.aq [ah 11 4,
 bb 12 11 10 (.bin .quo),
 ah 4 12] [0,3,4])))
def g256L0:aE:=.loop [0,3,4] g256B0
theorem g256L0e: cl AP g256L0 st=after (cl AP g256L0) (cl AP g256B0 (norm (restrict [0,3,4] st))):=aW
def g256:aB:=⟨1,30,[.t 2],
 (.seq
 (.aq [aP 2 [.c (.pv (.str []))] .mv] [0])
 (.seq
 (.seq
 (.aq [ah 6 0,
 bb 7 6 0 (.bin .eql)] [0,7])
 (.cond (.t 7)
 (.seq
 (.aq [aP 2 [.c (.pv (.str [48]))] .mv] [2])
 .ret)
 .skip))
 (.seq
 (.aq [aP 3 [.c (.pv (.str []))] .mv] [0,3])
 (.seq
 (.seq
 (.aq [ah 8 0,
 ah 4 8] [0,3,4])
 (.block 0
 g256L0))
 (.seq
 (.seq
 (.aq [ah 25 0,
 bb 26 25 0 (.bin .lss)] [3,26])
 (.cond (.t 26)
 (.aq [ah 27 3,
 aP 28 [.c (.pv (.str [45])),.t 27] (.bin .add),
 ah 3 28] [3])
 .skip))
 (.seq
 (.aq [ah 29 3,
 ah 2 29] [2])
 .ret)))))),none,false⟩
def g257:aB:=⟨1,15,[.t 3],
 (.seq
 (.aq [aP 3 [.c (.pv (.str []))] .mv] [0,1])
 (.seq
 (.seq
 (.aq [ah 4 0,
 aX 5 1 4,
 a0 6 5 (.aJ 1 false),
 aS 7 6 .len,
 bW 8 4 7 (.bin .lss)] [0,1,8])
 (.cond (.t 8)
 (.seq
 (.aq [aX 9 1 4,
 a0 10 9 (.aJ 1 false),
 ah 11 0,
 bW 12 10 11 (.aO 11),
 aS 13 12 (.aR 11 true),
 a0 14 13 (.aA 248),
 ah 3 14] [3])
 .ret)
 .skip))
 (.seq
 (.aq [aP 3 [.c (.pv (.str []))] .mv] [3])
 .ret))),none,false⟩
def g258:aB:=⟨2,10,[.t 4],
 (.seq
 (.aq [aP 4 [.c (.pv (.str []))] .mv] [0,1])
 (.seq
 (.seq
 (.aq [ah 5 1] [0,5])
 (.cond (.t 5)
 (.seq
 (.aq [ah 6 0,
 aP 7 [.c (.pv (.str [40])),.t 6] (.bin .add),
 aP 8 [.t 7,.c (.pv (.str [41]))] (.bin .add),
 ah 4 8] [4])
 .ret)
 .skip))
 (.seq
 (.aq [ah 9 0,
 ah 4 9] [4])
 .ret))),none,false⟩
def g259:aB:=⟨1,12,[.t 2],
 (.seq
 (.aq [a0 1 0 (.box 1 11),
 cB 2 F_] [1])
 (.seq
 (.seq
 (.aq [aX 3 1 0,
 bq 4 3 1 0 1 false] [4])
 (.block 0
 (.seq
 (.seq
 (.aq [bb 6 4 1 (.bin .eql),
 ah 5 6] [4,5])
 (.cond (.t 5)
 .skip
 (.seq
 (.aq [bb 7 4 2 (.bin .eql),
 ah 5 7] [4,5])
 (.cond (.t 5)
 .skip
 (.seq
 (.aq [bb 8 4 3 (.bin .eql),
 ah 5 8] [4,5])
 (.cond (.t 5)
 .skip
 (.seq
 (.aq [bb 9 4 10 (.bin .eql),
 ah 5 9] [4,5])
 (.cond (.t 5)
 .skip
 (.seq
 (.aq [bb 10 4 9 (.bin .eql),
 ah 5 10] [4,5])
 (.cond (.t 5)
 .skip
 (.aq [bb 11 4 11 (.bin .eql),
 ah 5 11] [5])))))))))))
 (.cond (.t 5)
 (.seq
 (.aq [cB 2 T_] [2])
 .ret)
 .skip))))
 (.seq
 (.aq [cB 2 F_] [2])
 .ret))),none,false⟩
def g260B0:aE:=
 (.seq
 (.aq [bW 12 11 10 (.bin .lss)] [3,9,10,11,12])
 (.seq
 (.cond (.t 12)
 .skip
 (.exit 0))
 (.seq
 (.block 1
 (.seq
 (.aq [ah 13 11,
 bW 14 9 11 (.aO 14),
 aS 15 14 (.aR 14 true),
 ed 5 [bL,gO,eD,bL,bL,gO,bL,eD,eD,bL,gO,bL,bL,eD],
 ah 4 13,
 bK 5 15 5 0 14] [3,4,5,9,10,11])
 (.aq [ah 16 3,
 ah 17 4,
 aX 18 5 1,
 bq 19 18 5 1 1 false,
 aS 20 19 (.bf 1),
 aX 21 5 2,
 bq 22 21 5 2 1 false,
 ir 23 20 22 (.append 1 16),
 cH 24 [.t 23,.c (.pv (.str [32]))] (.aA 269),
 aP 25 [.t 24,.c (.pv (.str [46,32]))] (.bin .add),
 aX 26 5 3,
 bq 27 26 5 3 11 true,
 a0 28 27 (.aA 248),
 bW 29 25 28 (.bin .add),
 bW 30 16 17 (.aO 1),
 DM [.t 30,.t 29] (.dE 1)] [3,9,10,11])))
 (.aq [bb 31 11 1 (.bin .add),
 ah 11 31] [3,9,10,11]))))
def g260L0:aE:=.loop [3,9,10,11] g260B0
theorem g260L0e: cl AP g260L0 st=after (cl AP g260L0) (cl AP g260B0 (norm (restrict [3,9,10,11] st))):=aW
def g260:aB:=⟨1,34,[.t 2],
 (.seq
 (.aq [aP 2 [.c (.pv (.str []))] .mv] [0])
 (.seq
 (.aq [ah 6 0,
 aS 7 6 .len,
 ir 8 7 7 (.iw 1 16 false [.str []]),
 ah 3 8] [0,3])
 (.seq
 (.seq
 (.aq [ah 9 0,
 aS 10 9 .len,
 cB 11 (k_ 0)] [3,9,10,11])
 (.block 0
 g260L0))
 (.seq
 (.aq [ah 32 3,
 cH 33 [.t 32,.c (.pv (.str [32,124,32]))] (.eK 269),
 ah 2 33] [2])
 .ret)))),none,false⟩
def g261:aB:=⟨2,12,[.t 4],
 (.seq
 (.aq [a0 2 0 (.box 2 11),
 aP 4 [.c (.pv (.str []))] .mv] [1,2])
 (.seq
 (.seq
 (.aq [ah 5 1] [2,5])
 (.cond (.t 5)
 (.seq
 (.aq [bq 6 2 2 0 11 true,
 a0 7 6 (.aA 249),
 ah 4 7] [4])
 .ret)
 .skip))
 (.seq
 (.aq [bq 8 2 2 0 11 true,
 a0 9 8 (.aA 249),
 aP 10 [.c (.pv (.str [40])),.t 9] (.bin .add),
 aP 11 [.t 10,.c (.pv (.str [41]))] (.bin .add),
 ah 4 11] [4])
 .ret))),none,false⟩
def g262:aB:=⟨1,12,[.t 2],
 (.seq
 (.aq [a0 1 0 (.box 1 11),
 cB 2 F_] [1])
 (.seq
 (.seq
 (.aq [aX 3 1 0,
 bq 4 3 1 0 1 false] [4])
 (.block 0
 (.seq
 (.seq
 (.aq [bb 6 4 1 (.bin .eql),
 ah 5 6] [4,5])
 (.cond (.t 5)
 .skip
 (.seq
 (.aq [bb 7 4 2 (.bin .eql),
 ah 5 7] [4,5])
 (.cond (.t 5)
 .skip
 (.seq
 (.aq [bb 8 4 3 (.bin .eql),
 ah 5 8] [4,5])
 (.cond (.t 5)
 .skip
 (.seq
 (.aq [bb 9 4 10 (.bin .eql),
 ah 5 9] [4,5])
 (.cond (.t 5)
 .skip
 (.seq
 (.aq [bb 10 4 9 (.bin .eql),
 ah 5 10] [4,5])
 (.cond (.t 5)
 .skip
 (.aq [bb 11 4 11 (.bin .eql),
 ah 5 11] [5])))))))))))
 (.cond (.t 5)
 (.seq
 (.aq [cB 2 T_] [2])
 .ret)
 .skip))))
 (.seq
 (.aq [cB 2 F_] [2])
 .ret))),none,false⟩
def g263B0:aE:=
 (.seq
 (.seq
 (.aq [ah 61 11,
 aX 62 1 4,
 bq 63 62 1 4 1 false,
 aS 64 63 .len,
 bW 65 61 64 (.bin .lss)] [1,10,11,65])
 (.cond (.t 65)
 .skip
 (.exit 1)))
 (.seq
 (.block 2
 (.aq [ah 68 10,
 aX 69 1 4,
 bq 70 69 1 4 1 false,
 ah 71 11,
 bW 72 70 71 (.aO 5),
 aS 73 72 (.aR 5 true),
 a0 74 73 (.aA 270),
 aP 75 [.c (.pv (.str [32])),.t 74] (.bin .add),
 bW 76 68 75 (.bin .add),
 ah 10 76] [1,10,11]))
 (.aq [ah 66 11,
 bb 67 66 1 (.bin .add),
 ah 11 67] [1,10,11])))
def g263L0:aE:=.loop [1,10,11] g263B0
theorem g263L0e: cl AP g263L0 st=after (cl AP g263L0) (cl AP g263B0 (norm (restrict [1,10,11] st))):=aW
def g263:aB:=⟨1,78,[.t 2],
 (.seq
 (.aq [a0 1 0 (.box 1 5),
 aP 2 [.c (.pv (.str []))] .mv] [1])
 (.seq
 (.seq
 (.aq [aX 12 1 0,
 bq 13 12 1 0 1 false] [1,13])
 (.block 0
 (.seq
 (.aq [bb 15 13 1 (.bin .eql),
 ah 14 15] [1,13,14])
 (.cond (.t 14)
 (.seq
 (.aq [aX 16 1 2,
 bq 17 16 1 2 1 false,
 a0 18 17 (.aA 246),
 aP 19 [.c (.pv (.str [95])),.t 18] (.bin .add),
 ah 2 19] [2])
 .ret)
 (.seq
 (.aq [bb 21 13 2 (.bin .eql),
 ah 20 21] [1,13,20])
 (.cond (.t 20)
 (.seq
 (.aq [aX 22 1 2,
 bq 23 22 1 2 1 false,
 a0 24 23 (.aA 246),
 ah 2 24] [2])
 .ret)
 (.seq
 (.aq [bb 26 13 3 (.bin .eql),
 ah 25 26] [1,13,25])
 (.cond (.t 25)
 (.seq
 (.aq [aX 27 1 2,
 bq 28 27 1 2 1 false,
 a0 29 28 (.aA 246),
 aP 30 [.c (.pv (.str [39])),.t 29] (.bin .add),
 ah 2 30] [2])
 .ret)
 (.seq
 (.aq [bb 32 13 5 (.bin .eql),
 ah 31 32] [1,31])
 (.cond (.t 31)
 (.seq
 (.aq [aX 33 1 1,
 bq 34 33 1 1 1 false,
 ah 2 34] [2])
 .ret)
 .skip))))))))))
 (.seq
 (.seq
 (.aq [bq 36 1 1 0 5 true,
 a0 37 36 (.aA 194),
 ah 35 37,
 aS 38 35 (.ext 0),
 aS 39 35 (.ext 1),
 aS 40 35 (.ext 2),
 ed 3 kq,
 ed 4 kq,
 bK 3 38 3 0 5,
 bK 4 39 4 0 5,
 ah 5 40] [1,3,4,5])
 (.seq
 (.aq [ah 41 5] [1,3,4,41])
 (.cond (.t 41)
 (.seq
 (.aq [bq 42 3 3 0 5 true,
 a0 43 42 (.aA 263),
 ah 6 43] [3,4,6])
 (.seq
 (.seq
 (.aq [bq 45 3 3 0 5 true,
 a0 46 45 (.aA 194),
 ah 44 46,
 aS 47 44 (.ext 0),
 aS 48 44 (.ext 1),
 aS 49 44 (.ext 2),
 ed 7 kq,
 ed 8 kq,
 bK 7 47 7 0 5,
 bK 8 48 8 0 5,
 ah 9 49] [4,6,9])
 (.seq
 (.aq [ah 50 9] [4,6,50])
 (.cond (.t 50)
 (.aq [ah 51 6,
 aP 52 [.c (.pv (.str [40])),.t 51] (.bin .add),
 aP 53 [.t 52,.c (.pv (.str [41]))] (.bin .add),
 ah 6 53] [4,6])
 .skip)))
 (.seq
 (.aq [ah 54 6,
 aP 55 [.t 54,.c (.pv (.str [32,45,62,32]))] (.bin .add),
 bq 56 4 4 0 5 true,
 a0 57 56 (.aA 263),
 bW 58 55 57 (.bin .add),
 ah 2 58] [2])
 .ret)))
 .skip)))
 (.seq
 (.aq [aX 59 1 1,
 bq 60 59 1 1 1 false,
 ah 10 60] [1,10])
 (.seq
 (.seq
 (.aq [cB 11 (k_ 0)] [1,10,11])
 (.block 1
 g263L0))
 (.seq
 (.aq [ah 77 10,
 ah 2 77] [2])
 .ret)))))),none,false⟩
def g264:aB:=⟨1,17,[.t 2],
 (.seq
 (.aq [a0 1 0 (.box 1 5),
 cB 2 F_] [1])
 (.seq
 (.aq [aX 3 1 0,
 bq 4 3 1 0 1 false,
 bb 5 4 4 (.bin .eql),
 ah 6 5,
 a6 7 6 true 1 (.v (.bE 1)),
 a6 8 6 true 7 (.cD 1 1 1 false),
 d7 9 6 true [.t 8,.c (.pv (.str [45,62]))] (.v (.bin .eql)),
 aP 10 [.t 6,.t 9,F_] .pick,
 ah 11 10,
 a6 12 11 true 1 (.v (.bE 4)),
 a6 13 11 true 12 (.cD 1 4 1 false),
 a6 14 11 true 13 (.v (.len)),
 d7 15 11 true [.t 14,k_ 2] (.v (.bin .eql)),
 aP 16 [.t 11,.t 15,F_] .pick,
 ah 2 16] [2])
 .ret)),none,false⟩
def g265:aB:=⟨1,15,[.t 2],
 (.seq
 (.aq [a0 1 0 (.box 1 5),
 aP 2 [.c (.pv (.str []))] .mv] [1])
 (.seq
 (.aq [bq 3 1 1 0 5 true,
 a0 4 3 (.aA 252),
 aX 5 1 0,
 bq 6 5 1 0 1 false,
 bb 7 6 4 (.bin .eql),
 ah 8 7,
 a6 9 8 true 1 (.v (.bE 4)),
 a6 10 8 true 9 (.cD 1 4 1 false),
 a6 11 8 true 10 (.v (.len)),
 d7 12 8 true [.t 11,k_ 0] (.v (.bin .gtr)),
 aP 13 [.t 8,.t 12,F_] .pick,
 ir 14 4 13 (.aA 258),
 ah 2 14] [2])
 .ret)),none,false⟩
def g269:aB:=⟨2,2,[],.exit 0,some pK,false⟩
def g270:aB:=⟨1,18,[.t 2],
 (.seq
 (.aq [a0 1 0 (.box 1 5),
 aP 2 [.c (.pv (.str []))] .mv] [1])
 (.seq
 (.seq
 (.aq [aX 3 1 0,
 bq 4 3 1 0 1 false,
 bb 5 4 4 (.bin .eql),
 ah 6 5,
 a6 7 6 true 1 (.v (.bE 4)),
 a6 8 6 true 7 (.cD 1 4 1 false),
 a6 9 6 true 8 (.v (.len)),
 d7 10 6 true [.t 9,k_ 0] (.v (.bin .gtr)),
 aP 11 [.t 6,.t 10,F_] .pick] [1,11])
 (.cond (.t 11)
 (.seq
 (.aq [bq 12 1 1 0 5 true,
 a0 13 12 (.aA 263),
 aP 14 [.c (.pv (.str [40])),.t 13] (.bin .add),
 aP 15 [.t 14,.c (.pv (.str [41]))] (.bin .add),
 ah 2 15] [2])
 .ret)
 .skip))
 (.seq
 (.aq [bq 16 1 1 0 5 true,
 a0 17 16 (.aA 263),
 ah 2 17] [2])
 .ret))),none,false⟩
end
def AP (g:Nat):Option aB:=match g with
 | 15=>some g15
 | 26=>some g26
 | 27=>some g27
 | 32=>some g32
 | 34=>some g34
 | 52=>some g52
 | 62=>some g62
 | 63=>some g63
 | 68=>some g68
 | 69=>some g69
 | 72=>some g72
 | 77=>some g77
 | 78=>some g78
 | 79=>some g79
 | 106=>some g106
 | 108=>some g108
 | 109=>some g109
 | 110=>some g110
 | 111=>some g111
 | 112=>some g112
 | 117=>some g117
 | 118=>some g118
 | 119=>some g119
 | 120=>some g120
 | 121=>some g121
 | 122=>some g122
 | 123=>some g123
 | 124=>some g124
 | 125=>some g125
 | 126=>some g126
 | 127=>some g127
 | 128=>some g128
 | 129=>some g129
 | 130=>some g130
 | 131=>some g131
 | 132=>some g132
 | 133=>some g133
 | 134=>some g134
 | 135=>some g135
 | 136=>some g136
 | 137=>some g137
 | 138=>some g138
 | 139=>some g139
 | 140=>some g140
 | 141=>some g141
 | 142=>some g142
 | 143=>some g143
 | 144=>some g144
 | 145=>some g145
 | 146=>some g146
 | 175=>some g175
 | 194=>some g194
 | 242=>some g242
 | 244=>some g244
 | 245=>some g245
 | 247=>some g247
 | 248=>some g248
 | 249=>some g249
 | 252=>some g252
 | 254=>some g254
 | 255=>some g255
 | 256=>some g256
 | 257=>some g257
 | 258=>some g258
 | 259=>some g259
 | 260=>some g260
 | 261=>some g261
 | 262=>some g262
 | 263=>some g263
 | 264=>some g264
 | 265=>some g265
 | 269=>some g269
 | 270=>some g270
 | _=>none
end Go.Ab
