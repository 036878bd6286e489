import Derived.Test.YtfhhognolpjikaaGreatAbEv
/-
  The program's functions in slim code, as a program of ours printed them; what they have to do with the given program is proved in the text Impl.
-/
namespace Go.Ab
@[simp] abbrev aa (d s:Nat):d4:=⟨some d,none,[.t s],.v .mv⟩
@[simp] abbrev ba (d x:Nat) (k:AK):d4:=⟨some d,none,[.t x],k⟩
@[simp] abbrev bH (d x y:Nat) (k:AK):d4:=⟨some d,none,[.t x,.t y],k⟩
@[simp] abbrev aH (d x:Nat) (k:FY):d4:=⟨some d,none,[.t x],.v k⟩
@[simp] abbrev aU (d x y:Nat) (k:FY):d4:=⟨some d,none,[.t x,.t y],.v k⟩
@[simp] abbrev a8 (d:Nat) (a:List eL) (k:FY):d4:=⟨some d,none,a,.v k⟩
@[simp] abbrev bB (d:Nat) (a:List eL) (k:AK):d4:=⟨some d,none,a,k⟩
@[simp] abbrev jX (a:List eL) (k:AK):d4:=⟨none,none,a,k⟩
@[simp] abbrev cB (d j:Nat) (b:Bool) (a:List eL) (k:AK):d4:=⟨some d,some (j,b),a,k⟩
@[simp] abbrev aQ (d s n:Nat):d4:=⟨some d,none,[.t s],.v (.bh n)⟩
@[simp] abbrev aI (d s a b c:Nat) (t:Bool):d4:=⟨some d,none,[.t s],.bl a b c t⟩
@[simp] abbrev aV (s v a b c:Nat):d4:=⟨none,none,[.t s,.t v],.dc a b c⟩
@[simp] abbrev k_ (n:Int):eL:=.c (.pv (.int .i64 n))
@[simp] abbrev T_:eL:=.c (.pv (.bool true))
@[simp] abbrev F_:eL:=.c (.pv (.bool false))
@[simp] abbrev a7 (d x:Nat) (n:Int) (k:FY):d4:=⟨some d,none,[.t x,.c (.pv (.int .i64 n))],.v k⟩
@[simp] abbrev a0 (d:Nat) (x:eL):d4:=⟨some d,none,[x],.v .mv⟩
@[simp] abbrev aY (d j:Nat) (b:Bool) (x:Nat) (k:AK):d4:=⟨some d,some (j,b),[.t x],k⟩
@[simp] abbrev bE (d:Nat) (l:List PV):d4:=⟨some d,none,[],.alloc d l⟩
@[simp] abbrev aZ:PV:=.int .i64 0
@[simp] abbrev dP:PV:=.str []
@[simp] abbrev bO:PV:=.aD []
@[simp] abbrev ez:List PV:=[aZ,dP,aZ,aZ,bO]
@[simp] abbrev eu:List PV:=[aZ,aZ,dP,aZ,bO,bO,aZ,dP,aZ,aZ,bO]
@[simp] abbrev Ck:List PV:=[aZ,dP,bO,bO]
@[simp] abbrev pW:List PV:=[aZ,aZ,dP,aZ,aZ,bO]
section
variable {AP:Nat→Option aJ} {st:St}
def g15:aJ:=⟨1,6,[.t 2],
 (.seq
 (.ae [a0 2 F_] [0])
 (.seq
 (.ae [aa 3 0,
 aH 4 3 .len,
 a7 5 4 60 (.bin .leq),
 aa 2 5] [2])
 .ret)),none,false⟩
def g20:aJ:=⟨2,36,[.t 4],
 (.seq
 (.ae [ba 2 0 (.box 2 5),
 ba 3 1 (.box 3 5),
 a0 4 F_] [2,3])
 (.seq
 (.seq
 (.ae [aQ 5 2 0,
 aI 6 5 2 0 1 false,
 aQ 7 3 0,
 aI 8 7 3 0 1 false,
 aU 9 6 8 (.bin .neq),
 aa 10 9,
 aY 11 10 false 2 (.v (.bh 1)),
 aY 12 10 false 11 (.bl 2 1 1 false),
 aY 13 10 false 3 (.v (.bh 1)),
 aY 14 10 false 13 (.bl 3 1 1 false),
 cB 15 10 false [.t 12,.t 14] (.v (.bin .neq)),
 a8 16 [.t 10,T_,.t 15] .pick,
 aa 17 16,
 aY 18 17 false 2 (.v (.bh 2)),
 aY 19 17 false 18 (.bl 2 2 1 false),
 aY 20 17 false 3 (.v (.bh 2)),
 aY 21 17 false 20 (.bl 3 2 1 false),
 cB 22 17 false [.t 19,.t 21] (.v (.bin .neq)),
 a8 23 [.t 17,T_,.t 22] .pick,
 aa 24 23,
 aY 25 24 false 2 (.v (.bh 3)),
 aY 26 24 false 25 (.bl 2 3 1 false),
 aY 27 24 false 3 (.v (.bh 3)),
 aY 28 24 false 27 (.bl 3 3 1 false),
 cB 29 24 false [.t 26,.t 28] (.v (.bin .neq)),
 a8 30 [.t 24,T_,.t 29] .pick] [2,3,30])
 (.cond (.t 30)
 (.seq
 (.ae [a0 4 F_] [4])
 .ret)
 .skip))
 (.seq
 (.ae [aQ 31 2 4,
 aI 32 31 2 4 1 false,
 aQ 33 3 4,
 aI 34 33 3 4 1 false,
 bH 35 32 34 (.aA 57),
 aa 4 35] [4])
 .ret))),none,false⟩
def g22:aJ:=⟨2,8,[.c 4 5 true],
 (.seq
 (.ae [ba 3 1 (.box 3 5),
 bE 4 ez] [0,3,4])
 (.seq
 (.ae [aI 5 3 3 0 5 true,
 aa 6 0,
 bH 7 5 6 (.aA 46),
 aV 4 7 4 0 5] [4])
 .ret)),none,false⟩
def g26:aJ:=⟨2,16,[.t 4],
 (.seq
 (.ae [a0 4 (k_ 0)] [0,1])
 (.seq
 (.seq
 (.ae [aa 5 1,
 a7 6 5 1 (.bin .lss)] [0,1,6])
 (.cond (.t 6)
 (.seq
 (.ae [a0 4 (k_ 0)] [4])
 .ret)
 .skip))
 (.seq
 (.ae [aa 7 0,
 aa 8 1,
 aU 9 7 8 (.bin .rem),
 aa 0 9] [0,1])
 (.seq
 (.seq
 (.ae [aa 10 0,
 a7 11 10 0 (.bin .lss)] [0,1,11])
 (.cond (.t 11)
 (.ae [aa 12 0,
 aa 13 1,
 aU 14 12 13 (.bin .add),
 aa 0 14] [0])
 .skip))
 (.seq
 (.ae [aa 15 0,
 aa 4 15] [4])
 .ret))))),none,false⟩
def g27B0:aw:=
 (.seq
 (.seq
 (.ae [aa 61 12,
 aQ 62 10 2,
 aI 63 62 10 2 1 false,
 aH 64 63 .len,
 aU 65 61 64 (.bin .lss)] [0,1,2,3,8,10,11,12,65])
 (.cond (.t 65)
 .skip
 (.exit 1)))
 (.seq
 (.block 2
 (.ae [aa 68 11,
 aa 69 0,
 aa 70 1,
 aa 71 2,
 aa 72 3,
 a7 73 72 1 (.bin .sub),
 bB 74 [.t 69,.t 70,.t 71,.t 73] (.aL 27 []),
 aH 75 74 (.aT 5),
 bH 76 68 75 (.append 5 64),
 aa 11 76] [0,1,2,3,8,10,11,12]))
 (.ae [aa 66 12,
 a7 67 66 1 (.bin .add),
 aa 12 67] [0,1,2,3,8,10,11,12])))
def g27L0:aw:=.loop [0,1,2,3,8,10,11,12] g27B0
theorem g27L0e: cl AP g27L0 st=after (cl AP g27L0) (cl AP g27B0 (norm (restrict [0,1,2,3,8,10,11,12] st))):=aG
def g27:aJ:=⟨4,95,[.c 8 5 true],
 (.seq
 (.ae [bE 8 ez] [0,1,2,3,8])
 (.seq
 (.ae [aa 14 0,
 bB 15 [.t 14,k_ 7] (.aL 68 []),
 aa 9 15] [0,1,2,3,8,9])
 (.seq
 (.block 0
 (.seq
 (.ae [aa 17 9,
 a7 18 17 3 (.bin .lss),
 aa 19 18,
 aY 20 19 true 2 (.v (.mv)),
 aY 21 19 true 20 (.v (.len)),
 cB 22 19 true [.t 21,k_ 0] (.v (.bin .gtr)),
 a8 23 [.t 19,.t 22,F_] .pick,
 aa 16 23] [0,1,2,3,8,9,16])
 (.cond (.t 16)
 (.seq
 (.ae [aa 24 2,
 aa 25 0,
 aa 26 2,
 aH 27 26 .len,
 bH 28 25 27 (.aL 68 []),
 aU 29 24 28 (.aC 5),
 ba 30 29 (.a6 5 true),
 aV 8 30 8 0 5] [8])
 .ret)
 (.seq
 (.ae [aa 32 9,
 a7 33 32 4 (.bin .lss),
 aa 34 33,
 aY 35 34 false 3 (.v (.mv)),
 cB 36 34 false [.t 35,k_ 1] (.v (.bin .lss)),
 a8 37 [.t 34,T_,.t 36] .pick,
 aa 31 37] [0,1,2,3,8,9,31])
 (.cond (.t 31)
 (.seq
 (.ae [bB 38 [] (.aA 34),
 aV 8 38 8 0 5] [8])
 .ret)
 (.seq
 (.seq
 (.ae [aa 40 9,
 a7 41 40 4 (.bin .eql),
 aa 42 41,
 aY 43 42 true 1 (.v (.mv)),
 aY 44 42 true 43 (.v (.len)),
 cB 45 42 true [.t 44,k_ 0] (.v (.bin .gtr)),
 a8 46 [.t 42,.t 45,F_] .pick,
 aa 39 46] [0,1,2,3,8,9,39])
 (.cond (.t 39)
 .skip
 (.ae [aa 47 9,
 a7 48 47 5 (.bin .eql),
 aa 49 48,
 aY 50 49 true 1 (.v (.mv)),
 aY 51 49 true 50 (.v (.len)),
 cB 52 49 true [.t 51,k_ 0] (.v (.bin .gtr)),
 a8 53 [.t 49,.t 52,F_] .pick,
 aa 39 53] [0,1,2,3,8,39])))
 (.cond (.t 39)
 (.seq
 (.ae [aa 54 1,
 aa 55 0,
 aa 56 1,
 aH 57 56 .len,
 bH 58 55 57 (.aL 68 []),
 aU 59 54 58 (.aC 4),
 ba 60 59 (.a6 4 true),
 bE 10 Ck,
 aV 10 60 10 0 4] [0,1,2,3,8,10])
 (.seq
 (.ae [a8 11 [.c (.bD [])] .mv] [0,1,2,3,8,10,11])
 (.seq
 (.seq
 (.ae [a0 12 (k_ 0)] [0,1,2,3,8,10,11,12])
 (.block 1
 g27L0))
 (.seq
 (.ae [aQ 77 10 1,
 aI 78 77 10 1 1 false,
 aa 79 11,
 bH 80 78 79 (.aA 62),
 aV 8 80 8 0 5] [8])
 .ret))))
 .skip)))))))
 (.seq
 (.ae [aa 81 0,
 aa 82 1,
 aa 83 2,
 aa 84 3,
 a7 85 84 1 (.bin .sub),
 bB 86 [.t 81,.t 82,.t 83,.t 85] (.aL 27 []),
 bE 13 ez,
 aV 13 86 13 0 5] [0,1,2,3,8,13])
 (.seq
 (.ae [aI 87 13 13 0 5 true,
 aa 88 0,
 aa 89 1,
 aa 90 2,
 aa 91 3,
 a7 92 91 1 (.bin .sub),
 bB 93 [.t 88,.t 89,.t 90,.t 92] (.aL 27 []),
 bH 94 87 93 (.aA 69),
 aV 8 94 8 0 5] [8])
 .ret))))),none,false⟩
def g32B0:aw:=
 (.seq
 (.seq
 (.ae [aa 21 5,
 aa 22 3,
 aH 23 22 .len,
 aU 24 21 23 (.bin .lss)] [0,3,4,5,24])
 (.cond (.t 24)
 .skip
 (.exit 0)))
 (.seq
 (.block 1
 (.seq
 (.ae [aa 27 5,
 a7 28 27 1 (.bin .neq),
 aa 29 28,
 aY 30 29 true 0 (.v (.mv)),
 aY 31 29 true 5 (.v (.mv)),
 aY 32 29 true 31 (.v (.conv .u64)),
 cB 33 29 true [.t 30,.t 32] (.v (.bin .shr)),
 cB 34 29 true [.t 33,k_ 1] (.v (.bin .and)),
 cB 35 29 true [.t 34,k_ 1] (.v (.bin .eql)),
 a8 36 [.t 29,.t 35,F_] .pick] [0,3,4,5,36])
 (.cond (.t 36)
 (.ae [aa 37 4,
 aa 38 3,
 aa 39 5,
 aU 40 38 39 (.aC 4),
 aH 41 40 (.aK 4 true),
 aH 42 41 (.aT 4),
 bH 43 37 42 (.append 4 72),
 aa 4 43] [0,3,4,5])
 .skip)))
 (.ae [aa 25 5,
 a7 26 25 1 (.bin .add),
 aa 5 26] [0,3,4,5])))
def g32L0:aw:=.loop [0,3,4,5] g32B0
theorem g32L0e: cl AP g32L0 st=after (cl AP g32L0) (cl AP g32B0 (norm (restrict [0,3,4,5] st))):=aG
def g32:aJ:=⟨1,45,[.t 2],
 (.seq
 (.ae [a8 2 [.c (.bD [])] .mv] [0])
 (.seq
 (.ae [bB 6 [] (.aA 79),
 aa 3 6] [0,3])
 (.seq
 (.ae [a8 4 [.c (.bD [])] .mv] [0,3,4])
 (.seq
 (.seq
 (.ae [aa 7 0,
 a7 8 7 2 (.bin .and),
 a7 9 8 0 (.bin .neq),
 aa 10 9,
 aY 11 10 false 0 (.v (.mv)),
 cB 12 10 false [.t 11,k_ 64] (.v (.bin .and)),
 cB 13 10 false [.t 12,k_ 0] (.v (.bin .neq)),
 a8 14 [.t 10,T_,.t 13] .pick] [0,3,4,14])
 (.cond (.t 14)
 (.ae [aa 15 4,
 aa 16 3,
 a7 17 16 1 (.aC 4),
 aH 18 17 (.aK 4 true),
 aH 19 18 (.aT 4),
 bH 20 15 19 (.append 4 72),
 aa 4 20] [0,3,4])
 .skip))
 (.seq
 (.seq
 (.ae [a0 5 (k_ 0)] [0,3,4,5])
 (.block 0
 g32L0))
 (.seq
 (.ae [aa 44 4,
 aa 2 44] [2])
 .ret)))))),none,false⟩
def g34:aJ:=⟨0,2,[.c 0 5 true],
 (.seq
 (.ae [bE 0 ez] [0])
 (.seq
 (.ae [bB 1 [.c (.pv (.str [73,110,116])),.c (.bD [])] (.aA 62),
 aV 0 1 0 0 5] [0])
 .ret)),none,false⟩
def g46B0:aw:=
 (.seq
 (.seq
 (.ae [aa 11 5,
 aa 12 1,
 aH 13 12 .len,
 aU 14 11 13 (.bin .lss)] [1,2,4,5,14])
 (.cond (.t 14)
 .skip
 (.exit 0)))
 (.seq
 (.block 1
 (.seq
 (.ae [aa 17 1,
 aa 18 5,
 aU 19 17 18 (.aC 6),
 aQ 20 19 0,
 aH 21 20 (.aK 1 false),
 aQ 22 2 2,
 aI 23 22 2 2 1 false,
 aU 24 21 23 (.bin .eql)] [1,2,4,5,24])
 (.cond (.t 24)
 (.seq
 (.ae [aa 25 1,
 aa 26 5,
 aU 27 25 26 (.aC 6),
 aQ 28 27 1,
 aH 29 28 (.aK 5 true),
 aV 4 29 4 0 5] [4])
 .ret)
 .skip)))
 (.ae [aa 15 5,
 a7 16 15 1 (.bin .add),
 aa 5 16] [1,2,4,5])))
def g46L0:aw:=.loop [1,2,4,5] g46B0
theorem g46L0e: cl AP g46L0 st=after (cl AP g46L0) (cl AP g46B0 (norm (restrict [1,2,4,5] st))):=aG
def g46B1:aw:=
 (.seq
 (.seq
 (.ae [aa 33 7,
 aQ 34 2 4,
 aI 35 34 2 4 1 false,
 aH 36 35 .len,
 aU 37 33 36 (.bin .lss)] [1,2,4,6,7,37])
 (.cond (.t 37)
 .skip
 (.exit 2)))
 (.seq
 (.block 3
 (.ae [aQ 40 6 4,
 aI 41 40 6 4 1 false,
 aQ 42 2 4,
 aI 43 42 2 4 1 false,
 aa 44 7,
 aU 45 43 44 (.aC 5),
 aH 46 45 (.aK 5 true),
 aa 47 1,
 bH 48 46 47 (.aA 46),
 aH 49 48 (.aT 5),
 bH 50 41 49 (.append 5 64),
 aQ 51 6 4,
 aV 51 50 6 4 1] [1,2,4,6,7]))
 (.ae [aa 38 7,
 a7 39 38 1 (.bin .add),
 aa 7 39] [1,2,4,6,7])))
def g46L1:aw:=.loop [1,2,4,6,7] g46B1
theorem g46L1e: cl AP g46L1 st=after (cl AP g46L1) (cl AP g46B1 (norm (restrict [1,2,4,6,7] st))):=aG
def g46:aJ:=⟨2,53,[.c 4 5 true],
 (.seq
 (.ae [ba 2 0 (.box 2 5),
 bE 4 ez] [1,2,4])
 (.seq
 (.seq
 (.ae [aQ 8 2 0,
 aI 9 8 2 0 1 false,
 a7 10 9 1 (.bin .eql)] [1,2,4,10])
 (.cond (.t 10)
 (.seq
 (.seq
 (.ae [a0 5 (k_ 0)] [1,2,4,5])
 (.block 0
 g46L0))
 (.seq
 (.ae [aI 30 2 2 0 5 true,
 aV 4 30 4 0 5] [4])
 .ret))
 .skip))
 (.seq
 (.ae [aI 31 2 2 0 5 true,
 bE 6 ez,
 aV 6 31 6 0 5] [1,2,4,6])
 (.seq
 (.ae [aQ 32 6 4,
 jX [.t 32,.c (.bD [])] (.dc 6 4 1)] [1,2,4,6])
 (.seq
 (.seq
 (.ae [a0 7 (k_ 0)] [1,2,4,6,7])
 (.block 2
 g46L1))
 (.seq
 (.ae [aI 52 6 6 0 5 true,
 aV 4 52 4 0 5] [4])
 .ret)))))),none,false⟩
def g48B0:aw:=
 (.seq
 (.seq
 (.ae [aa 29 6,
 aQ 30 2 4,
 aI 31 30 2 4 1 false,
 aH 32 31 .len,
 aU 33 29 32 (.bin .lss)] [1,2,4,5,6,33])
 (.cond (.t 33)
 .skip
 (.exit 0)))
 (.seq
 (.block 1
 (.ae [aQ 36 5 4,
 aI 37 36 5 4 1 false,
 aQ 38 2 4,
 aI 39 38 2 4 1 false,
 aa 40 6,
 aU 41 39 40 (.aC 5),
 aH 42 41 (.aK 5 true),
 aa 43 1,
 bH 44 42 43 (.aA 48),
 aH 45 44 (.aT 5),
 bH 46 37 45 (.append 5 64),
 aQ 47 5 4,
 aV 47 46 5 4 1] [1,2,4,5,6]))
 (.ae [aa 34 6,
 a7 35 34 1 (.bin .add),
 aa 6 35] [1,2,4,5,6])))
def g48L0:aw:=.loop [1,2,4,5,6] g48B0
theorem g48L0e: cl AP g48L0 st=after (cl AP g48L0) (cl AP g48B0 (norm (restrict [1,2,4,5,6] st))):=aG
def g48:aJ:=⟨2,49,[.c 4 5 true],
 (.seq
 (.ae [ba 2 0 (.box 2 5),
 bE 4 ez] [1,2,4])
 (.seq
 (.seq
 (.ae [aQ 7 2 0,
 aI 8 7 2 0 1 false,
 a7 9 8 2 (.bin .eql),
 aa 10 9,
 aY 11 10 true 2 (.v (.bh 2)),
 aY 12 10 true 11 (.bl 2 2 1 false),
 cB 13 10 true [.t 12,k_ 0] (.v (.bin .geq)),
 a8 14 [.t 10,.t 13,F_] .pick,
 aa 15 14,
 aY 16 15 true 2 (.v (.bh 2)),
 aY 17 15 true 16 (.bl 2 2 1 false),
 aY 18 15 true 1 (.v (.mv)),
 aY 19 15 true 18 (.v (.len)),
 cB 20 15 true [.t 17,.t 19] (.v (.bin .lss)),
 a8 21 [.t 15,.t 20,F_] .pick] [1,2,4,21])
 (.cond (.t 21)
 (.seq
 (.ae [aa 22 1,
 aQ 23 2 2,
 aI 24 23 2 2 1 false,
 aU 25 22 24 (.aC 5),
 aH 26 25 (.aK 5 true),
 aV 4 26 4 0 5] [4])
 .ret)
 .skip))
 (.seq
 (.ae [aI 27 2 2 0 5 true,
 bE 5 ez,
 aV 5 27 5 0 5] [1,2,4,5])
 (.seq
 (.ae [aQ 28 5 4,
 jX [.t 28,.c (.bD [])] (.dc 5 4 1)] [1,2,4,5])
 (.seq
 (.seq
 (.ae [a0 6 (k_ 0)] [1,2,4,5,6])
 (.block 0
 g48L0))
 (.seq
 (.ae [aI 48 5 5 0 5 true,
 aV 4 48 4 0 5] [4])
 .ret)))))),none,false⟩
def g52B0:aw:=
 (.seq
 (.seq
 (.ae [aa 5 4,
 aQ 6 1 4,
 aI 7 6 1 4 1 false,
 aH 8 7 .len,
 aU 9 5 8 (.bin .lss)] [1,3,4,9])
 (.cond (.t 9)
 .skip
 (.exit 0)))
 (.seq
 (.block 1
 (.ae [aa 12 3,
 aQ 13 1 4,
 aI 14 13 1 4 1 false,
 aa 15 4,
 aU 16 14 15 (.aC 5),
 aH 17 16 (.aK 5 true),
 ba 18 17 (.aA 52),
 a8 19 [k_ 1,.t 18] (.bin .add),
 aU 20 12 19 .mx,
 aa 3 20] [1,3,4]))
 (.ae [aa 10 4,
 a7 11 10 1 (.bin .add),
 aa 4 11] [1,3,4])))
def g52L0:aw:=.loop [1,3,4] g52B0
theorem g52L0e: cl AP g52L0 st=after (cl AP g52L0) (cl AP g52B0 (norm (restrict [1,3,4] st))):=aG
def g52:aJ:=⟨1,22,[.t 2],
 (.seq
 (.ae [ba 1 0 (.box 1 5),
 a0 2 (k_ 0)] [1])
 (.seq
 (.ae [a0 3 (k_ 0)] [1,3])
 (.seq
 (.seq
 (.ae [a0 4 (k_ 0)] [1,3,4])
 (.block 0
 g52L0))
 (.seq
 (.ae [aa 21 3,
 aa 2 21] [2])
 .ret)))),none,false⟩
def g55B0:aw:=
 (.seq
 (.ae [aU 9 8 7 (.bin .lss)] [3,6,7,8,9])
 (.seq
 (.cond (.t 9)
 .skip
 (.exit 0))
 (.seq
 (.block 1
 (.seq
 (.ae [aU 10 6 8 (.aC 5),
 aH 11 10 (.aK 5 true),
 bE 5 ez,
 aV 5 11 5 0 5] [3,5,6,7,8])
 (.ae [aI 12 5 5 0 5 true,
 aH 13 3 (.CF 97),
 bH 14 12 13 (.aL 96 [])] [3,6,7,8])))
 (.ae [a7 15 8 1 (.bin .add),
 aa 8 15] [3,6,7,8]))))
def g55L0:aw:=.loop [3,6,7,8] g55B0
theorem g55L0e: cl AP g55L0 st=after (cl AP g55L0) (cl AP g55B0 (norm (restrict [3,6,7,8] st))):=aG
def g55:aJ:=⟨1,17,[.t 2],
 (.seq
 (.ae [a8 2 [.c (.bD [])] .mv] [0])
 (.seq
 (.ae [bB 3 [] (.ia [bO])] [0,3])
 (.seq
 (.seq
 (.ae [aa 6 0,
 aH 7 6 .len,
 a0 8 (k_ 0)] [3,6,7,8])
 (.block 0
 g55L0))
 (.seq
 (.ae [ba 16 3 (.a6 1 false),
 aa 2 16] [2])
 .ret)))),none,false⟩
def g56B0:aw:=
 (.seq
 (.seq
 (.ae [aa 7 4,
 aa 8 0,
 aH 9 8 .len,
 aU 10 7 9 (.bin .lss)] [0,3,4,10])
 (.cond (.t 10)
 .skip
 (.exit 0)))
 (.seq
 (.block 1
 (.ae [aa 13 3,
 aa 14 0,
 aa 15 4,
 aU 16 14 15 (.aC 5),
 aH 17 16 (.aK 5 true),
 bB 18 [.t 13,.t 17,k_ 1] (.aL 99 [0]),
 aa 3 18] [0,3,4]))
 (.ae [aa 11 4,
 a7 12 11 1 (.bin .add),
 aa 4 12] [0,3,4])))
def g56L0:aw:=.loop [0,3,4] g56B0
theorem g56L0e: cl AP g56L0 st=after (cl AP g56L0) (cl AP g56B0 (norm (restrict [0,3,4] st))):=aG
def g56B1:aw:=
 (.seq
 (.seq
 (.ae [aa 19 6,
 aa 20 3,
 aH 21 20 .len,
 aU 22 19 21 (.bin .lss)] [3,5,6,22])
 (.cond (.t 22)
 .skip
 (.exit 2)))
 (.seq
 (.block 3
 (.seq
 (.ae [aa 25 5,
 aa 26 3,
 aa 27 6,
 aU 28 26 27 (.aC 5),
 aQ 29 28 2,
 aH 30 29 (.aK 1 false),
 bH 31 25 30 (.aA 95),
 aH 32 31 (.un .not)] [3,5,6,32])
 (.cond (.t 32)
 (.ae [aa 33 5,
 aa 34 3,
 aa 35 6,
 aU 36 34 35 (.aC 5),
 aQ 37 36 2,
 aH 38 37 (.aK 1 false),
 aH 39 38 (.aT 1),
 bH 40 33 39 (.append 1 8),
 aa 5 40] [3,5,6])
 .skip)))
 (.ae [aa 23 6,
 a7 24 23 1 (.bin .add),
 aa 6 24] [3,5,6])))
def g56L1:aw:=.loop [3,5,6] g56B1
theorem g56L1e: cl AP g56L1 st=after (cl AP g56L1) (cl AP g56B1 (norm (restrict [3,5,6] st))):=aG
def g56:aJ:=⟨1,42,[.t 2],
 (.seq
 (.ae [a8 2 [.c (.bD [])] .mv] [0])
 (.seq
 (.ae [a8 3 [.c (.bD [])] .mv] [0,3])
 (.seq
 (.seq
 (.ae [a0 4 (k_ 0)] [0,3,4])
 (.block 0
 g56L0))
 (.seq
 (.ae [a8 5 [.c (.bD [])] .mv] [3,5])
 (.seq
 (.seq
 (.ae [a0 6 (k_ 0)] [3,5,6])
 (.block 2
 g56L1))
 (.seq
 (.ae [aa 41 5,
 aa 2 41] [2])
 .ret)))))),none,false⟩
def g57B0:aw:=
 (.seq
 (.seq
 (.ae [aa 11 5,
 aa 12 0,
 aH 13 12 .len,
 aU 14 11 13 (.bin .lss)] [0,1,5,14])
 (.cond (.t 14)
 .skip
 (.exit 0)))
 (.seq
 (.block 1
 (.seq
 (.ae [aa 17 0,
 aa 18 5,
 aU 19 17 18 (.aC 5),
 aH 20 19 (.aK 5 true),
 aa 21 1,
 aa 22 5,
 aU 23 21 22 (.aC 5),
 aH 24 23 (.aK 5 true),
 bH 25 20 24 (.aA 20),
 aH 26 25 (.un .not)] [0,1,5,26])
 (.cond (.t 26)
 (.seq
 (.ae [a0 4 F_] [4])
 .ret)
 .skip)))
 (.ae [aa 15 5,
 a7 16 15 1 (.bin .add),
 aa 5 16] [0,1,5])))
def g57L0:aw:=.loop [0,1,5] g57B0
theorem g57L0e: cl AP g57L0 st=after (cl AP g57L0) (cl AP g57B0 (norm (restrict [0,1,5] st))):=aG
def g57:aJ:=⟨2,27,[.t 4],
 (.seq
 (.ae [a0 4 F_] [0,1])
 (.seq
 (.seq
 (.ae [aa 6 0,
 aH 7 6 .len,
 aa 8 1,
 aH 9 8 .len,
 aU 10 7 9 (.bin .neq)] [0,1,10])
 (.cond (.t 10)
 (.seq
 (.ae [a0 4 F_] [4])
 .ret)
 .skip))
 (.seq
 (.seq
 (.ae [a0 5 (k_ 0)] [0,1,5])
 (.block 0
 g57L0))
 (.seq
 (.ae [a0 4 T_] [4])
 .ret)))),none,false⟩
def g59B0:aw:=
 (.seq
 (.seq
 (.ae [aa 5 4,
 aa 6 0,
 aH 7 6 .len,
 aU 8 5 7 (.bin .lss)] [0,3,4,8])
 (.cond (.t 8)
 .skip
 (.exit 0)))
 (.seq
 (.block 1
 (.ae [aa 11 3,
 aa 12 0,
 aa 13 4,
 aU 14 12 13 (.aC 5),
 aH 15 14 (.aK 5 true),
 bB 16 [.t 11,.t 15,k_ 3] (.aL 99 [0]),
 aa 3 16] [0,3,4]))
 (.ae [aa 9 4,
 a7 10 9 1 (.bin .add),
 aa 4 10] [0,3,4])))
def g59L0:aw:=.loop [0,3,4] g59B0
theorem g59L0e: cl AP g59L0 st=after (cl AP g59L0) (cl AP g59B0 (norm (restrict [0,3,4] st))):=aG
def g59:aJ:=⟨1,18,[.t 2],
 (.seq
 (.ae [a8 2 [.c (.bD [])] .mv] [0])
 (.seq
 (.ae [a8 3 [.c (.bD [])] .mv] [0,3])
 (.seq
 (.seq
 (.ae [a0 4 (k_ 0)] [0,3,4])
 (.block 0
 g59L0))
 (.seq
 (.ae [aa 17 3,
 aa 2 17] [2])
 .ret)))),none,false⟩
def g62:aJ:=⟨2,9,[.c 4 5 true],
 (.seq
 (.ae [bE 4 ez] [0,1,4])
 (.seq
 (.ae [aa 5 0,
 aa 6 1,
 bB 7 [.c (.bD []),.t 6] (.append 5 64),
 a8 8 [k_ 4,.t 5,.t 7] (.build ez [(0,1),(1,1),(4,1)]),
 aV 4 8 4 0 5] [4])
 .ret)),none,false⟩
def g63:aJ:=⟨1,5,[.c 2 5 true],
 (.seq
 (.ae [bE 2 ez] [0,2])
 (.seq
 (.ae [aa 3 0,
 a8 4 [k_ 1,.t 3] (.build ez [(0,1),(2,1)]),
 aV 2 4 2 0 5] [2])
 .ret)),none,false⟩
def g67:aJ:=⟨0,5,[.t 0],
 (.seq
 (.ae [a8 0 [.c (.bD [])] .mv] [])
 (.seq
 (.ae [bB 1 [.c (.pv (.str [97]))] (.aA 106),
 bB 2 [.c (.pv (.str [98]))] (.aA 106),
 bB 3 [.c (.pv (.str [99]))] (.aA 106),
 a8 4 [.t 1,.t 2,.t 3] (.aT 5),
 aa 0 4] [0])
 .ret)),none,false⟩
def g68:aJ:=⟨2,35,[.t 4],
 (.seq
 (.ae [a0 4 (k_ 0)] [0,1])
 (.seq
 (.seq
 (.ae [aa 5 0,
 aH 6 5 .a9,
 aQ 7 6 1,
 ba 8 7 (.a6 1 false),
 aa 9 0,
 aH 10 9 .a9,
 aQ 11 10 0,
 ba 12 11 (.a6 1 false),
 aH 13 12 .len,
 aU 14 8 13 (.bin .geq)] [0,1,14])
 (.cond (.t 14)
 (.seq
 (.ae [a0 4 (k_ 0)] [4])
 .ret)
 .skip))
 (.seq
 (.ae [aa 15 0,
 aH 16 15 .a9,
 aQ 17 16 1,
 ba 18 17 (.a6 1 false),
 a7 19 18 1 (.bin .add),
 aH 20 15 .a9,
 aQ 21 20 1,
 jX [.t 21,.t 19] (.cz 1)] [0,1])
 (.seq
 (.ae [aa 22 0,
 aH 23 22 .a9,
 aQ 24 23 0,
 ba 25 24 (.a6 1 false),
 aa 26 0,
 aH 27 26 .a9,
 aQ 28 27 1,
 ba 29 28 (.a6 1 false),
 a7 30 29 1 (.bin .sub),
 aU 31 25 30 (.aC 1),
 aH 32 31 (.aK 1 false),
 aa 33 1,
 bH 34 32 33 (.aA 26),
 aa 4 34] [4])
 .ret)))),none,false⟩
def g69:aJ:=⟨2,9,[.c 4 5 true],
 (.seq
 (.ae [ba 2 0 (.box 2 5),
 ba 3 1 (.box 3 5),
 bE 4 ez] [2,3,4])
 (.seq
 (.ae [aI 5 2 2 0 5 true,
 aI 6 3 3 0 5 true,
 aU 7 5 6 (.aT 5),
 bB 8 [.c (.pv (.str [45,62])),.t 7] (.aA 62),
 aV 4 8 4 0 5] [4])
 .ret)),none,false⟩
def g71:aJ:=⟨2,8,[.c 4 5 true],
 (.seq
 (.ae [bE 4 ez] [0,1,4])
 (.seq
 (.ae [aa 5 0,
 aa 6 1,
 a8 7 [k_ 3,.t 5,.t 6] (.build ez [(0,1),(3,1),(2,1)]),
 aV 4 7 4 0 5] [4])
 .ret)),none,false⟩
def g72:aJ:=⟨1,5,[.c 2 5 true],
 (.seq
 (.ae [bE 2 ez] [0,2])
 (.seq
 (.ae [aa 3 0,
 a8 4 [k_ 2,.t 3] (.build ez [(0,1),(2,1)]),
 aV 2 4 2 0 5] [2])
 .ret)),none,false⟩
def g77:aJ:=⟨1,20,[.t 2],
 (.seq
 (.ae [a0 2 F_] [0])
 (.seq
 (.ae [aa 3 0,
 ba 4 3 (.aA 108),
 aa 5 4,
 aY 6 5 true 0 (.v (.mv)),
 cB 7 5 true [.t 6,k_ 0] (.v (.index)),
 aY 8 5 true 7 (.aA 109),
 a8 9 [.t 5,.t 8,F_] .pick,
 aa 10 9,
 aY 11 10 true 0 (.v (.mv)),
 aY 12 10 true 11 (.v (.jB)),
 cB 13 10 true [.t 12,k_ 12] (.v (.bin .leq)),
 a8 14 [.t 10,.t 13,F_] .pick,
 aa 15 14,
 aY 16 15 true 0 (.v (.mv)),
 aY 17 15 true 16 (.aA 110),
 aY 18 15 true 17 (.v (.un .not)),
 a8 19 [.t 15,.t 18,F_] .pick,
 aa 2 19] [2])
 .ret)),none,false⟩
def g78:aJ:=⟨1,15,[.t 2],
 (.seq
 (.ae [a0 2 F_] [0])
 (.seq
 (.ae [aa 3 0,
 ba 4 3 (.aA 108),
 aa 5 4,
 aY 6 5 true 0 (.v (.mv)),
 cB 7 5 true [.t 6,k_ 0] (.v (.index)),
 aY 8 5 true 7 (.aA 111),
 a8 9 [.t 5,.t 8,F_] .pick,
 aa 10 9,
 aY 11 10 true 0 (.v (.mv)),
 aY 12 10 true 11 (.v (.jB)),
 cB 13 10 true [.t 12,k_ 12] (.v (.bin .leq)),
 a8 14 [.t 10,.t 13,F_] .pick,
 aa 2 14] [2])
 .ret)),none,false⟩
def g79:aJ:=⟨0,9,[.t 0],
 (.seq
 (.ae [a8 0 [.c (.bD [])] .mv] [])
 (.seq
 (.ae [bB 4 [.c (.pv (.str [100,97,116,97,32,66,111,111,108,32,61,32,84,114,117,101,32,124,32,70,97,108,115,101,59,32,100,97,116,97,32,79,112,116,105,111,110,32,97,32,61,32,78,111,110,101,32,124,32,83,111,109,101,32,97,59,32,100,97,116,97,32,76,105,115,116,32,97,32,61,32,78,105,108,32,124,32,67,111,110,115,32,97,32,40,76,105,115,116,32,97,41,59,100,97,116,97,32,80,97,105,114,32,97,32,98,32,61,32,80,97,105,114,32,97,32,98,59,32,100,97,116,97,32,78,97,116,32,61,32,90,101,114,111,32,124,32,83,117,99,99,32,78,97,116,59,32,100,97,116,97,32,70,117,110,32,97,32,98,32,61,32,70,117,110,32,40,97,32,45,62,32,98,41,59,32,100,97,116,97,32,84,119,111,32,97,32,61,32,66,111,116,104,32,97,32,97,32,124,32,79,110,101,32,40,79,112,116,105,111,110,32,97,41,59]))] (.aA 112),
 aa 3 4,
 aH 5 3 (.ext 0),
 aH 6 3 (.ext 1),
 bE 1 [bO,bO],
 bE 2 [aZ,aZ],
 aV 1 5 1 0 2,
 aV 2 6 2 0 2] [1])
 (.seq
 (.ae [aQ 7 1 0,
 aI 8 7 1 0 1 false,
 aa 0 8] [0])
 .ret))),none,false⟩
def g95B0:aw:=
 (.seq
 (.seq
 (.ae [aa 6 5,
 aa 7 0,
 aH 8 7 .len,
 aU 9 6 8 (.bin .lss)] [0,1,5,9])
 (.cond (.t 9)
 .skip
 (.exit 0)))
 (.seq
 (.block 1
 (.seq
 (.ae [aa 12 0,
 aa 13 5,
 aU 14 12 13 (.aC 1),
 aH 15 14 (.aK 1 false),
 aa 16 1,
 aU 17 15 16 (.bin .eql)] [0,1,5,17])
 (.cond (.t 17)
 (.seq
 (.ae [a0 4 T_] [4])
 .ret)
 .skip)))
 (.ae [aa 10 5,
 a7 11 10 1 (.bin .add),
 aa 5 11] [0,1,5])))
def g95L0:aw:=.loop [0,1,5] g95B0
theorem g95L0e: cl AP g95L0 st=after (cl AP g95L0) (cl AP g95B0 (norm (restrict [0,1,5] st))):=aG
def g95:aJ:=⟨2,18,[.t 4],
 (.seq
 (.ae [a0 4 F_] [0,1])
 (.seq
 (.seq
 (.ae [a0 5 (k_ 0)] [0,1,5])
 (.block 0
 g95L0))
 (.seq
 (.ae [a0 4 F_] [4])
 .ret))),none,false⟩
def g96B0:aw:=
 (.seq
 (.ae [aU 13 12 11 (.bin .lss)] [1,10,11,12,13])
 (.seq
 (.cond (.t 13)
 .skip
 (.exit 0))
 (.seq
 (.block 1
 (.seq
 (.ae [aU 14 10 12 (.aC 5),
 aH 15 14 (.aK 5 true),
 bE 5 ez,
 aV 5 15 5 0 5] [1,5,10,11,12])
 (.ae [aI 16 5 5 0 5 true,
 aa 17 1,
 bH 18 16 17 (.aL 96 [])] [1,10,11,12])))
 (.ae [a7 19 12 1 (.bin .add),
 aa 12 19] [1,10,11,12]))))
def g96L0:aw:=.loop [1,10,11,12] g96B0
theorem g96L0e: cl AP g96L0 st=after (cl AP g96L0) (cl AP g96B0 (norm (restrict [1,10,11,12] st))):=aG
def g96:aJ:=⟨2,20,[],
 (.seq
 (.ae [ba 2 0 (.box 2 5)] [1,2])
 (.seq
 (.ae [aa 6 1,
 aI 7 2 2 0 5 true,
 bH 8 6 7 .ff] [1,2])
 (.seq
 (.ae [aQ 9 2 4,
 aI 10 9 2 4 1 false,
 aH 11 10 .len,
 a0 12 (k_ 0)] [1,10,11,12])
 (.block 0
 g96L0)))),none,false⟩
def g97:aJ:=⟨1,18,[],
 (.seq
 (.ae [ba 2 0 (.box 2 5)] [1,2])
 (.seq
 (.ae [aQ 3 2 0,
 aI 4 3 2 0 1 false,
 a7 5 4 1 (.bin .eql),
 aa 6 5,
 aY 7 6 true 1 (.a6 1 false),
 aY 8 6 true 2 (.v (.bh 2)),
 aY 9 6 true 8 (.bl 2 2 1 false),
 cB 10 6 true [.t 7,.t 9] (.aA 98),
 aY 11 6 true 10 (.v (.un .not)),
 a8 12 [.t 6,.t 11,F_] .pick] [1,2,12])
 (.cond (.t 12)
 (.ae [ba 13 1 (.a6 1 false),
 aQ 14 2 2,
 aI 15 14 2 2 1 false,
 aH 16 15 (.aT 1),
 bH 17 13 16 (.append 1 8),
 jX [.t 1,.t 17] (.cz 1)] [])
 .skip))),none,false⟩
def g98:aJ:=⟨2,9,[.t 4],
 (.seq
 (.ae [a0 4 F_] [0,1])
 (.seq
 (.ae [aa 5 0,
 aa 6 1,
 bH 7 5 6 (.aA 116),
 a7 8 7 0 (.bin .geq),
 aa 4 8] [4])
 .ret)),none,false⟩
def g99B0:aw:=
 (.seq
 (.seq
 (.ae [aa 19 7,
 aa 20 0,
 aH 21 20 .len,
 aU 22 19 21 (.bin .lss)] [0,4,7,22])
 (.cond (.t 22)
 .skip
 (.exit 0)))
 (.seq
 (.block 1
 (.seq
 (.ae [aa 25 0,
 aa 26 7,
 aU 27 25 26 (.aC 5),
 aH 28 27 (.aK 5 true),
 aI 29 4 4 0 5 true,
 bH 30 28 29 (.aA 20)] [0,4,7,30])
 (.cond (.t 30)
 (.seq
 (.ae [aa 31 0,
 aa 6 31] [6])
 .ret)
 .skip)))
 (.ae [aa 23 7,
 a7 24 23 1 (.bin .add),
 aa 7 24] [0,4,7])))
def g99L0:aw:=.loop [0,4,7] g99B0
theorem g99L0e: cl AP g99L0 st=after (cl AP g99L0) (cl AP g99B0 (norm (restrict [0,4,7] st))):=aG
def g99B1:aw:=
 (.seq
 (.seq
 (.ae [aa 36 8,
 aQ 37 4 4,
 aI 38 37 4 4 1 false,
 aH 39 38 .len,
 aU 40 36 39 (.bin .lss)] [0,2,4,8,40])
 (.cond (.t 40)
 .skip
 (.exit 2)))
 (.seq
 (.block 3
 (.ae [aa 43 0,
 aQ 44 4 4,
 aI 45 44 4 4 1 false,
 aa 46 8,
 aU 47 45 46 (.aC 5),
 aH 48 47 (.aK 5 true),
 aa 49 2,
 bB 50 [.t 43,.t 48,.t 49] (.aL 99 [0]),
 aa 0 50] [0,2,4,8]))
 (.ae [aa 41 8,
 a7 42 41 1 (.bin .add),
 aa 8 42] [0,2,4,8])))
def g99L1:aw:=.loop [0,2,4,8] g99B1
theorem g99L1e: cl AP g99L1 st=after (cl AP g99L1) (cl AP g99B1 (norm (restrict [0,2,4,8] st))):=aG
def g99:aJ:=⟨3,52,[.t 6],
 (.seq
 (.ae [ba 4 1 (.box 4 5),
 a8 6 [.c (.bD [])] .mv] [0,2,4])
 (.seq
 (.seq
 (.ae [aQ 9 4 0,
 aI 10 9 4 0 1 false,
 aa 11 2,
 aU 12 10 11 (.bin .eql),
 aa 13 12,
 aY 14 13 true 4 (.v (.bh 4)),
 aY 15 13 true 14 (.bl 4 4 1 false),
 aY 16 13 true 15 (.v (.len)),
 cB 17 13 true [.t 16,k_ 0] (.v (.bin .eql)),
 a8 18 [.t 13,.t 17,F_] .pick] [0,2,4,18])
 (.cond (.t 18)
 (.seq
 (.seq
 (.ae [a0 7 (k_ 0)] [0,4,7])
 (.block 0
 g99L0))
 (.seq
 (.ae [aa 32 0,
 aI 33 4 4 0 5 true,
 aH 34 33 (.aT 5),
 bH 35 32 34 (.append 5 64),
 aa 6 35] [6])
 .ret))
 .skip))
 (.seq
 (.seq
 (.ae [a0 8 (k_ 0)] [0,2,4,8])
 (.block 2
 g99L1))
 (.seq
 (.ae [aa 51 0,
 aa 6 51] [6])
 .ret)))),none,false⟩
def g106:aJ:=⟨1,5,[.c 2 5 true],
 (.seq
 (.ae [bE 2 ez] [0,2])
 (.seq
 (.ae [aa 3 0,
 a8 4 [k_ 5,.t 3] (.build ez [(0,1),(1,1)]),
 aV 2 4 2 0 5] [2])
 .ret)),none,false⟩
def g108B0:aw:=
 (.seq
 (.seq
 (.ae [aa 4 3,
 aa 5 0,
 aH 6 5 .jB,
 aU 7 4 6 (.bin .lss)] [0,3,7])
 (.cond (.t 7)
 .skip
 (.exit 0)))
 (.seq
 (.block 1
 (.seq
 (.ae [aa 10 0,
 aa 11 3,
 aU 12 10 11 .index,
 ba 13 12 (.aA 117),
 aH 14 13 (.un .not)] [0,3,14])
 (.cond (.t 14)
 (.seq
 (.ae [a0 2 F_] [2])
 .ret)
 .skip)))
 (.ae [aa 8 3,
 a7 9 8 1 (.bin .add),
 aa 3 9] [0,3])))
def g108L0:aw:=.loop [0,3] g108B0
theorem g108L0e: cl AP g108L0 st=after (cl AP g108L0) (cl AP g108B0 (norm (restrict [0,3] st))):=aG
def g108:aJ:=⟨1,17,[.t 2],
 (.seq
 (.ae [a0 2 F_] [0])
 (.seq
 (.seq
 (.ae [a0 3 (k_ 0)] [0,3])
 (.block 0
 g108L0))
 (.seq
 (.ae [aa 15 0,
 a8 16 [.t 15,.c (.pv (.str []))] (.bin .neq),
 aa 2 16] [2])
 .ret))),none,false⟩
def g109:aJ:=⟨1,9,[.t 2],
 (.seq
 (.ae [a0 2 F_] [0])
 (.seq
 (.ae [aa 3 0,
 a8 4 [.t 3,.c (.pv (.int .u8 97))] (.bin .geq),
 aa 5 4,
 aY 6 5 true 0 (.v (.mv)),
 cB 7 5 true [.t 6,.c (.pv (.int .u8 122))] (.v (.bin .leq)),
 a8 8 [.t 5,.t 7,F_] .pick,
 aa 2 8] [2])
 .ret)),none,false⟩
def g110B0:aw:=
 (.seq
 (.seq
 (.ae [aa 6 4,
 aa 7 3,
 aH 8 7 .len,
 aU 9 6 8 (.bin .lss)] [0,3,4,9])
 (.cond (.t 9)
 .skip
 (.exit 0)))
 (.seq
 (.block 1
 (.seq
 (.ae [aa 12 3,
 aa 13 4,
 aU 14 12 13 (.aC 1),
 aH 15 14 (.aK 1 false),
 aa 16 0,
 aU 17 15 16 (.bin .eql)] [0,3,4,17])
 (.cond (.t 17)
 (.seq
 (.ae [a0 2 T_] [2])
 .ret)
 .skip)))
 (.ae [aa 10 4,
 a7 11 10 1 (.bin .add),
 aa 4 11] [0,3,4])))
def g110L0:aw:=.loop [0,3,4] g110B0
theorem g110L0e: cl AP g110L0 st=after (cl AP g110L0) (cl AP g110B0 (norm (restrict [0,3,4] st))):=aG
def g110:aJ:=⟨1,18,[.t 2],
 (.seq
 (.ae [a0 2 F_] [0])
 (.seq
 (.ae [a8 5 [.c (.pv (.str [100,97,116,97])),.c (.pv (.str [108,101,116])),.c (.pv (.str [114,101,99])),.c (.pv (.str [105,110])),.c (.pv (.str [99,97,115,101])),.c (.pv (.str [111,102])),.c (.pv (.str [101,110,100]))] (.aT 1),
 aa 3 5] [0,3])
 (.seq
 (.seq
 (.ae [a0 4 (k_ 0)] [0,3,4])
 (.block 0
 g110L0))
 (.seq
 (.ae [a0 2 F_] [2])
 .ret)))),none,false⟩
def g111:aJ:=⟨1,9,[.t 2],
 (.seq
 (.ae [a0 2 F_] [0])
 (.seq
 (.ae [aa 3 0,
 a8 4 [.t 3,.c (.pv (.int .u8 65))] (.bin .geq),
 aa 5 4,
 aY 6 5 true 0 (.v (.mv)),
 cB 7 5 true [.t 6,.c (.pv (.int .u8 90))] (.v (.bin .leq)),
 a8 8 [.t 5,.t 7,F_] .pick,
 aa 2 8] [2])
 .ret)),none,false⟩
def g112B0:aw:=
 (.seq
 (.seq
 (.ae [aa 20 7,
 aH 21 20 .a9,
 aQ 22 21 2,
 ba 23 22 (.a6 1 false),
 aH 24 23 (.un .not),
 aa 25 24,
 aY 26 25 true 7 (.v (.mv)),
 aY 27 25 true 26 (.v (.a9)),
 aY 28 25 true 27 (.v (.bh 1)),
 aY 29 25 true 28 (.a6 1 false),
 aY 30 25 true 4 (.v (.mv)),
 aY 31 25 true 30 (.v (.len)),
 cB 32 25 true [.t 29,.t 31] (.v (.bin .lss)),
 a8 33 [.t 25,.t 32,F_] .pick] [2,3,4,5,6,7,33])
 (.cond (.t 33)
 .skip
 (.exit 0)))
 (.block 1
 (.seq
 (.ae [aa 34 7,
 bB 35 [.t 34,.c (.pv (.str [100,97,116,97]))] (.aL 120 [])] [2,3,4,5,6,7,35])
 (.cond (.t 35)
 (.ae [aQ 36 6 0,
 aI 37 36 6 0 1 false,
 aa 38 7,
 ba 39 38 (.aL 121 []),
 aH 40 39 (.aT 4),
 bH 41 37 40 (.append 4 72),
 aQ 42 6 0,
 aV 42 41 6 0 1] [2,3,4,5,6,7])
 (.ae [aQ 43 6 1,
 aI 44 43 6 1 1 false,
 aa 45 7,
 ba 46 45 (.aL 122 []),
 aH 47 46 (.aT 20),
 bH 48 44 47 (.append 20 256),
 aQ 49 6 1,
 aV 49 48 6 1 1] [2,3,4,5,6,7])))))
def g112L0:aw:=.loop [2,3,4,5,6,7] g112B0
theorem g112L0e: cl AP g112L0 st=after (cl AP g112L0) (cl AP g112B0 (norm (restrict [2,3,4,5,6,7] st))):=aG
def g112:aJ:=⟨1,69,[.c 2 2 true,.c 3 2 true],
 (.seq
 (.ae [bE 2 [bO,bO],
 bE 3 [aZ,aZ]] [0,2,3])
 (.seq
 (.ae [aa 9 0,
 ba 10 9 (.aA 118),
 aa 8 10,
 aH 11 8 (.ext 0),
 aH 12 8 (.ext 1),
 bE 5 [aZ,aZ],
 aa 4 11,
 aV 5 12 5 0 2] [2,3,4,5])
 (.seq
 (.seq
 (.ae [aQ 13 5 0,
 aI 14 13 5 0 1 false,
 a7 15 14 0 (.bin .neq)] [2,3,4,5,15])
 (.cond (.t 15)
 (.seq
 (.ae [a8 16 [] (.build [bO,bO] []),
 aI 17 5 5 0 2 true,
 aV 2 16 2 0 2,
 aV 3 17 3 0 2] [2,3])
 .ret)
 .skip))
 (.seq
 (.ae [bE 6 [bO,bO]] [2,3,4,5,6])
 (.seq
 (.ae [aa 18 4,
 bB 19 [.t 18,k_ 0] (.aL 119 []),
 aa 7 19] [2,3,4,5,6,7])
 (.seq
 (.block 0
 g112L0)
 (.seq
 (.seq
 (.ae [aa 50 7,
 aH 51 50 .a9,
 aQ 52 51 2,
 ba 53 52 (.a6 1 false)] [2,3,5,6,7,53])
 (.cond (.t 53)
 (.seq
 (.ae [a8 54 [] (.build [bO,bO] []),
 aa 55 7,
 aH 56 55 .a9,
 aQ 57 56 3,
 ba 58 57 (.a6 1 false),
 a8 59 [k_ 3,.t 58] (.build [aZ,aZ] [(0,1),(1,1)]),
 aV 2 54 2 0 2,
 aV 3 59 3 0 2] [2,3])
 .ret)
 .skip))
 (.seq
 (.seq
 (.ae [aI 60 6 6 0 2 true,
 ba 61 60 (.aA 123),
 aV 5 61 5 0 2] [2,3,5,6])
 (.seq
 (.ae [aQ 62 5 0,
 aI 63 62 5 0 1 false,
 a7 64 63 0 (.bin .neq)] [2,3,5,6,64])
 (.cond (.t 64)
 (.seq
 (.ae [a8 65 [] (.build [bO,bO] []),
 aI 66 5 5 0 2 true,
 aV 2 65 2 0 2,
 aV 3 66 3 0 2] [2,3])
 .ret)
 .skip)))
 (.seq
 (.ae [aI 67 6 6 0 2 true,
 aI 68 5 5 0 2 true,
 aV 2 67 2 0 2,
 aV 3 68 3 0 2] [2,3])
 .ret))))))))),none,true⟩
def g116B0:aw:=
 (.seq
 (.ae [aU 9 8 7 (.bin .lss)] [0,1,7,8,9])
 (.seq
 (.cond (.t 9)
 .skip
 (.exit 0))
 (.seq
 (.block 1
 (.seq
 (.ae [aa 10 8,
 aa 5 10] [0,1,5,7,8])
 (.seq
 (.ae [aa 11 1,
 aa 12 0,
 aa 13 5,
 aU 14 12 13 (.aC 1),
 aH 15 14 (.aK 1 false),
 aU 16 11 15 (.bin .eql)] [0,1,5,7,8,16])
 (.cond (.t 16)
 (.seq
 (.ae [aa 17 5,
 aa 4 17] [4])
 .ret)
 .skip))))
 (.ae [a7 18 8 1 (.bin .add),
 aa 8 18] [0,1,7,8]))))
def g116L0:aw:=.loop [0,1,7,8] g116B0
theorem g116L0e: cl AP g116L0 st=after (cl AP g116L0) (cl AP g116B0 (norm (restrict [0,1,7,8] st))):=aG
def g116:aJ:=⟨2,19,[.t 4],
 (.seq
 (.ae [a0 4 (k_ 0)] [0,1])
 (.seq
 (.seq
 (.ae [aa 6 0,
 aH 7 6 .len,
 a0 8 (k_ 0)] [0,1,7,8])
 (.block 0
 g116L0))
 (.seq
 (.ae [a0 4 (k_ (-1))] [4])
 .ret))),none,false⟩
def g117:aJ:=⟨1,17,[.t 2],
 (.seq
 (.ae [a0 2 F_] [0])
 (.seq
 (.ae [aa 3 0,
 ba 4 3 (.aA 109),
 aa 5 4,
 aY 6 5 false 0 (.v (.mv)),
 aY 7 5 false 6 (.aA 111),
 a8 8 [.t 5,T_,.t 7] .pick,
 aa 9 8,
 aY 10 9 false 0 (.v (.mv)),
 aY 11 9 false 10 (.aA 124),
 a8 12 [.t 9,T_,.t 11] .pick,
 aa 13 12,
 aY 14 13 false 0 (.v (.mv)),
 cB 15 13 false [.t 14,.c (.pv (.int .u8 95))] (.v (.bin .eql)),
 a8 16 [.t 13,T_,.t 15] .pick,
 aa 2 16] [2])
 .ret)),none,false⟩
def g118B1:aw:=
 (.seq
 (.seq
 (.ae [aa 42 5,
 aa 43 0,
 aH 44 43 .jB,
 aU 45 42 44 (.bin .lss),
 aa 46 45,
 aY 47 46 true 0 (.v (.mv)),
 aY 48 46 true 5 (.v (.mv)),
 cB 49 46 true [.t 47,.t 48] (.v (.index)),
 cB 50 46 true [.t 49,.c (.pv (.int .u8 10))] (.v (.bin .neq)),
 a8 51 [.t 46,.t 50,F_] .pick] [0,3,4,5,51])
 (.cond (.t 51)
 .skip
 (.exit 3)))
 (.block 4
 (.ae [aa 52 5,
 a7 53 52 1 (.bin .add),
 aa 5 53] [0,3,4,5])))
def g118L1:aw:=.loop [0,3,4,5] g118B1
theorem g118L1e: cl AP g118L1 st=after (cl AP g118L1) (cl AP g118B1 (norm (restrict [0,3,4,5] st))):=aG
def g118B2:aw:=
 (.seq
 (.seq
 (.ae [aa 57 7,
 aa 58 0,
 aH 59 58 .jB,
 aU 60 57 59 (.bin .lss),
 aa 61 60,
 aY 62 61 true 0 (.v (.mv)),
 aY 63 61 true 7 (.v (.mv)),
 cB 64 61 true [.t 62,.t 63] (.v (.index)),
 aY 65 61 true 64 (.aA 117),
 a8 66 [.t 61,.t 65,F_] .pick] [0,3,4,5,7,66])
 (.cond (.t 66)
 .skip
 (.exit 5)))
 (.block 6
 (.ae [aa 67 7,
 a7 68 67 1 (.bin .add),
 aa 7 68] [0,3,4,5,7])))
def g118L2:aw:=.loop [0,3,4,5,7] g118B2
theorem g118L2e: cl AP g118L2 st=after (cl AP g118L2) (cl AP g118B2 (norm (restrict [0,3,4,5,7] st))):=aG
def g118B0:aw:=
 (.seq
 (.seq
 (.ae [aa 13 5,
 aa 14 0,
 aH 15 14 .jB,
 aU 16 13 15 (.bin .lss)] [0,3,4,5,16])
 (.cond (.t 16)
 .skip
 (.exit 0)))
 (.block 1
 (.seq
 (.ae [aa 17 0,
 aa 18 5,
 aU 19 17 18 .index,
 aa 6 19] [0,3,4,5,6])
 (.seq
 (.ae [aa 20 5,
 a7 21 20 1 (.bin .add),
 aa 7 21] [0,3,4,5,6,7])
 (.seq
 (.block 2
 (.seq
 (.ae [aa 23 6,
 a8 24 [.t 23,.c (.pv (.int .u8 32))] (.bin .eql),
 aa 25 24,
 aY 26 25 false 6 (.v (.mv)),
 cB 27 25 false [.t 26,.c (.pv (.int .u8 9))] (.v (.bin .eql)),
 a8 28 [.t 25,T_,.t 27] .pick,
 aa 29 28,
 aY 30 29 false 6 (.v (.mv)),
 cB 31 29 false [.t 30,.c (.pv (.int .u8 13))] (.v (.bin .eql)),
 a8 32 [.t 29,T_,.t 31] .pick,
 aa 33 32,
 aY 34 33 false 6 (.v (.mv)),
 cB 35 33 false [.t 34,.c (.pv (.int .u8 10))] (.v (.bin .eql)),
 a8 36 [.t 33,T_,.t 35] .pick,
 aa 22 36] [0,3,4,5,6,7,22])
 (.cond (.t 22)
 (.seq
 (.ae [aa 37 5,
 a7 38 37 1 (.bin .add),
 aa 5 38] [0,3,4,5])
 (.exit 1))
 (.seq
 (.ae [aa 40 6,
 a8 41 [.t 40,.c (.pv (.int .u8 35))] (.bin .eql),
 aa 39 41] [0,3,4,5,6,7,39])
 (.cond (.t 39)
 (.seq
 (.block 3
 g118L1)
 (.exit 1))
 (.seq
 (.ae [aa 55 6,
 ba 56 55 (.aA 117),
 aa 54 56] [0,3,4,5,6,7,54])
 (.cond (.t 54)
 (.block 5
 g118L2)
 (.seq
 (.ae [aa 70 6,
 a8 71 [.t 70,.c (.pv (.int .u8 45))] (.bin .eql),
 aa 72 71,
 aY 73 72 true 7 (.v (.mv)),
 aY 74 72 true 0 (.v (.mv)),
 aY 75 72 true 74 (.v (.jB)),
 cB 76 72 true [.t 73,.t 75] (.v (.bin .lss)),
 a8 77 [.t 72,.t 76,F_] .pick,
 aa 78 77,
 aY 79 78 true 0 (.v (.mv)),
 aY 80 78 true 7 (.v (.mv)),
 cB 81 78 true [.t 79,.t 80] (.v (.index)),
 cB 82 78 true [.t 81,.c (.pv (.int .u8 62))] (.v (.bin .eql)),
 a8 83 [.t 78,.t 82,F_] .pick,
 aa 69 83] [0,3,4,5,7,69])
 (.cond (.t 69)
 (.ae [aa 84 7,
 a7 85 84 1 (.bin .add),
 aa 7 85] [0,3,4,5,7])
 .skip)))))))))
 (.seq
 (.ae [aa 86 0,
 aa 87 5,
 aa 88 7,
 a8 89 [.t 86,.t 87,.t 88] (.slice true 0 true true false),
 ba 90 89 (.aA 125),
 aa 8 90] [0,3,4,5,7,8])
 (.seq
 (.seq
 (.ae [aa 91 8,
 a7 92 91 0 (.bin .eql)] [0,3,4,5,7,8,92])
 (.cond (.t 92)
 (.seq
 (.ae [aa 93 5,
 a8 94 [k_ 2,.t 93] (.build [aZ,aZ] [(0,1),(1,1)]),
 a8 2 [.c (.bD [])] .mv,
 aV 3 94 3 0 2] [2,3])
 .ret)
 .skip))
 (.seq
 (.ae [aa 95 4,
 aa 96 8,
 aa 97 0,
 aa 98 5,
 aa 99 7,
 a8 100 [.t 97,.t 98,.t 99] (.slice true 0 true true false),
 aa 101 5,
 a8 102 [.t 96,.t 100,.t 101] (.build [aZ,dP,aZ] [(0,1),(1,1),(2,1)]),
 aH 103 102 (.aT 3),
 bH 104 95 103 (.append 3 32),
 aa 4 104] [0,3,4,7])
 (.ae [aa 105 7,
 aa 5 105] [0,3,4,5])))))))))
def g118L0:aw:=.loop [0,3,4,5] g118B0
theorem g118L0e: cl AP g118L0 st=after (cl AP g118L0) (cl AP g118B0 (norm (restrict [0,3,4,5] st))):=aG
def g118:aJ:=⟨1,108,[.t 2,.c 3 2 true],
 (.seq
 (.ae [a8 2 [.c (.bD [])] .mv,
 bE 3 [aZ,aZ]] [0,3])
 (.seq
 (.seq
 (.ae [aa 9 0,
 aH 10 9 .jB,
 a7 11 10 4000 (.bin .gtr)] [0,3,11])
 (.cond (.t 11)
 (.seq
 (.ae [a8 12 [k_ 1] (.build [aZ,aZ] [(0,1)]),
 a8 2 [.c (.bD [])] .mv,
 aV 3 12 3 0 2] [2,3])
 .ret)
 .skip))
 (.seq
 (.ae [a8 4 [.c (.bD [])] .mv] [0,3,4])
 (.seq
 (.seq
 (.ae [a0 5 (k_ 0)] [0,3,4,5])
 (.block 0
 g118L0))
 (.seq
 (.ae [aa 106 4,
 a8 107 [] (.build [aZ,aZ] []),
 aa 2 106,
 aV 3 107 3 0 2] [2,3])
 .ret))))),none,false⟩
def g119:aJ:=⟨2,19,[.t 4],
 (.seq
 (.ae [a8 4 [.c (.dw)] .mv] [0,1])
 (.seq
 (.seq
 (.ae [aa 5 1,
 a7 6 5 0 (.bin .lss),
 aa 7 6,
 aY 8 7 false 1 (.v (.mv)),
 aY 9 7 false 0 (.v (.mv)),
 aY 10 7 false 9 (.v (.len)),
 cB 11 7 false [.t 8,.t 10] (.v (.bin .gtr)),
 a8 12 [.t 7,T_,.t 11] .pick] [0,1,12])
 (.cond (.t 12)
 (.ae [aa 13 0,
 aH 14 13 .len,
 aa 1 14] [0,1])
 .skip))
 (.seq
 (.ae [aa 15 0,
 aa 16 1,
 aU 17 15 16 (.build [bO,aZ,.bool false,aZ] [(0,1),(1,1)]),
 ba 18 17 (.l4 4),
 aa 4 18] [4])
 .ret))),none,false⟩
def g120:aJ:=⟨2,65,[.t 4],
 (.seq
 (.ae [a0 4 F_] [0,1])
 (.seq
 (.ae [aa 5 0,
 aH 6 5 .a9,
 aQ 7 6 2,
 ba 8 7 (.a6 1 false),
 aH 9 8 (.un .not),
 aa 10 9,
 aY 11 10 true 0 (.v (.mv)),
 aY 12 10 true 11 (.v (.a9)),
 aY 13 10 true 12 (.v (.bh 1)),
 aY 14 10 true 13 (.a6 1 false),
 aY 15 10 true 0 (.v (.mv)),
 aY 16 10 true 15 (.v (.a9)),
 aY 17 10 true 16 (.v (.bh 0)),
 aY 18 10 true 17 (.a6 1 false),
 aY 19 10 true 18 (.v (.len)),
 cB 20 10 true [.t 14,.t 19] (.v (.bin .lss)),
 a8 21 [.t 10,.t 20,F_] .pick,
 aa 22 21,
 aY 23 22 true 0 (.v (.mv)),
 aY 24 22 true 23 (.v (.a9)),
 aY 25 22 true 24 (.v (.bh 0)),
 aY 26 22 true 25 (.a6 1 false),
 aY 27 22 true 0 (.v (.mv)),
 aY 28 22 true 27 (.v (.a9)),
 aY 29 22 true 28 (.v (.bh 1)),
 aY 30 22 true 29 (.a6 1 false),
 cB 31 22 true [.t 26,.t 30] (.v (.aC 3)),
 aY 32 22 true 31 (.v (.bh 0)),
 aY 33 22 true 32 (.v (.aK 1 false)),
 cB 34 22 true [.t 33,k_ 5] (.v (.bin .eql)),
 aY 35 22 true 34 (.v (.mv)),
 aY 36 35 false 0 (.v (.mv)),
 aY 37 35 false 36 (.v (.a9)),
 aY 38 35 false 37 (.v (.bh 0)),
 aY 39 35 false 38 (.a6 1 false),
 aY 40 35 false 0 (.v (.mv)),
 aY 41 35 false 40 (.v (.a9)),
 aY 42 35 false 41 (.v (.bh 1)),
 aY 43 35 false 42 (.a6 1 false),
 cB 44 35 false [.t 39,.t 43] (.v (.aC 3)),
 aY 45 35 false 44 (.v (.bh 0)),
 aY 46 35 false 45 (.v (.aK 1 false)),
 cB 47 35 false [.t 46,k_ 4] (.v (.bin .eql)),
 cB 48 22 true [.t 35,T_,.t 47] (.v (.pick)),
 a8 49 [.t 22,.t 48,F_] .pick,
 aa 50 49,
 aY 51 50 true 0 (.v (.mv)),
 aY 52 50 true 51 (.v (.a9)),
 aY 53 50 true 52 (.v (.bh 0)),
 aY 54 50 true 53 (.a6 1 false),
 aY 55 50 true 0 (.v (.mv)),
 aY 56 50 true 55 (.v (.a9)),
 aY 57 50 true 56 (.v (.bh 1)),
 aY 58 50 true 57 (.a6 1 false),
 cB 59 50 true [.t 54,.t 58] (.v (.aC 3)),
 aY 60 50 true 59 (.v (.bh 1)),
 aY 61 50 true 60 (.v (.aK 1 false)),
 aY 62 50 true 1 (.v (.mv)),
 cB 63 50 true [.t 61,.t 62] (.v (.bin .eql)),
 a8 64 [.t 50,.t 63,F_] .pick,
 aa 4 64] [4])
 .ret)),none,false⟩
def g121B0:aw:=
 (.seq
 (.seq
 (.ae [aa 13 0,
 bB 14 [.t 13,k_ 1] (.aL 129 [])] [0,2,3,14])
 (.cond (.t 14)
 .skip
 (.exit 0)))
 (.block 1
 (.ae [aQ 15 3 2,
 aI 16 15 3 2 1 false,
 aa 17 0,
 bB 18 [.t 17,k_ 1] (.aL 128 []),
 aH 19 18 (.aT 1),
 bH 20 16 19 (.append 1 16),
 aQ 21 3 2,
 aV 21 20 3 2 1] [0,2,3])))
def g121L0:aw:=.loop [0,2,3] g121B0
theorem g121L0e: cl AP g121L0 st=after (cl AP g121L0) (cl AP g121B0 (norm (restrict [0,2,3] st))):=aG
def g121B2:aw:=
 (.seq
 (.seq
 (.ae [aa 34 0,
 ba 35 34 (.aL 130 [])] [0,2,3,4,35])
 (.cond (.t 35)
 .skip
 (.exit 4)))
 (.block 5
 (.ae [aQ 36 4 2,
 aI 37 36 4 2 1 false,
 aa 38 0,
 ba 39 38 (.aL 131 []),
 aH 40 39 (.aT 5),
 bH 41 37 40 (.append 5 64),
 aQ 42 4 2,
 aV 42 41 4 2 1] [0,2,3,4])))
def g121L2:aw:=.loop [0,2,3,4] g121B2
theorem g121L2e: cl AP g121L2 st=after (cl AP g121L2) (cl AP g121B2 (norm (restrict [0,2,3,4] st))):=aG
def g121B1:aw:=
 (.seq
 (.seq
 (.ae [aa 24 0,
 aH 25 24 .a9,
 aQ 26 25 2,
 ba 27 26 (.a6 1 false),
 aH 28 27 (.un .not)] [0,2,3,28])
 (.cond (.t 28)
 .skip
 (.exit 2)))
 (.block 3
 (.seq
 (.ae [aa 29 0,
 ba 30 29 (.aL 126 []),
 aa 31 0,
 bB 32 [.t 31,k_ 2] (.aL 128 []),
 aU 33 30 32 (.build [aZ,dP,bO] [(0,1),(1,1)]),
 bE 4 [aZ,dP,bO],
 aV 4 33 4 0 3] [0,2,3,4])
 (.seq
 (.block 4
 g121L2)
 (.seq
 (.ae [aQ 43 3 3,
 aI 44 43 3 3 1 false,
 aI 45 4 4 0 3 true,
 aH 46 45 (.aT 3),
 bH 47 44 46 (.append 3 48),
 aQ 48 3 3,
 aV 48 47 3 3 1] [0,2,3])
 (.seq
 (.ae [aa 49 0,
 bB 50 [.t 49,.c (.pv (.str [124]))] (.aL 132 []),
 aH 51 50 (.un .not)] [0,2,3,51])
 (.cond (.t 51)
 (.exit 2)
 .skip)))))))
def g121L1:aw:=.loop [0,2,3] g121B1
theorem g121L1e: cl AP g121L1 st=after (cl AP g121L1) (cl AP g121B1 (norm (restrict [0,2,3] st))):=aG
def g121:aJ:=⟨1,55,[.c 2 4 true],
 (.seq
 (.ae [bE 2 Ck] [0,2])
 (.seq
 (.ae [aa 5 0,
 ba 6 5 (.aL 126 []),
 aH 7 6 (.build Ck [(0,1)]),
 bE 3 Ck,
 aV 3 7 3 0 4] [0,2,3])
 (.seq
 (.ae [aa 8 0,
 bB 9 [.t 8,.c (.pv (.str [100,97,116,97]))] (.aL 127 [])] [0,2,3])
 (.seq
 (.ae [aa 10 0,
 bB 11 [.t 10,k_ 2] (.aL 128 []),
 aQ 12 3 1,
 aV 12 11 3 1 1] [0,2,3])
 (.seq
 (.block 0
 g121L0)
 (.seq
 (.ae [aa 22 0,
 bB 23 [.t 22,.c (.pv (.str [61]))] (.aL 127 [])] [0,2,3])
 (.seq
 (.block 2
 g121L1)
 (.seq
 (.ae [aa 52 0,
 bB 53 [.t 52,.c (.pv (.str [59]))] (.aL 127 [])] [2,3])
 (.seq
 (.ae [aI 54 3 3 0 4 true,
 aV 2 54 2 0 4] [2])
 .ret))))))))),none,false⟩
def g122:aJ:=⟨1,34,[.c 2 20 true],
 (.seq
 (.ae [bE 2 [aZ,.bool false,dP,.bool false,aZ,dP,aZ,aZ,bO,aZ,aZ,dP,aZ,bO,bO,aZ,dP,aZ,aZ,bO]] [0,2])
 (.seq
 (.ae [aa 4 0,
 ba 5 4 (.aL 126 []),
 aH 6 5 (.build [aZ,.bool false,dP,.bool false,aZ,dP,aZ,aZ,bO,aZ,aZ,dP,aZ,bO,bO,aZ,dP,aZ,aZ,bO] [(0,1)]),
 bE 3 [aZ,.bool false,dP,.bool false,aZ,dP,aZ,aZ,bO,aZ,aZ,dP,aZ,bO,bO,aZ,dP,aZ,aZ,bO],
 aV 3 6 3 0 20] [0,2,3])
 (.seq
 (.ae [aa 7 0,
 bB 8 [.t 7,.c (.pv (.str [108,101,116]))] (.aL 127 [])] [0,2,3])
 (.seq
 (.ae [aa 9 0,
 bB 10 [.t 9,.c (.pv (.str [114,101,99]))] (.aL 132 []),
 aQ 11 3 1,
 aV 11 10 3 1 1] [0,2,3])
 (.seq
 (.ae [aa 12 0,
 bB 13 [.t 12,k_ 1] (.aL 128 []),
 aQ 14 3 2,
 aV 14 13 3 2 1] [0,2,3])
 (.seq
 (.seq
 (.ae [aa 15 0,
 bB 16 [.t 15,.c (.pv (.str [58]))] (.aL 132 [])] [0,2,3,16])
 (.cond (.t 16)
 (.seq
 (.ae [aQ 17 3 3,
 jX [.t 17,T_] (.dc 3 3 1)] [0,2,3])
 (.ae [aa 18 0,
 ba 19 18 (.aL 133 []),
 aQ 20 3 4,
 aV 20 19 3 4 5] [0,2,3]))
 .skip))
 (.seq
 (.ae [aa 21 0,
 bB 22 [.t 21,.c (.pv (.str [61]))] (.aL 127 [])] [0,2,3])
 (.seq
 (.seq
 (.ae [aa 23 0,
 aH 24 23 .a9,
 aQ 25 24 2,
 ba 26 25 (.a6 1 false),
 aH 27 26 (.un .not)] [0,2,3,27])
 (.cond (.t 27)
 (.ae [aa 28 0,
 ba 29 28 (.aL 134 []),
 aQ 30 3 9,
 aV 30 29 3 9 11] [0,2,3])
 .skip))
 (.seq
 (.ae [aa 31 0,
 bB 32 [.t 31,.c (.pv (.str [59]))] (.aL 127 [])] [2,3])
 (.seq
 (.ae [aI 33 3 3 0 20 true,
 aV 2 33 2 0 20] [2])
 .ret)))))))))),none,false⟩
def g123B1:aw:=
 (.seq
 (.seq
 (.ae [aa 43 5,
 aQ 44 4 3,
 aI 45 44 4 3 1 false,
 aH 46 45 .len,
 aU 47 43 46 (.bin .lss)] [1,2,3,4,5,47])
 (.cond (.t 47)
 .skip
 (.exit 2)))
 (.seq
 (.block 3
 (.seq
 (.ae [aQ 50 4 3,
 aI 51 50 4 3 1 false,
 aa 52 5,
 aU 53 51 52 (.aC 3),
 aQ 54 53 2,
 aH 55 54 (.aK 1 false),
 aH 56 55 .len,
 a7 57 56 4 (.bin .gtr)] [1,2,3,4,5,57])
 (.cond (.t 57)
 (.seq
 (.ae [aQ 58 4 3,
 aI 59 58 4 3 1 false,
 aa 60 5,
 aU 61 59 60 (.aC 3),
 aQ 62 61 0,
 aH 63 62 (.aK 1 false),
 a8 64 [k_ 5,.t 63] (.build [aZ,aZ] [(0,1),(1,1)]),
 aV 2 64 2 0 2] [2])
 .ret)
 .skip)))
 (.ae [aa 48 5,
 a7 49 48 1 (.bin .add),
 aa 5 49] [1,2,3,4,5])))
def g123L1:aw:=.loop [1,2,3,4,5] g123B1
theorem g123L1e: cl AP g123L1 st=after (cl AP g123L1) (cl AP g123B1 (norm (restrict [1,2,3,4,5] st))):=aG
def g123B0:aw:=
 (.seq
 (.seq
 (.ae [aa 14 3,
 aQ 15 1 0,
 aI 16 15 1 0 1 false,
 aH 17 16 .len,
 aU 18 14 17 (.bin .lss)] [1,2,3,18])
 (.cond (.t 18)
 .skip
 (.exit 0)))
 (.seq
 (.block 1
 (.seq
 (.ae [aQ 21 1 0,
 aI 22 21 1 0 1 false,
 aa 23 3,
 aU 24 22 23 (.aC 4),
 aH 25 24 (.aK 4 true),
 bE 4 Ck,
 aV 4 25 4 0 4] [1,2,3,4])
 (.seq
 (.seq
 (.ae [aa 26 3,
 a7 27 26 8 (.bin .geq),
 aa 28 27,
 aY 29 28 false 4 (.v (.bh 2)),
 aY 30 28 false 29 (.bl 4 2 1 false),
 aY 31 28 false 30 (.v (.len)),
 cB 32 28 false [.t 31,k_ 4] (.v (.bin .gtr)),
 a8 33 [.t 28,T_,.t 32] .pick,
 aa 34 33,
 aY 35 34 false 4 (.v (.bh 3)),
 aY 36 34 false 35 (.bl 4 3 1 false),
 aY 37 34 false 36 (.v (.len)),
 cB 38 34 false [.t 37,k_ 6] (.v (.bin .gtr)),
 a8 39 [.t 34,T_,.t 38] .pick] [1,2,3,4,39])
 (.cond (.t 39)
 (.seq
 (.ae [aQ 40 4 0,
 aI 41 40 4 0 1 false,
 a8 42 [k_ 5,.t 41] (.build [aZ,aZ] [(0,1),(1,1)]),
 aV 2 42 2 0 2] [2])
 .ret)
 .skip))
 (.seq
 (.ae [a0 5 (k_ 0)] [1,2,3,4,5])
 (.block 2
 g123L1)))))
 (.ae [aa 19 3,
 a7 20 19 1 (.bin .add),
 aa 3 20] [1,2,3])))
def g123L0:aw:=.loop [1,2,3] g123B0
theorem g123L0e: cl AP g123L0 st=after (cl AP g123L0) (cl AP g123B0 (norm (restrict [1,2,3] st))):=aG
def g123B4:aw:=
 (.seq
 (.seq
 (.ae [aa 94 9,
 aQ 95 7 3,
 aI 96 95 7 3 1 false,
 aa 97 8,
 aU 98 96 97 (.aC 3),
 aQ 99 98 2,
 aH 100 99 (.aK 1 false),
 aH 101 100 .len,
 aU 102 94 101 (.bin .lss)] [1,2,6,7,8,9,102])
 (.cond (.t 102)
 .skip
 (.exit 8)))
 (.seq
 (.block 9
 (.seq
 (.ae [aQ 105 7 3,
 aI 106 105 7 3 1 false,
 aa 107 8,
 aU 108 106 107 (.aC 3),
 aQ 109 108 2,
 aH 110 109 (.aK 1 false),
 aa 111 9,
 aU 112 110 111 (.aC 5),
 aH 113 112 (.aK 5 true),
 ba 114 113 (.aA 52),
 a7 115 114 40 (.bin .gtr)] [1,2,6,7,8,9,115])
 (.cond (.t 115)
 (.seq
 (.ae [aQ 116 7 0,
 aI 117 116 7 0 1 false,
 a8 118 [k_ 4,.t 117] (.build [aZ,aZ] [(0,1),(1,1)]),
 aV 2 118 2 0 2] [2])
 .ret)
 .skip)))
 (.ae [aa 103 9,
 a7 104 103 1 (.bin .add),
 aa 9 104] [1,2,6,7,8,9])))
def g123L4:aw:=.loop [1,2,6,7,8,9] g123B4
theorem g123L4e: cl AP g123L4 st=after (cl AP g123L4) (cl AP g123B4 (norm (restrict [1,2,6,7,8,9] st))):=aG
def g123B3:aw:=
 (.seq
 (.seq
 (.ae [aa 87 8,
 aQ 88 7 3,
 aI 89 88 7 3 1 false,
 aH 90 89 .len,
 aU 91 87 90 (.bin .lss)] [1,2,6,7,8,91])
 (.cond (.t 91)
 .skip
 (.exit 6)))
 (.seq
 (.block 7
 (.seq
 (.ae [a0 9 (k_ 0)] [1,2,6,7,8,9])
 (.block 8
 g123L4)))
 (.ae [aa 92 8,
 a7 93 92 1 (.bin .add),
 aa 8 93] [1,2,6,7,8])))
def g123L3:aw:=.loop [1,2,6,7,8] g123B3
theorem g123L3e: cl AP g123L3 st=after (cl AP g123L3) (cl AP g123B3 (norm (restrict [1,2,6,7,8] st))):=aG
def g123B2:aw:=
 (.seq
 (.seq
 (.ae [aa 75 6,
 aQ 76 1 0,
 aI 77 76 1 0 1 false,
 aH 78 77 .len,
 aU 79 75 78 (.bin .lss)] [1,2,6,79])
 (.cond (.t 79)
 .skip
 (.exit 4)))
 (.seq
 (.block 5
 (.seq
 (.ae [aQ 82 1 0,
 aI 83 82 1 0 1 false,
 aa 84 6,
 aU 85 83 84 (.aC 4),
 aH 86 85 (.aK 4 true),
 bE 7 Ck,
 aV 7 86 7 0 4] [1,2,6,7])
 (.seq
 (.ae [a0 8 (k_ 0)] [1,2,6,7,8])
 (.block 6
 g123L3))))
 (.ae [aa 80 6,
 a7 81 80 1 (.bin .add),
 aa 6 81] [1,2,6])))
def g123L2:aw:=.loop [1,2,6] g123B2
theorem g123L2e: cl AP g123L2 st=after (cl AP g123L2) (cl AP g123B2 (norm (restrict [1,2,6] st))):=aG
def g123B5:aw:=
 (.seq
 (.seq
 (.ae [aa 119 10,
 aQ 120 1 1,
 aI 121 120 1 1 1 false,
 aH 122 121 .len,
 aU 123 119 122 (.bin .lss)] [1,2,10,123])
 (.cond (.t 123)
 .skip
 (.exit 10)))
 (.seq
 (.block 11
 (.seq
 (.ae [aQ 126 1 1,
 aI 127 126 1 1 1 false,
 aa 128 10,
 aU 129 127 128 (.aC 20),
 aH 130 129 (.aK 20 true),
 bE 11 [aZ,.bool false,dP,.bool false,aZ,dP,aZ,aZ,bO,aZ,aZ,dP,aZ,bO,bO,aZ,dP,aZ,aZ,bO],
 aV 11 130 11 0 20] [1,2,10,11])
 (.seq
 (.seq
 (.ae [aQ 131 11 3,
 aI 132 131 11 3 1 false,
 aa 133 132,
 aY 134 133 true 11 (.v (.bh 4)),
 aY 135 133 true 134 (.bl 11 4 5 true),
 aY 136 133 true 135 (.aA 52),
 cB 137 133 true [.t 136,k_ 40] (.v (.bin .gtr)),
 a8 138 [.t 133,.t 137,F_] .pick,
 aa 139 138,
 aY 140 139 false 11 (.v (.bh 9)),
 aY 141 139 false 140 (.bl 11 9 11 true),
 aY 142 139 false 141 (.aA 135),
 a8 143 [.t 139,T_,.t 142] .pick] [1,2,10,11,143])
 (.cond (.t 143)
 (.seq
 (.ae [aQ 144 11 0,
 aI 145 144 11 0 1 false,
 a8 146 [k_ 4,.t 145] (.build [aZ,aZ] [(0,1),(1,1)]),
 aV 2 146 2 0 2] [2])
 .ret)
 .skip))
 (.seq
 (.ae [aQ 148 11 9,
 aI 149 148 11 9 11 true,
 ba 150 149 (.aA 136),
 aa 147 150,
 aH 151 147 (.ext 0),
 aH 152 147 (.ext 1),
 aa 12 151,
 aa 13 152] [1,2,10,12,13])
 (.seq
 (.ae [aa 153 13] [1,2,10,12,153])
 (.cond (.t 153)
 (.seq
 (.ae [aa 154 12,
 a8 155 [k_ 5,.t 154] (.build [aZ,aZ] [(0,1),(1,1)]),
 aV 2 155 2 0 2] [2])
 .ret)
 .skip))))))
 (.ae [aa 124 10,
 a7 125 124 1 (.bin .add),
 aa 10 125] [1,2,10])))
def g123L5:aw:=.loop [1,2,10] g123B5
theorem g123L5e: cl AP g123L5 st=after (cl AP g123L5) (cl AP g123B5 (norm (restrict [1,2,10] st))):=aG
def g123:aJ:=⟨1,157,[.c 2 2 true],
 (.seq
 (.ae [ba 1 0 (.box 1 2),
 bE 2 [aZ,aZ]] [1,2])
 (.seq
 (.seq
 (.ae [a0 3 (k_ 0)] [1,2,3])
 (.block 0
 g123L0))
 (.seq
 (.seq
 (.ae [aQ 65 1 1,
 aI 66 65 1 1 1 false,
 aH 67 66 .len,
 a7 68 67 16 (.bin .gtr)] [1,2,68])
 (.cond (.t 68)
 (.seq
 (.ae [aQ 69 1 1,
 aI 70 69 1 1 1 false,
 a7 71 70 16 (.aC 20),
 aQ 72 71 0,
 aH 73 72 (.aK 1 false),
 a8 74 [k_ 5,.t 73] (.build [aZ,aZ] [(0,1),(1,1)]),
 aV 2 74 2 0 2] [2])
 .ret)
 .skip))
 (.seq
 (.seq
 (.ae [a0 6 (k_ 0)] [1,2,6])
 (.block 4
 g123L2))
 (.seq
 (.seq
 (.ae [a0 10 (k_ 0)] [1,2,10])
 (.block 10
 g123L5))
 (.seq
 (.ae [a8 156 [] (.build [aZ,aZ] []),
 aV 2 156 2 0 2] [2])
 .ret)))))),none,false⟩
def g124:aJ:=⟨1,9,[.t 2],
 (.seq
 (.ae [a0 2 F_] [0])
 (.seq
 (.ae [aa 3 0,
 a8 4 [.t 3,.c (.pv (.int .u8 48))] (.bin .geq),
 aa 5 4,
 aY 6 5 true 0 (.v (.mv)),
 cB 7 5 true [.t 6,.c (.pv (.int .u8 57))] (.v (.bin .leq)),
 a8 8 [.t 5,.t 7,F_] .pick,
 aa 2 8] [2])
 .ret)),none,false⟩
def g125:aJ:=⟨1,18,[.t 2],
 (.seq
 (.ae [a0 2 (k_ 0)] [0])
 (.seq
 (.block 0
 (.seq
 (.ae [aa 4 0,
 ba 5 4 (.aA 110),
 aa 3 5] [0,3])
 (.cond (.t 3)
 (.seq
 (.ae [a0 2 (k_ 4)] [2])
 .ret)
 (.seq
 (.ae [aa 7 0,
 ba 8 7 (.aA 77),
 aa 6 8] [0,6])
 (.cond (.t 6)
 (.seq
 (.ae [a0 2 (k_ 1)] [2])
 .ret)
 (.seq
 (.ae [aa 10 0,
 ba 11 10 (.aA 78),
 aa 9 11] [0,9])
 (.cond (.t 9)
 (.seq
 (.ae [a0 2 (k_ 2)] [2])
 .ret)
 (.seq
 (.ae [aa 13 0,
 ba 14 13 (.aA 137),
 aa 12 14] [0,12])
 (.cond (.t 12)
 (.seq
 (.ae [a0 2 (k_ 3)] [2])
 .ret)
 (.seq
 (.ae [aa 16 0,
 ba 17 16 (.aA 138),
 aa 15 17] [15])
 (.cond (.t 15)
 (.seq
 (.ae [a0 2 (k_ 5)] [2])
 .ret)
 .skip)))))))))))
 (.seq
 (.ae [a0 2 (k_ 0)] [2])
 .ret))),none,false⟩
def g126:aJ:=⟨1,24,[.t 2],
 (.seq
 (.ae [a0 2 (k_ 0)] [0])
 (.seq
 (.seq
 (.ae [aa 3 0,
 aH 4 3 .a9,
 aQ 5 4 1,
 ba 6 5 (.a6 1 false),
 aa 7 0,
 aH 8 7 .a9,
 aQ 9 8 0,
 ba 10 9 (.a6 1 false),
 aH 11 10 .len,
 aU 12 6 11 (.bin .lss)] [0,12])
 (.cond (.t 12)
 (.seq
 (.ae [aa 13 0,
 aH 14 13 .a9,
 aQ 15 14 0,
 ba 16 15 (.a6 1 false),
 aa 17 0,
 aH 18 17 .a9,
 aQ 19 18 1,
 ba 20 19 (.a6 1 false),
 aU 21 16 20 (.aC 3),
 aQ 22 21 2,
 aH 23 22 (.aK 1 false),
 aa 2 23] [2])
 .ret)
 .skip))
 (.seq
 (.ae [a0 2 (k_ 0)] [2])
 .ret))),none,false⟩
def g127:aJ:=⟨2,10,[],
 (.seq
 (.ae [aa 4 0,
 aa 5 1,
 bH 6 4 5 (.aL 132 []),
 aH 7 6 (.un .not)] [0,7])
 (.cond (.t 7)
 (.ae [aa 8 0,
 ba 9 8 (.aL 139 [])] [])
 .skip)),none,false⟩
def g128:aJ:=⟨2,30,[.t 4],
 (.seq
 (.ae [a8 4 [.c (.pv (.str []))] .mv] [0,1])
 (.seq
 (.seq
 (.ae [aa 5 0,
 aa 6 1,
 bH 7 5 6 (.aL 129 []),
 aH 8 7 (.un .not)] [0,8])
 (.cond (.t 8)
 (.seq
 (.ae [aa 9 0,
 ba 10 9 (.aL 139 [])] [])
 (.seq
 (.ae [a8 4 [.c (.pv (.str []))] .mv] [4])
 .ret))
 .skip))
 (.seq
 (.ae [aa 11 0,
 aH 12 11 .a9,
 aQ 13 12 1,
 ba 14 13 (.a6 1 false),
 a7 15 14 1 (.bin .add),
 aH 16 11 .a9,
 aQ 17 16 1,
 jX [.t 17,.t 15] (.cz 1)] [0])
 (.seq
 (.ae [aa 18 0,
 aH 19 18 .a9,
 aQ 20 19 0,
 ba 21 20 (.a6 1 false),
 aa 22 0,
 aH 23 22 .a9,
 aQ 24 23 1,
 ba 25 24 (.a6 1 false),
 a7 26 25 1 (.bin .sub),
 aU 27 21 26 (.aC 3),
 aQ 28 27 1,
 aH 29 28 (.aK 1 false),
 aa 4 29] [4])
 .ret)))),none,false⟩
def g129:aJ:=⟨2,37,[.t 4],
 (.seq
 (.ae [a0 4 F_] [0,1])
 (.seq
 (.ae [aa 5 0,
 aH 6 5 .a9,
 aQ 7 6 2,
 ba 8 7 (.a6 1 false),
 aH 9 8 (.un .not),
 aa 10 9,
 aY 11 10 true 0 (.v (.mv)),
 aY 12 10 true 11 (.v (.a9)),
 aY 13 10 true 12 (.v (.bh 1)),
 aY 14 10 true 13 (.a6 1 false),
 aY 15 10 true 0 (.v (.mv)),
 aY 16 10 true 15 (.v (.a9)),
 aY 17 10 true 16 (.v (.bh 0)),
 aY 18 10 true 17 (.a6 1 false),
 aY 19 10 true 18 (.v (.len)),
 cB 20 10 true [.t 14,.t 19] (.v (.bin .lss)),
 a8 21 [.t 10,.t 20,F_] .pick,
 aa 22 21,
 aY 23 22 true 0 (.v (.mv)),
 aY 24 22 true 23 (.v (.a9)),
 aY 25 22 true 24 (.v (.bh 0)),
 aY 26 22 true 25 (.a6 1 false),
 aY 27 22 true 0 (.v (.mv)),
 aY 28 22 true 27 (.v (.a9)),
 aY 29 22 true 28 (.v (.bh 1)),
 aY 30 22 true 29 (.a6 1 false),
 cB 31 22 true [.t 26,.t 30] (.v (.aC 3)),
 aY 32 22 true 31 (.v (.bh 0)),
 aY 33 22 true 32 (.v (.aK 1 false)),
 aY 34 22 true 1 (.v (.mv)),
 cB 35 22 true [.t 33,.t 34] (.v (.bin .eql)),
 a8 36 [.t 22,.t 35,F_] .pick,
 aa 4 36] [4])
 .ret)),none,false⟩
def g130:aJ:=⟨1,13,[.t 2],
 (.seq
 (.ae [a0 2 F_] [0])
 (.seq
 (.ae [aa 3 0,
 bB 4 [.t 3,k_ 1] (.aL 129 []),
 aa 5 4,
 aY 6 5 false 0 (.v (.mv)),
 cB 7 5 false [.t 6,k_ 2] (.aL 129 []),
 a8 8 [.t 5,T_,.t 7] .pick,
 aa 9 8,
 aY 10 9 false 0 (.v (.mv)),
 cB 11 9 false [.t 10,.c (.pv (.str [40]))] (.aL 120 []),
 a8 12 [.t 9,T_,.t 11] .pick,
 aa 2 12] [2])
 .ret)),none,false⟩
def g131:aJ:=⟨1,28,[.c 2 5 true],
 (.seq
 (.ae [bE 2 ez] [0,2])
 (.seq
 (.block 0
 (.seq
 (.ae [aa 5 0,
 bB 6 [.t 5,k_ 1] (.aL 129 []),
 aa 4 6] [0,2,4])
 (.cond (.t 4)
 (.seq
 (.ae [aa 7 0,
 bB 8 [.t 7,k_ 1] (.aL 128 []),
 ba 9 8 (.aA 106),
 aV 2 9 2 0 5] [2])
 .ret)
 (.seq
 (.ae [aa 11 0,
 bB 12 [.t 11,k_ 2] (.aL 129 []),
 aa 10 12] [0,2,10])
 (.cond (.t 10)
 (.seq
 (.ae [aa 13 0,
 bB 14 [.t 13,k_ 2] (.aL 128 []),
 bB 15 [.t 14,.c (.bD [])] (.aL 62 []),
 aV 2 15 2 0 5] [2])
 .ret)
 .skip)))))
 (.seq
 (.ae [aa 16 0,
 bB 17 [.t 16,.c (.pv (.str [40]))] (.aL 127 [])] [0,2])
 (.seq
 (.seq
 (.ae [aa 18 0,
 aH 19 18 .a9,
 aQ 20 19 2,
 ba 21 20 (.a6 1 false)] [0,2,21])
 (.cond (.t 21)
 (.seq
 (.ae [a8 22 [] (.build ez []),
 aV 2 22 2 0 5] [2])
 .ret)
 .skip))
 (.seq
 (.ae [aa 23 0,
 ba 24 23 (.aL 133 []),
 bE 3 ez,
 aV 3 24 3 0 5] [0,2,3])
 (.seq
 (.ae [aa 25 0,
 bB 26 [.t 25,.c (.pv (.str [41]))] (.aL 127 [])] [2,3])
 (.seq
 (.ae [aI 27 3 3 0 5 true,
 aV 2 27 2 0 5] [2])
 .ret))))))),none,false⟩
def g132:aJ:=⟨2,15,[.t 4],
 (.seq
 (.ae [a0 4 F_] [0,1])
 (.seq
 (.seq
 (.ae [aa 5 0,
 aa 6 1,
 bH 7 5 6 (.aL 120 [])] [0,7])
 (.cond (.t 7)
 (.seq
 (.ae [aa 8 0,
 aH 9 8 .a9,
 aQ 10 9 1,
 ba 11 10 (.a6 1 false),
 a7 12 11 1 (.bin .add),
 aH 13 8 .a9,
 aQ 14 13 1,
 jX [.t 14,.t 12] (.cz 1)] [])
 (.seq
 (.ae [a0 4 T_] [4])
 .ret))
 .skip))
 (.seq
 (.ae [a0 4 F_] [4])
 .ret))),none,false⟩
def g133B0:aw:=
 (.seq
 (.seq
 (.ae [aa 9 0,
 ba 10 9 (.aL 130 [])] [0,2,3,10])
 (.cond (.t 10)
 .skip
 (.exit 0)))
 (.block 1
 (.ae [aQ 11 3 4,
 aI 12 11 3 4 1 false,
 aa 13 0,
 ba 14 13 (.aL 131 []),
 aH 15 14 (.aT 5),
 bH 16 12 15 (.append 5 64),
 aQ 17 3 4,
 aV 17 16 3 4 1] [0,2,3])))
def g133L0:aw:=.loop [0,2,3] g133B0
theorem g133L0e: cl AP g133L0 st=after (cl AP g133L0) (cl AP g133B0 (norm (restrict [0,2,3] st))):=aG
def g133:aJ:=⟨1,27,[.c 2 5 true],
 (.seq
 (.ae [bE 2 ez] [0,2])
 (.seq
 (.ae [bE 3 ez] [0,2,3])
 (.seq
 (.seq
 (.ae [aa 4 0,
 bB 5 [.t 4,k_ 2] (.aL 129 [])] [0,2,3,5])
 (.cond (.t 5)
 (.seq
 (.ae [aa 6 0,
 bB 7 [.t 6,k_ 2] (.aL 128 []),
 bB 8 [.t 7,.c (.bD [])] (.aL 62 []),
 aV 3 8 3 0 5] [0,2,3])
 (.block 0
 g133L0))
 (.ae [aa 18 0,
 ba 19 18 (.aL 131 []),
 aV 3 19 3 0 5] [0,2,3])))
 (.seq
 (.seq
 (.ae [aa 20 0,
 bB 21 [.t 20,.c (.pv (.str [45,62]))] (.aL 132 [])] [0,2,3,21])
 (.cond (.t 21)
 (.seq
 (.ae [aI 22 3 3 0 5 true,
 aa 23 0,
 ba 24 23 (.aL 133 []),
 bH 25 22 24 (.aA 69),
 aV 2 25 2 0 5] [2])
 .ret)
 .skip))
 (.seq
 (.ae [aI 26 3 3 0 5 true,
 aV 2 26 2 0 5] [2])
 .ret))))),none,false⟩
def g134B0:aw:=
 (.seq
 (.seq
 (.ae [aa 69 0,
 aH 70 69 .a9,
 aQ 71 70 2,
 ba 72 71 (.a6 1 false),
 aH 73 72 (.un .not),
 aa 74 73,
 aY 75 74 true 0 (.v (.mv)),
 aY 76 74 true 75 (.v (.a9)),
 aY 77 74 true 76 (.v (.bh 1)),
 aY 78 74 true 77 (.a6 1 false),
 aY 79 74 true 0 (.v (.mv)),
 aY 80 74 true 79 (.v (.a9)),
 aY 81 74 true 80 (.v (.bh 0)),
 aY 82 74 true 81 (.a6 1 false),
 aY 83 74 true 82 (.v (.len)),
 cB 84 74 true [.t 78,.t 83] (.v (.bin .lss)),
 a8 85 [.t 74,.t 84,F_] .pick,
 aa 86 85,
 aY 87 86 true 0 (.v (.mv)),
 aY 88 86 true 87 (.v (.a9)),
 aY 89 86 true 88 (.v (.bh 0)),
 aY 90 86 true 89 (.a6 1 false),
 aY 91 86 true 0 (.v (.mv)),
 aY 92 86 true 91 (.v (.a9)),
 aY 93 86 true 92 (.v (.bh 1)),
 aY 94 86 true 93 (.a6 1 false),
 cB 95 86 true [.t 90,.t 94] (.v (.aC 3)),
 aY 96 86 true 95 (.v (.aK 3 true)),
 aY 97 86 true 96 (.aA 142),
 a8 98 [.t 86,.t 97,F_] .pick] [0,2,8,98])
 (.cond (.t 98)
 .skip
 (.exit 1)))
 (.block 2
 (.seq
 (.ae [aa 99 0,
 ba 100 99 (.aL 141 []),
 bE 9 eu,
 aV 9 100 9 0 11] [0,2,8,9])
 (.ae [aQ 101 8 1,
 aI 102 101 8 1 1 false,
 aI 103 8 8 0 11 true,
 aI 104 9 9 0 11 true,
 aU 105 103 104 (.aT 11),
 a8 106 [k_ 5,.t 102,.t 105] (.build eu [(0,1),(1,1),(4,1)]),
 aV 8 106 8 0 11] [0,2,8]))))
def g134L0:aw:=.loop [0,2,8] g134B0
theorem g134L0e: cl AP g134L0 st=after (cl AP g134L0) (cl AP g134B0 (norm (restrict [0,2,8] st))):=aG
def g134:aJ:=⟨1,108,[.c 2 11 true],
 (.seq
 (.ae [bE 2 eu] [0,2])
 (.seq
 (.ae [aa 10 0,
 ba 11 10 (.aL 126 []),
 aa 3 11] [0,2,3])
 (.seq
 (.block 0
 (.seq
 (.ae [aa 13 0,
 bB 14 [.t 13,.c (.pv (.str [92]))] (.aL 132 []),
 aa 12 14] [0,2,3,12])
 (.cond (.t 12)
 (.seq
 (.ae [aa 15 0,
 bB 16 [.t 15,k_ 1] (.aL 128 []),
 aa 4 16] [0,2,3,4])
 (.seq
 (.ae [aa 17 0,
 bB 18 [.t 17,.c (.pv (.str [46]))] (.aL 127 [])] [0,2,3,4])
 (.seq
 (.seq
 (.ae [aa 19 0,
 aH 20 19 .a9,
 aQ 21 20 2,
 ba 22 21 (.a6 1 false)] [0,2,3,4,22])
 (.cond (.t 22)
 (.seq
 (.ae [a8 23 [] (.build eu []),
 aV 2 23 2 0 11] [2])
 .ret)
 .skip))
 (.seq
 (.ae [aa 24 3,
 aa 25 4,
 aa 26 0,
 ba 27 26 (.aL 134 []),
 aH 28 27 (.aT 11),
 a8 29 [k_ 4,.t 24,.t 25,.t 28] (.build eu [(0,1),(1,1),(2,1),(4,1)]),
 aV 2 29 2 0 11] [2])
 .ret))))
 (.seq
 (.ae [aa 31 0,
 bB 32 [.t 31,.c (.pv (.str [108,101,116]))] (.aL 132 []),
 aa 30 32] [0,2,3,30])
 (.cond (.t 30)
 (.seq
 (.ae [a0 5 (k_ 6)] [0,2,3,5])
 (.seq
 (.seq
 (.ae [aa 33 0,
 bB 34 [.t 33,.c (.pv (.str [114,101,99]))] (.aL 132 [])] [0,2,3,5,34])
 (.cond (.t 34)
 (.ae [a0 5 (k_ 7)] [0,2,3,5])
 .skip))
 (.seq
 (.ae [aa 35 0,
 bB 36 [.t 35,k_ 1] (.aL 128 []),
 aa 6 36] [0,2,3,5,6])
 (.seq
 (.ae [aa 37 0,
 bB 38 [.t 37,.c (.pv (.str [61]))] (.aL 127 [])] [0,2,3,5,6])
 (.seq
 (.seq
 (.ae [aa 39 0,
 aH 40 39 .a9,
 aQ 41 40 2,
 ba 42 41 (.a6 1 false)] [0,2,3,5,6,42])
 (.cond (.t 42)
 (.seq
 (.ae [a8 43 [] (.build eu []),
 aV 2 43 2 0 11] [2])
 .ret)
 .skip))
 (.seq
 (.ae [aa 44 0,
 ba 45 44 (.aL 134 []),
 bE 7 eu,
 aV 7 45 7 0 11] [0,2,3,5,6,7])
 (.seq
 (.ae [aa 46 0,
 bB 47 [.t 46,.c (.pv (.str [105,110]))] (.aL 127 [])] [0,2,3,5,6,7])
 (.seq
 (.seq
 (.ae [aa 48 0,
 aH 49 48 .a9,
 aQ 50 49 2,
 ba 51 50 (.a6 1 false)] [0,2,3,5,6,7,51])
 (.cond (.t 51)
 (.seq
 (.ae [a8 52 [] (.build eu []),
 aV 2 52 2 0 11] [2])
 .ret)
 .skip))
 (.seq
 (.ae [aa 53 5,
 aa 54 3,
 aa 55 6,
 aI 56 7 7 0 11 true,
 aa 57 0,
 ba 58 57 (.aL 134 []),
 aU 59 56 58 (.aT 11),
 a8 60 [.t 53,.t 54,.t 55,.t 59] (.build eu [(0,1),(1,1),(2,1),(4,1)]),
 aV 2 60 2 0 11] [2])
 .ret)))))))))
 (.seq
 (.ae [aa 62 0,
 bB 63 [.t 62,.c (.pv (.str [99,97,115,101]))] (.aL 132 []),
 aa 61 63] [0,2,3,61])
 (.cond (.t 61)
 (.seq
 (.ae [aa 64 0,
 aa 65 3,
 bH 66 64 65 (.aL 140 []),
 aV 2 66 2 0 11] [2])
 .ret)
 .skip)))))))
 (.seq
 (.ae [aa 67 0,
 ba 68 67 (.aL 141 []),
 bE 8 eu,
 aV 8 68 8 0 11] [0,2,8])
 (.seq
 (.block 1
 g134L0)
 (.seq
 (.ae [aI 107 8 8 0 11 true,
 aV 2 107 2 0 11] [2])
 .ret)))))),none,false⟩
def g135:aJ:=⟨1,10,[.t 2],
 (.seq
 (.ae [ba 1 0 (.box 1 11),
 a0 2 F_] [1])
 (.seq
 (.ae [aI 3 1 1 0 11 true,
 ba 4 3 (.aA 143),
 a7 5 4 40 (.bin .gtr),
 aa 6 5,
 aY 7 6 false 1 (.bl 1 0 11 true),
 aY 8 6 false 7 (.aA 144),
 a8 9 [.t 6,T_,.t 8] .pick,
 aa 2 9] [2])
 .ret)),none,false⟩
def g136B0:aw:=
 (.seq
 (.seq
 (.ae [aa 9 4,
 aQ 10 1 5,
 aI 11 10 1 5 1 false,
 aH 12 11 .len,
 aU 13 9 12 (.bin .lss)] [1,4,13])
 (.cond (.t 13)
 .skip
 (.exit 0)))
 (.seq
 (.block 1
 (.seq
 (.ae [aQ 16 1 5,
 aI 17 16 1 5 1 false,
 aa 18 4,
 aU 19 17 18 (.aC 14),
 aQ 20 19 2,
 aH 21 20 (.aK 1 false),
 aH 22 21 .len,
 a7 23 22 4 (.bin .gtr)] [1,4,23])
 (.cond (.t 23)
 (.seq
 (.ae [aQ 24 1 5,
 aI 25 24 1 5 1 false,
 aa 26 4,
 aU 27 25 26 (.aC 14),
 aQ 28 27 0,
 aH 29 28 (.aK 1 false),
 aa 2 29,
 a0 3 T_] [2,3])
 .ret)
 .skip)))
 (.ae [aa 14 4,
 a7 15 14 1 (.bin .add),
 aa 4 15] [1,4])))
def g136L0:aw:=.loop [1,4] g136B0
theorem g136L0e: cl AP g136L0 st=after (cl AP g136L0) (cl AP g136B0 (norm (restrict [1,4] st))):=aG
def g136B1:aw:=
 (.seq
 (.seq
 (.ae [aa 32 6,
 aa 33 5,
 aH 34 33 .len,
 aU 35 32 34 (.bin .lss)] [5,6,35])
 (.cond (.t 35)
 .skip
 (.exit 2)))
 (.seq
 (.block 3
 (.seq
 (.ae [aa 39 5,
 aa 40 6,
 aU 41 39 40 (.aC 11),
 aH 42 41 (.aK 11 true),
 ba 43 42 (.aA 136),
 aa 38 43,
 aH 44 38 (.ext 0),
 aH 45 38 (.ext 1),
 aa 7 44,
 aa 8 45] [5,6,7,8])
 (.seq
 (.ae [aa 46 8] [5,6,7,46])
 (.cond (.t 46)
 (.seq
 (.ae [aa 47 7,
 aa 2 47,
 a0 3 T_] [2,3])
 .ret)
 .skip))))
 (.ae [aa 36 6,
 a7 37 36 1 (.bin .add),
 aa 6 37] [5,6])))
def g136L1:aw:=.loop [5,6] g136B1
theorem g136L1e: cl AP g136L1 st=after (cl AP g136L1) (cl AP g136B1 (norm (restrict [5,6] st))):=aG
def g136:aJ:=⟨1,48,[.t 2,.t 3],
 (.seq
 (.ae [ba 1 0 (.box 1 11),
 a0 2 (k_ 0),
 a0 3 F_] [1])
 (.seq
 (.seq
 (.ae [a0 4 (k_ 0)] [1,4])
 (.block 0
 g136L0))
 (.seq
 (.ae [aI 30 1 1 0 11 true,
 ba 31 30 (.aA 145),
 aa 5 31] [5])
 (.seq
 (.seq
 (.ae [a0 6 (k_ 0)] [5,6])
 (.block 2
 g136L1))
 (.seq
 (.ae [a0 2 (k_ 0),
 a0 3 F_] [2,3])
 .ret))))),none,false⟩
def g137B0:aw:=
 (.seq
 (.seq
 (.ae [aa 21 3,
 aa 22 0,
 aH 23 22 .jB,
 aU 24 21 23 (.bin .lss)] [0,3,24])
 (.cond (.t 24)
 .skip
 (.exit 0)))
 (.seq
 (.block 1
 (.seq
 (.ae [aa 27 0,
 aa 28 3,
 aU 29 27 28 .index,
 ba 30 29 (.aA 124),
 aH 31 30 (.un .not)] [0,3,31])
 (.cond (.t 31)
 (.seq
 (.ae [a0 2 F_] [2])
 .ret)
 .skip)))
 (.ae [aa 25 3,
 a7 26 25 1 (.bin .add),
 aa 3 26] [0,3])))
def g137L0:aw:=.loop [0,3] g137B0
theorem g137L0e: cl AP g137L0 st=after (cl AP g137L0) (cl AP g137B0 (norm (restrict [0,3] st))):=aG
def g137:aJ:=⟨1,32,[.t 2],
 (.seq
 (.ae [a0 2 F_] [0])
 (.seq
 (.seq
 (.ae [aa 4 0,
 a8 5 [.t 4,.c (.pv (.str []))] (.bin .eql),
 aa 6 5,
 aY 7 6 false 0 (.v (.mv)),
 aY 8 6 false 7 (.v (.jB)),
 cB 9 6 false [.t 8,k_ 9] (.v (.bin .gtr)),
 a8 10 [.t 6,T_,.t 9] .pick,
 aa 11 10,
 aY 12 11 false 0 (.v (.mv)),
 cB 13 11 false [.t 12,k_ 0] (.v (.index)),
 cB 14 11 false [.t 13,.c (.pv (.int .u8 48))] (.v (.bin .eql)),
 aY 15 11 false 14 (.v (.mv)),
 aY 16 15 true 0 (.v (.mv)),
 aY 17 15 true 16 (.v (.jB)),
 cB 18 15 true [.t 17,k_ 1] (.v (.bin .gtr)),
 cB 19 11 false [.t 15,.t 18,F_] (.v (.pick)),
 a8 20 [.t 11,T_,.t 19] .pick] [0,20])
 (.cond (.t 20)
 (.seq
 (.ae [a0 2 F_] [2])
 .ret)
 .skip))
 (.seq
 (.seq
 (.ae [a0 3 (k_ 0)] [0,3])
 (.block 0
 g137L0))
 (.seq
 (.ae [a0 2 T_] [2])
 .ret)))),none,false⟩
def g138B0:aw:=
 (.seq
 (.seq
 (.ae [aa 6 3,
 a7 7 6 11 (.bin .lss)] [0,3,7])
 (.cond (.t 7)
 .skip
 (.exit 0)))
 (.seq
 (.block 1
 (.seq
 (.ae [aa 10 0,
 aa 11 3,
 aa 12 3,
 a7 13 12 1 (.bin .add),
 a8 14 [.c (.pv (.str [92,46,61,59,58,124,40,41,123,125,63])),.t 11,.t 13] (.slice true 0 true true false),
 aU 15 10 14 (.bin .eql)] [0,3,15])
 (.cond (.t 15)
 (.seq
 (.ae [a0 2 T_] [2])
 .ret)
 .skip)))
 (.ae [aa 8 3,
 a7 9 8 1 (.bin .add),
 aa 3 9] [0,3])))
def g138L0:aw:=.loop [0,3] g138B0
theorem g138L0e: cl AP g138L0 st=after (cl AP g138L0) (cl AP g138B0 (norm (restrict [0,3] st))):=aG
def g138:aJ:=⟨1,16,[.t 2],
 (.seq
 (.ae [a0 2 F_] [0])
 (.seq
 (.seq
 (.ae [aa 4 0,
 a8 5 [.t 4,.c (.pv (.str [45,62]))] (.bin .eql)] [0,5])
 (.cond (.t 5)
 (.seq
 (.ae [a0 2 T_] [2])
 .ret)
 .skip))
 (.seq
 (.seq
 (.ae [a0 3 (k_ 0)] [0,3])
 (.block 0
 g138L0))
 (.seq
 (.ae [a0 2 F_] [2])
 .ret)))),none,false⟩
def g139:aJ:=⟨1,63,[],
 (.seq
 (.seq
 (.ae [aa 3 0,
 aH 4 3 .a9,
 aQ 5 4 2,
 ba 6 5 (.a6 1 false)] [0,6])
 (.cond (.t 6)
 .ret
 .skip))
 (.seq
 (.ae [aa 7 0,
 aH 8 7 .a9,
 aQ 9 8 2,
 jX [.t 9,T_] (.cz 1)] [0])
 (.block 0
 (.seq
 (.ae [aa 11 0,
 aH 12 11 .a9,
 aQ 13 12 1,
 ba 14 13 (.a6 1 false),
 aa 15 0,
 aH 16 15 .a9,
 aQ 17 16 0,
 ba 18 17 (.a6 1 false),
 aH 19 18 .len,
 aU 20 14 19 (.bin .lss),
 aa 10 20] [0,10])
 (.cond (.t 10)
 (.ae [aa 21 0,
 aa 22 0,
 aH 23 22 .a9,
 aQ 24 23 0,
 ba 25 24 (.a6 1 false),
 aa 26 0,
 aH 27 26 .a9,
 aQ 28 27 1,
 ba 29 28 (.a6 1 false),
 aU 30 25 29 (.aC 3),
 aQ 31 30 2,
 aH 32 31 (.aK 1 false),
 aH 33 21 .a9,
 aQ 34 33 3,
 jX [.t 34,.t 32] (.cz 1)] [])
 (.seq
 (.ae [aa 36 0,
 aH 37 36 .a9,
 aQ 38 37 0,
 ba 39 38 (.a6 1 false),
 aH 40 39 .len,
 a7 41 40 0 (.bin .gtr),
 aa 35 41] [0,35])
 (.cond (.t 35)
 (.seq
 (.ae [aa 42 0,
 aH 43 42 .a9,
 aQ 44 43 0,
 ba 45 44 (.a6 1 false),
 aa 46 0,
 aH 47 46 .a9,
 aQ 48 47 0,
 ba 49 48 (.a6 1 false),
 aH 50 49 .len,
 a7 51 50 1 (.bin .sub),
 aU 52 45 51 (.aC 3),
 aH 53 52 (.aK 3 true),
 bE 2 [aZ,dP,aZ],
 aV 2 53 2 0 3] [0,2])
 (.ae [aa 54 0,
 aQ 55 2 2,
 aI 56 55 2 2 1 false,
 aQ 57 2 1,
 aI 58 57 2 1 1 false,
 aH 59 58 .jB,
 aU 60 56 59 (.bin .add),
 aH 61 54 .a9,
 aQ 62 61 3,
 jX [.t 62,.t 60] (.cz 1)] []))
 .skip))))))),none,false⟩
def g140B1:aw:=
 (.seq
 (.seq
 (.ae [aa 19 0,
 bB 20 [.t 19,k_ 1] (.aL 129 [])] [0,4,5,6,20])
 (.cond (.t 20)
 .skip
 (.exit 2)))
 (.block 3
 (.ae [aQ 21 6 2,
 aI 22 21 6 2 1 false,
 aa 23 0,
 bB 24 [.t 23,k_ 1] (.aL 128 []),
 aH 25 24 (.aT 1),
 bH 26 22 25 (.append 1 16),
 aQ 27 6 2,
 aV 27 26 6 2 1] [0,4,5,6])))
def g140L1:aw:=.loop [0,4,5,6] g140B1
theorem g140L1e: cl AP g140L1 st=after (cl AP g140L1) (cl AP g140B1 (norm (restrict [0,4,5,6] st))):=aG
def g140B0:aw:=
 (.block 1
 (.seq
 (.ae [aa 14 0,
 ba 15 14 (.aL 126 []),
 aa 16 0,
 bB 17 [.t 16,k_ 2] (.aL 128 []),
 aU 18 15 17 (.build [aZ,dP,bO,aZ,aZ,dP,aZ,bO,bO,aZ,dP,aZ,aZ,bO] [(0,1),(1,1)]),
 bE 6 [aZ,dP,bO,aZ,aZ,dP,aZ,bO,bO,aZ,dP,aZ,aZ,bO],
 aV 6 18 6 0 14] [0,4,5,6])
 (.seq
 (.block 2
 g140L1)
 (.seq
 (.ae [aa 28 0,
 bB 29 [.t 28,.c (.pv (.str [46]))] (.aL 127 [])] [0,4,5,6])
 (.seq
 (.seq
 (.ae [aa 30 0,
 aH 31 30 .a9,
 aQ 32 31 2,
 ba 33 32 (.a6 1 false)] [0,4,5,6,33])
 (.cond (.t 33)
 (.seq
 (.ae [a8 34 [] (.build eu []),
 aV 4 34 4 0 11] [4])
 .ret)
 .skip))
 (.seq
 (.ae [aa 35 0,
 ba 36 35 (.aL 134 []),
 aQ 37 6 3,
 aV 37 36 6 3 11] [0,4,5,6])
 (.seq
 (.ae [aQ 38 5 5,
 aI 39 38 5 5 1 false,
 aI 40 6 6 0 14 true,
 aH 41 40 (.aT 14),
 bH 42 39 41 (.append 14 200),
 aQ 43 5 5,
 aV 43 42 5 5 1] [0,4,5])
 (.seq
 (.ae [aa 44 0,
 bB 45 [.t 44,.c (.pv (.str [124]))] (.aL 132 []),
 aH 46 45 (.un .not)] [0,4,5,46])
 (.cond (.t 46)
 (.exit 0)
 .skip)))))))))
def g140L0:aw:=.loop [0,4,5] g140B0
theorem g140L0e: cl AP g140L0 st=after (cl AP g140L0) (cl AP g140B0 (norm (restrict [0,4,5] st))):=aG
def g140:aJ:=⟨2,50,[.c 4 11 true],
 (.seq
 (.ae [bE 4 eu] [0,1,4])
 (.seq
 (.ae [aa 7 1,
 aa 8 0,
 ba 9 8 (.aL 134 []),
 aH 10 9 (.aT 11),
 a8 11 [k_ 8,.t 7,.t 10] (.build eu [(0,1),(1,1),(4,1)]),
 bE 5 eu,
 aV 5 11 5 0 11] [0,4,5])
 (.seq
 (.ae [aa 12 0,
 bB 13 [.t 12,.c (.pv (.str [111,102]))] (.aL 127 [])] [0,4,5])
 (.seq
 (.block 0
 g140L0)
 (.seq
 (.ae [aa 47 0,
 bB 48 [.t 47,.c (.pv (.str [101,110,100]))] (.aL 127 [])] [4,5])
 (.seq
 (.ae [aI 49 5 5 0 11 true,
 aV 4 49 4 0 11] [4])
 .ret)))))),none,false⟩
def g141:aJ:=⟨1,68,[.c 2 11 true],
 (.seq
 (.ae [bE 2 eu] [0,2])
 (.seq
 (.ae [aa 7 0,
 ba 8 7 (.aL 126 []),
 aa 3 8] [0,2,3])
 (.seq
 (.block 0
 (.seq
 (.ae [aa 10 0,
 bB 11 [.t 10,k_ 1] (.aL 129 []),
 aa 9 11] [0,2,3,9])
 (.cond (.t 9)
 (.seq
 (.ae [aa 12 3,
 aa 13 0,
 bB 14 [.t 13,k_ 1] (.aL 128 []),
 a8 15 [k_ 1,.t 12,.t 14] (.build eu [(0,1),(1,1),(2,1)]),
 aV 2 15 2 0 11] [2])
 .ret)
 (.seq
 (.ae [aa 17 0,
 bB 18 [.t 17,k_ 2] (.aL 129 []),
 aa 16 18] [0,2,3,16])
 (.cond (.t 16)
 (.seq
 (.ae [aa 19 3,
 aa 20 0,
 bB 21 [.t 20,k_ 2] (.aL 128 []),
 a8 22 [k_ 2,.t 19,.t 21] (.build eu [(0,1),(1,1),(2,1)]),
 aV 2 22 2 0 11] [2])
 .ret)
 (.seq
 (.ae [aa 24 0,
 bB 25 [.t 24,k_ 3] (.aL 129 []),
 aa 23 25] [0,2,3,23])
 (.cond (.t 23)
 (.seq
 (.ae [aa 26 3,
 aa 27 0,
 bB 28 [.t 27,k_ 3] (.aL 128 []),
 ba 29 28 (.aA 146),
 a8 30 [k_ 3,.t 26,.t 29] (.build eu [(0,1),(1,1),(3,1)]),
 aV 2 30 2 0 11] [2])
 .ret)
 (.seq
 (.ae [aa 32 0,
 bB 33 [.t 32,.c (.pv (.str [63]))] (.aL 132 []),
 aa 31 33] [0,2,3,31])
 (.cond (.t 31)
 (.seq
 (.ae [aa 34 3,
 a8 35 [k_ 10,.t 34] (.build eu [(0,1),(1,1)]),
 aV 2 35 2 0 11] [2])
 .ret)
 (.seq
 (.ae [aa 37 0,
 bB 38 [.t 37,.c (.pv (.str [123]))] (.aL 132 []),
 aa 36 38] [0,2,3,36])
 (.cond (.t 36)
 (.seq
 (.ae [aa 39 0,
 ba 40 39 (.aL 134 []),
 bE 4 eu,
 aV 4 40 4 0 11] [0,2,3,4])
 (.seq
 (.ae [aa 41 0,
 bB 42 [.t 41,.c (.pv (.str [125]))] (.aL 127 [])] [2,3,4])
 (.seq
 (.ae [aa 43 3,
 aI 44 4 4 0 11 true,
 aH 45 44 (.aT 11),
 a8 46 [k_ 11,.t 43,.t 45] (.build eu [(0,1),(1,1),(4,1)]),
 aV 2 46 2 0 11] [2])
 .ret)))
 .skip)))))))))))
 (.seq
 (.ae [aa 47 0,
 bB 48 [.t 47,.c (.pv (.str [40]))] (.aL 127 [])] [0,2,3])
 (.seq
 (.seq
 (.ae [aa 49 0,
 aH 50 49 .a9,
 aQ 51 50 2,
 ba 52 51 (.a6 1 false)] [0,2,3,52])
 (.cond (.t 52)
 (.seq
 (.ae [a8 53 [] (.build eu []),
 aV 2 53 2 0 11] [2])
 .ret)
 .skip))
 (.seq
 (.ae [aa 54 0,
 ba 55 54 (.aL 134 []),
 bE 5 eu,
 aV 5 55 5 0 11] [0,2,3,5])
 (.seq
 (.seq
 (.ae [aa 56 0,
 bB 57 [.t 56,.c (.pv (.str [58]))] (.aL 132 [])] [0,2,3,5,57])
 (.cond (.t 57)
 (.seq
 (.ae [aa 58 0,
 ba 59 58 (.aL 133 []),
 bE 6 ez,
 aV 6 59 6 0 5] [0,2,3,5,6])
 (.ae [aa 60 3,
 aI 61 5 5 0 11 true,
 aH 62 61 (.aT 11),
 aI 63 6 6 0 5 true,
 a8 64 [k_ 9,.t 60,.t 62,.t 63] (.build eu [(0,1),(1,1),(4,1),(6,5)]),
 aV 5 64 5 0 11] [0,2,5]))
 .skip))
 (.seq
 (.ae [aa 65 0,
 bB 66 [.t 65,.c (.pv (.str [41]))] (.aL 127 [])] [2,5])
 (.seq
 (.ae [aI 67 5 5 0 11 true,
 aV 2 67 2 0 11] [2])
 .ret))))))))),none,false⟩
def g142:aJ:=⟨1,24,[.t 2],
 (.seq
 (.ae [ba 1 0 (.box 1 3),
 a0 2 F_] [1])
 (.seq
 (.seq
 (.ae [aQ 3 1 0,
 aI 4 3 1 0 1 false] [1,4])
 (.block 0
 (.seq
 (.seq
 (.ae [a7 6 4 1 (.bin .eql),
 aa 5 6] [1,4,5])
 (.cond (.t 5)
 .skip
 (.seq
 (.ae [a7 7 4 2 (.bin .eql),
 aa 5 7] [1,4,5])
 (.cond (.t 5)
 .skip
 (.ae [a7 8 4 3 (.bin .eql),
 aa 5 8] [1,4,5])))))
 (.cond (.t 5)
 (.seq
 (.ae [a0 2 T_] [2])
 .ret)
 (.seq
 (.ae [a7 10 4 5 (.bin .eql),
 aa 9 10] [1,9])
 (.cond (.t 9)
 (.seq
 (.ae [aQ 11 1 1,
 aI 12 11 1 1 1 false,
 a8 13 [.t 12,.c (.pv (.str [63]))] (.bin .eql),
 aa 14 13,
 aY 15 14 false 1 (.v (.bh 1)),
 aY 16 14 false 15 (.bl 1 1 1 false),
 cB 17 14 false [.t 16,.c (.pv (.str [40]))] (.v (.bin .eql)),
 a8 18 [.t 14,T_,.t 17] .pick,
 aa 19 18,
 aY 20 19 false 1 (.v (.bh 1)),
 aY 21 19 false 20 (.bl 1 1 1 false),
 cB 22 19 false [.t 21,.c (.pv (.str [123]))] (.v (.bin .eql)),
 a8 23 [.t 19,T_,.t 22] .pick,
 aa 2 23] [2])
 .ret)
 .skip))))))
 (.seq
 (.ae [a0 2 F_] [2])
 .ret))),none,false⟩
def g143B0:aw:=
 (.seq
 (.seq
 (.ae [aa 8 5,
 aa 9 4,
 aH 10 9 .len,
 aU 11 8 10 (.bin .lss)] [3,4,5,11])
 (.cond (.t 11)
 .skip
 (.exit 0)))
 (.seq
 (.block 1
 (.ae [aa 14 3,
 aa 15 4,
 aa 16 5,
 aU 17 15 16 (.aC 11),
 aH 18 17 (.aK 11 true),
 ba 19 18 (.aA 143),
 a8 20 [k_ 1,.t 19] (.bin .add),
 aU 21 14 20 .mx,
 aa 3 21] [3,4,5]))
 (.ae [aa 12 5,
 a7 13 12 1 (.bin .add),
 aa 5 13] [3,4,5])))
def g143L0:aw:=.loop [3,4,5] g143B0
theorem g143L0e: cl AP g143L0 st=after (cl AP g143L0) (cl AP g143B0 (norm (restrict [3,4,5] st))):=aG
def g143:aJ:=⟨1,23,[.t 2],
 (.seq
 (.ae [ba 1 0 (.box 1 11),
 a0 2 (k_ 0)] [1])
 (.seq
 (.ae [a0 3 (k_ 0)] [1,3])
 (.seq
 (.ae [aI 6 1 1 0 11 true,
 ba 7 6 (.aA 145),
 aa 4 7] [3,4])
 (.seq
 (.seq
 (.ae [a0 5 (k_ 0)] [3,4,5])
 (.block 0
 g143L0))
 (.seq
 (.ae [aa 22 3,
 aa 2 22] [2])
 .ret))))),none,false⟩
def g144B0:aw:=
 (.seq
 (.seq
 (.ae [aa 16 4,
 aa 17 3,
 aH 18 17 .len,
 aU 19 16 18 (.bin .lss)] [3,4,19])
 (.cond (.t 19)
 .skip
 (.exit 0)))
 (.seq
 (.block 1
 (.seq
 (.ae [aa 22 3,
 aa 23 4,
 aU 24 22 23 (.aC 11),
 aH 25 24 (.aK 11 true),
 ba 26 25 (.aA 144)] [3,4,26])
 (.cond (.t 26)
 (.seq
 (.ae [a0 2 T_] [2])
 .ret)
 .skip)))
 (.ae [aa 20 4,
 a7 21 20 1 (.bin .add),
 aa 4 21] [3,4])))
def g144L0:aw:=.loop [3,4] g144B0
theorem g144L0e: cl AP g144L0 st=after (cl AP g144L0) (cl AP g144B0 (norm (restrict [3,4] st))):=aG
def g144:aJ:=⟨1,27,[.t 2],
 (.seq
 (.ae [ba 1 0 (.box 1 11),
 a0 2 F_] [1])
 (.seq
 (.seq
 (.ae [aQ 5 1 0,
 aI 6 5 1 0 1 false,
 a7 7 6 9 (.bin .eql),
 aa 8 7,
 aY 9 8 true 1 (.v (.bh 6)),
 aY 10 8 true 9 (.bl 1 6 5 true),
 aY 11 8 true 10 (.aA 52),
 cB 12 8 true [.t 11,k_ 40] (.v (.bin .gtr)),
 a8 13 [.t 8,.t 12,F_] .pick] [1,13])
 (.cond (.t 13)
 (.seq
 (.ae [a0 2 T_] [2])
 .ret)
 .skip))
 (.seq
 (.ae [aI 14 1 1 0 11 true,
 ba 15 14 (.aA 145),
 aa 3 15] [3])
 (.seq
 (.seq
 (.ae [a0 4 (k_ 0)] [3,4])
 (.block 0
 g144L0))
 (.seq
 (.ae [a0 2 F_] [2])
 .ret))))),none,false⟩
def g145B0:aw:=
 (.seq
 (.seq
 (.ae [aa 8 4,
 aQ 9 1 5,
 aI 10 9 1 5 1 false,
 aH 11 10 .len,
 aU 12 8 11 (.bin .lss)] [1,3,4,12])
 (.cond (.t 12)
 .skip
 (.exit 0)))
 (.seq
 (.block 1
 (.ae [aa 15 3,
 aQ 16 1 5,
 aI 17 16 1 5 1 false,
 aa 18 4,
 aU 19 17 18 (.aC 14),
 aQ 20 19 3,
 ba 21 20 (.a6 11 true),
 aH 22 21 (.aT 11),
 bH 23 15 22 (.cZ 11 152 true),
 aa 3 23] [1,3,4]))
 (.ae [aa 13 4,
 a7 14 13 1 (.bin .add),
 aa 4 14] [1,3,4])))
def g145L0:aw:=.loop [1,3,4] g145B0
theorem g145L0e: cl AP g145L0 st=after (cl AP g145L0) (cl AP g145B0 (norm (restrict [1,3,4] st))):=aG
def g145:aJ:=⟨1,25,[.t 2],
 (.seq
 (.ae [ba 1 0 (.box 1 11),
 a8 2 [.c (.bD [])] .mv] [1])
 (.seq
 (.ae [aQ 5 1 4,
 aI 6 5 1 4 1 false,
 bB 7 [.c (.bD []),.t 6] (.cZ 11 152 true),
 aa 3 7] [1,3])
 (.seq
 (.seq
 (.ae [a0 4 (k_ 0)] [1,3,4])
 (.block 0
 g145L0))
 (.seq
 (.ae [aa 24 3,
 aa 2 24] [2])
 .ret)))),none,true⟩
def g146B0:aw:=
 (.seq
 (.seq
 (.ae [aa 5 4,
 aa 6 0,
 aH 7 6 .jB,
 aU 8 5 7 (.bin .lss)] [0,3,4,8])
 (.cond (.t 8)
 .skip
 (.exit 0)))
 (.seq
 (.block 1
 (.ae [aa 11 3,
 a8 12 [k_ 10,.t 11] (.bin .mul),
 aa 13 0,
 aa 14 4,
 aU 15 13 14 .index,
 a8 16 [.t 15,.c (.pv (.int .u8 48))] (.bin .sub),
 aH 17 16 (.conv .i64),
 aU 18 12 17 (.bin .add),
 aa 3 18] [0,3,4]))
 (.ae [aa 9 4,
 a7 10 9 1 (.bin .add),
 aa 4 10] [0,3,4])))
def g146L0:aw:=.loop [0,3,4] g146B0
theorem g146L0e: cl AP g146L0 st=after (cl AP g146L0) (cl AP g146B0 (norm (restrict [0,3,4] st))):=aG
def g146:aJ:=⟨1,20,[.t 2],
 (.seq
 (.ae [a0 2 (k_ 0)] [0])
 (.seq
 (.ae [a0 3 (k_ 0)] [0,3])
 (.seq
 (.seq
 (.ae [a0 4 (k_ 0)] [0,3,4])
 (.block 0
 g146L0))
 (.seq
 (.ae [aa 19 3,
 aa 2 19] [2])
 .ret)))),none,false⟩
def g162:aJ:=⟨1,13,[.t 2],
 (.seq
 (.ae [a0 2 F_] [0])
 (.seq
 (.ae [aa 3 0,
 aH 4 3 .a9,
 aQ 5 4 1,
 ba 6 5 (.a6 1 false),
 aa 7 0,
 aH 8 7 .a9,
 aQ 9 8 0,
 ba 10 9 (.a6 1 false),
 aH 11 10 .len,
 aU 12 6 11 (.bin .geq),
 aa 2 12] [2])
 .ret)),none,false⟩
def g175:aJ:=⟨1,8,[.t 2],
 (.seq
 (.ae [a8 2 [.c (.pv (.str []))] .mv] [0])
 (.seq
 (.ae [a8 3 [.c (.pv (.str [120])),.c (.pv (.str [121])),.c (.pv (.str [122])),.c (.pv (.str [102])),.c (.pv (.str [103])),.c (.pv (.str [118,49])),.c (.pv (.str [118,50])),.c (.pv (.str [105,100]))] (.aT 1),
 aa 4 0,
 bB 5 [.t 4,k_ 8] (.aL 68 []),
 aU 6 3 5 (.aC 1),
 aH 7 6 (.aK 1 false),
 aa 2 7] [2])
 .ret)),none,false⟩
def g176:aJ:=⟨1,5,[.c 2 6 true],
 (.seq
 (.ae [ba 1 0 (.box 1 5),
 bE 2 pW] [1,2])
 (.seq
 (.ae [aI 3 1 1 0 5 true,
 aH 4 3 (.build pW [(1,5)]),
 aV 2 4 2 0 6] [2])
 .ret)),none,false⟩
def g179:aJ:=⟨3,14,[.t 6],
 (.seq
 (.ae [ba 5 2 (.box 5 6),
 a8 6 [.c (.bD [])] .mv] [0,1,5])
 (.seq
 (.ae [aa 7 0,
 bB 8 [.c (.bD []),.t 7] (.append 7 88),
 aa 9 1,
 aI 10 5 5 0 6 true,
 aU 11 9 10 (.build [dP,aZ,aZ,dP,aZ,aZ,bO] [(0,1),(1,6)]),
 aH 12 11 (.aT 7),
 bH 13 8 12 (.append 7 88),
 aa 6 13] [6])
 .ret)),none,false⟩
def g181B0:aw:=
 (.seq
 (.seq
 (.ae [aa 10 6,
 a7 11 10 0 (.bin .geq)] [0,1,4,6,11])
 (.cond (.t 11)
 .skip
 (.exit 0)))
 (.seq
 (.block 1
 (.seq
 (.ae [aa 14 0,
 aa 15 6,
 aU 16 14 15 (.aC 7),
 aQ 17 16 0,
 aH 18 17 (.aK 1 false),
 aa 19 1,
 aU 20 18 19 (.bin .eql)] [0,1,4,6,20])
 (.cond (.t 20)
 (.seq
 (.ae [aa 21 0,
 aa 22 6,
 aU 23 21 22 (.aC 7),
 aQ 24 23 1,
 aH 25 24 (.aK 6 true),
 aV 4 25 4 0 6,
 a0 5 T_] [4,5])
 .ret)
 .skip)))
 (.ae [aa 12 6,
 a7 13 12 1 (.bin .sub),
 aa 6 13] [0,1,4,6])))
def g181L0:aw:=.loop [0,1,4,6] g181B0
theorem g181L0e: cl AP g181L0 st=after (cl AP g181L0) (cl AP g181B0 (norm (restrict [0,1,4,6] st))):=aG
def g181:aJ:=⟨2,27,[.c 4 6 true,.t 5],
 (.seq
 (.ae [bE 4 pW,
 a0 5 F_] [0,1,4])
 (.seq
 (.seq
 (.ae [aa 7 0,
 aH 8 7 .len,
 a7 9 8 1 (.bin .sub),
 aa 6 9] [0,1,4,6])
 (.block 0
 g181L0))
 (.seq
 (.ae [a8 26 [] (.build pW []),
 aV 4 26 4 0 6,
 a0 5 F_] [4,5])
 .ret))),none,false⟩
def g185B0:aw:=
 (.seq
 (.ae [aU 41 40 39 (.bin .lss)] [0,2,38,39,40,41])
 (.seq
 (.cond (.t 41)
 .skip
 (.exit 1))
 (.seq
 (.block 2
 (.seq
 (.ae [aU 42 38 40 (.aC 5),
 aH 43 42 (.aK 5 true),
 bE 10 ez,
 aV 10 43 10 0 5] [0,2,10,38,39,40])
 (.seq
 (.ae [aa 44 0,
 aI 45 10 10 0 5 true,
 aa 46 2,
 bB 47 [.t 44,.t 45,.t 46] (.aA 185),
 aa 11 47] [0,2,11,38,39,40])
 (.seq
 (.ae [aa 48 11,
 a7 49 48 0 (.bin .neq)] [0,2,11,38,39,40,49])
 (.cond (.t 49)
 (.seq
 (.ae [aa 50 11,
 aa 6 50] [6])
 .ret)
 .skip)))))
 (.ae [a7 51 40 1 (.bin .add),
 aa 40 51] [0,2,38,39,40]))))
def g185L0:aw:=.loop [0,2,38,39,40] g185B0
theorem g185L0e: cl AP g185L0 st=after (cl AP g185L0) (cl AP g185B0 (norm (restrict [0,2,38,39,40] st))):=aG
def g185:aJ:=⟨3,52,[.t 6],
 (.seq
 (.ae [ba 4 1 (.box 4 5),
 a0 6 (k_ 0)] [0,2,4])
 (.seq
 (.seq
 (.ae [aQ 12 4 0,
 aI 13 12 4 0 1 false] [0,2,4,13])
 (.block 0
 (.seq
 (.ae [a7 15 13 5 (.bin .eql),
 aa 14 15] [0,2,4,13,14])
 (.cond (.t 14)
 (.seq
 (.ae [aa 16 2,
 aQ 17 4 1,
 aI 18 17 4 1 1 false,
 bH 19 16 18 (.aA 214),
 aH 20 19 (.un .not)] [0,2,4,20])
 (.cond (.t 20)
 (.seq
 (.ae [a0 6 (k_ 7)] [6])
 .ret)
 .skip))
 (.seq
 (.ae [a7 22 13 4 (.bin .eql),
 aa 21 22] [0,2,4,21])
 (.cond (.t 21)
 (.seq
 (.ae [aa 24 0,
 aQ 25 4 1,
 aI 26 25 4 1 1 false,
 bH 27 24 26 (.aA 215),
 aa 23 27,
 aH 28 23 (.ext 0),
 aH 29 23 (.ext 1),
 aa 7 28,
 aa 8 29] [0,2,4,7,8])
 (.seq
 (.seq
 (.ae [aa 30 8,
 aH 31 30 (.un .not)] [0,2,4,7,31])
 (.cond (.t 31)
 (.seq
 (.ae [a0 6 (k_ 7)] [6])
 .ret)
 .skip))
 (.seq
 (.ae [aa 32 7,
 aQ 33 4 4,
 aI 34 33 4 4 1 false,
 aH 35 34 .len,
 aU 36 32 35 (.bin .neq)] [0,2,4,36])
 (.cond (.t 36)
 (.seq
 (.ae [a0 6 (k_ 8)] [6])
 .ret)
 .skip))))
 .skip))))))
 (.seq
 (.seq
 (.ae [aQ 37 4 4,
 aI 38 37 4 4 1 false,
 aH 39 38 .len,
 a0 40 (k_ 0)] [0,2,38,39,40])
 (.block 1
 g185L0))
 (.seq
 (.ae [a0 6 (k_ 0)] [6])
 .ret)))),none,false⟩
def g186B0:aw:=
 (.seq
 (.seq
 (.ae [aa 36 9,
 aQ 37 4 4,
 aI 38 37 4 4 1 false,
 aH 39 38 .len,
 aU 40 36 39 (.bin .lss)] [0,2,4,9,40])
 (.cond (.t 40)
 .skip
 (.exit 1)))
 (.seq
 (.block 2
 (.seq
 (.ae [aa 43 0,
 aQ 44 4 4,
 aI 45 44 4 4 1 false,
 aa 46 9,
 aU 47 45 46 (.aC 5),
 aH 48 47 (.aK 5 true),
 aa 49 2,
 bB 50 [.t 43,.t 48,.t 49] (.aA 186),
 aa 10 50] [0,2,4,9,10])
 (.seq
 (.ae [aa 51 10,
 a7 52 51 0 (.bin .neq)] [0,2,4,9,10,52])
 (.cond (.t 52)
 (.seq
 (.ae [aa 53 10,
 aa 6 53] [6])
 .ret)
 .skip))))
 (.ae [aa 41 9,
 a7 42 41 1 (.bin .add),
 aa 9 42] [0,2,4,9])))
def g186L0:aw:=.loop [0,2,4,9] g186B0
theorem g186L0e: cl AP g186L0 st=after (cl AP g186L0) (cl AP g186B0 (norm (restrict [0,2,4,9] st))):=aG
def g186:aJ:=⟨3,54,[.t 6],
 (.seq
 (.ae [ba 4 1 (.box 4 5),
 a0 6 (k_ 0)] [0,2,4])
 (.seq
 (.seq
 (.ae [aQ 11 4 0,
 aI 12 11 4 0 1 false] [0,2,4,12])
 (.block 0
 (.seq
 (.ae [a7 14 12 5 (.bin .eql),
 aa 13 14] [0,2,4,12,13])
 (.cond (.t 13)
 (.seq
 (.ae [aa 15 2,
 aQ 16 4 1,
 aI 17 16 4 1 1 false,
 bH 18 15 17 (.aA 216),
 a7 19 18 0 (.bin .lss)] [19])
 (.cond (.t 19)
 (.seq
 (.ae [a0 6 (k_ 7)] [6])
 .ret)
 .skip))
 (.seq
 (.ae [a7 21 12 4 (.bin .eql),
 aa 20 21] [0,2,4,20])
 (.cond (.t 20)
 (.seq
 (.ae [aa 23 0,
 aQ 24 4 1,
 aI 25 24 4 1 1 false,
 bH 26 23 25 (.aA 217),
 aa 22 26,
 aH 27 22 (.ext 0),
 aH 28 22 (.ext 1),
 aa 7 27,
 aa 8 28] [0,2,4,7,8])
 (.seq
 (.seq
 (.ae [aa 29 8,
 aH 30 29 (.un .not)] [0,2,4,7,30])
 (.cond (.t 30)
 (.seq
 (.ae [a0 6 (k_ 7)] [6])
 .ret)
 .skip))
 (.seq
 (.seq
 (.ae [aa 31 7,
 aQ 32 4 4,
 aI 33 32 4 4 1 false,
 aH 34 33 .len,
 aU 35 31 34 (.bin .neq)] [0,2,4,35])
 (.cond (.t 35)
 (.seq
 (.ae [a0 6 (k_ 8)] [6])
 .ret)
 .skip))
 (.seq
 (.ae [a0 9 (k_ 0)] [0,2,4,9])
 (.block 1
 g186L0)))))
 .skip))))))
 (.seq
 (.ae [a0 6 (k_ 0)] [6])
 .ret))),none,false⟩
def g188B1:aw:=
 (.seq
 (.ae [aU 39 38 37 (.bin .lss)] [0,2,3,4,6,7,22,23,24,36,37,38,39])
 (.seq
 (.cond (.t 39)
 .skip
 (.exit 2))
 (.seq
 (.block 3
 (.seq
 (.ae [aa 40 38,
 aU 41 36 38 (.aC 1),
 aH 42 41 (.aK 1 false),
 aa 8 40,
 aa 9 42] [0,2,3,4,6,7,8,9,22,23,24,36,37,38])
 (.ae [aa 43 7,
 aa 44 43,
 aY 45 44 false 6 (.v (.bh 2)),
 aY 46 44 false 45 (.bl 6 2 1 false),
 aY 47 44 false 8 (.v (.mv)),
 cB 48 44 false [.t 46,.t 47] (.v (.slice false 1 false true false)),
 aY 49 44 false 9 (.v (.mv)),
 cB 50 44 false [.t 48,.t 49] (.aA 214),
 a8 51 [.t 44,T_,.t 50] .pick,
 aa 7 51] [0,2,3,4,6,7,22,23,24,36,37,38])))
 (.ae [a7 52 38 1 (.bin .add),
 aa 38 52] [0,2,3,4,6,7,22,23,24,36,37,38]))))
def g188L1:aw:=.loop [0,2,3,4,6,7,22,23,24,36,37,38] g188B1
theorem g188L1e: cl AP g188L1 st=after (cl AP g188L1) (cl AP g188B1 (norm (restrict [0,2,3,4,6,7,22,23,24,36,37,38] st))):=aG
def g188B2:aw:=
 (.seq
 (.ae [aU 61 60 59 (.bin .lss)] [0,2,3,4,22,23,24,58,59,60,61])
 (.seq
 (.cond (.t 61)
 .skip
 (.exit 4))
 (.seq
 (.block 5
 (.seq
 (.ae [aU 62 58 60 (.aC 3),
 aH 63 62 (.aK 3 true),
 bE 11 [aZ,dP,bO],
 aV 11 63 11 0 3] [0,2,3,4,11,22,23,24,58,59,60])
 (.seq
 (.seq
 (.ae [aa 64 4,
 aQ 65 11 1,
 aI 66 65 11 1 1 false,
 bH 67 64 66 (.iB .str false (.bool false))] [0,2,3,4,11,22,23,24,58,59,60,67])
 (.cond (.t 67)
 (.seq
 (.ae [aQ 68 11 0,
 aI 69 68 11 0 1 false,
 a8 70 [k_ 6,.t 69] (.build [aZ,aZ] [(0,1),(1,1)]),
 aV 2 70 2 0 2] [2])
 .ret)
 .skip))
 (.ae [aa 71 4,
 aQ 72 11 1,
 aI 73 72 11 1 1 false,
 jX [.t 71,.t 73,T_] (.mM .str)] [0,2,3,4,22,23,24,58,59,60]))))
 (.ae [a7 74 60 1 (.bin .add),
 aa 60 74] [0,2,3,4,22,23,24,58,59,60]))))
def g188L2:aw:=.loop [0,2,3,4,22,23,24,58,59,60] g188B2
theorem g188L2e: cl AP g188L2 st=after (cl AP g188L2) (cl AP g188B2 (norm (restrict [0,2,3,4,22,23,24,58,59,60] st))):=aG
def g188B0:aw:=
 (.seq
 (.ae [aU 25 24 23 (.bin .lss)] [0,2,3,4,22,23,24,25])
 (.seq
 (.cond (.t 25)
 .skip
 (.exit 0))
 (.seq
 (.block 1
 (.seq
 (.ae [aU 26 22 24 (.aC 4),
 aH 27 26 (.aK 4 true),
 bE 6 Ck,
 aV 6 27 6 0 4] [0,2,3,4,6,22,23,24])
 (.seq
 (.ae [aa 28 3,
 aQ 29 6 1,
 aI 30 29 6 1 1 false,
 bH 31 28 30 (.iB .str false (.bool false)),
 aa 7 31] [0,2,3,4,6,7,22,23,24])
 (.seq
 (.ae [aa 32 3,
 aQ 33 6 1,
 aI 34 33 6 1 1 false,
 jX [.t 32,.t 34,T_] (.mM .str)] [0,2,3,4,6,7,22,23,24])
 (.seq
 (.seq
 (.ae [aQ 35 6 2,
 aI 36 35 6 2 1 false,
 aH 37 36 .len,
 a0 38 (k_ 0)] [0,2,3,4,6,7,22,23,24,36,37,38])
 (.block 2
 g188L1))
 (.seq
 (.seq
 (.ae [aa 53 7] [0,2,3,4,6,22,23,24,53])
 (.cond (.t 53)
 (.seq
 (.ae [aQ 54 6 0,
 aI 55 54 6 0 1 false,
 a8 56 [k_ 6,.t 55] (.build [aZ,aZ] [(0,1),(1,1)]),
 aV 2 56 2 0 2] [2])
 .ret)
 .skip))
 (.seq
 (.ae [aQ 57 6 3,
 aI 58 57 6 3 1 false,
 aH 59 58 .len,
 a0 60 (k_ 0)] [0,2,3,4,22,23,24,58,59,60])
 (.block 4
 g188L2))))))))
 (.ae [a7 75 24 1 (.bin .add),
 aa 24 75] [0,2,3,4,22,23,24]))))
def g188L0:aw:=.loop [0,2,3,4,22,23,24] g188B0
theorem g188L0e: cl AP g188L0 st=after (cl AP g188L0) (cl AP g188B0 (norm (restrict [0,2,3,4,22,23,24] st))):=aG
def g188B5:aw:=
 (.seq
 (.ae [aU 93 92 91 (.bin .lss)] [0,2,13,15,76,77,78,83,84,85,90,91,92,93])
 (.seq
 (.cond (.t 93)
 .skip
 (.exit 10))
 (.seq
 (.block 11
 (.seq
 (.ae [aU 94 90 92 (.aC 5),
 aH 95 94 (.aK 5 true),
 bE 17 ez,
 aV 17 95 17 0 5] [0,2,13,15,17,76,77,78,83,84,85,90,91,92])
 (.seq
 (.ae [aa 96 0,
 aI 97 17 17 0 5 true,
 aQ 98 13 2,
 aI 99 98 13 2 1 false,
 bB 100 [.t 96,.t 97,.t 99] (.aA 185),
 aa 18 100] [0,2,13,15,18,76,77,78,83,84,85,90,91,92])
 (.seq
 (.ae [aa 101 18,
 a7 102 101 0 (.bin .neq)] [0,2,13,15,18,76,77,78,83,84,85,90,91,92,102])
 (.cond (.t 102)
 (.seq
 (.ae [aa 103 18,
 aQ 104 15 0,
 aI 105 104 15 0 1 false,
 aU 106 103 105 (.build [aZ,aZ] [(0,1),(1,1)]),
 aV 2 106 2 0 2] [2])
 .ret)
 .skip)))))
 (.ae [a7 107 92 1 (.bin .add),
 aa 92 107] [0,2,13,15,76,77,78,83,84,85,90,91,92]))))
def g188L5:aw:=.loop [0,2,13,15,76,77,78,83,84,85,90,91,92] g188B5
theorem g188L5e: cl AP g188L5 st=after (cl AP g188L5) (cl AP g188B5 (norm (restrict [0,2,13,15,76,77,78,83,84,85,90,91,92] st))):=aG
def g188B4:aw:=
 (.seq
 (.ae [aU 86 85 84 (.bin .lss)] [0,2,13,76,77,78,83,84,85,86])
 (.seq
 (.cond (.t 86)
 .skip
 (.exit 8))
 (.seq
 (.block 9
 (.seq
 (.ae [aU 87 83 85 (.aC 3),
 aH 88 87 (.aK 3 true),
 bE 15 [aZ,dP,bO],
 aV 15 88 15 0 3] [0,2,13,15,76,77,78,83,84,85])
 (.seq
 (.ae [aQ 89 15 2,
 aI 90 89 15 2 1 false,
 aH 91 90 .len,
 a0 92 (k_ 0)] [0,2,13,15,76,77,78,83,84,85,90,91,92])
 (.block 10
 g188L5))))
 (.ae [a7 108 85 1 (.bin .add),
 aa 85 108] [0,2,13,76,77,78,83,84,85]))))
def g188L4:aw:=.loop [0,2,13,76,77,78,83,84,85] g188B4
theorem g188L4e: cl AP g188L4 st=after (cl AP g188L4) (cl AP g188B4 (norm (restrict [0,2,13,76,77,78,83,84,85] st))):=aG
def g188B3:aw:=
 (.seq
 (.ae [aU 79 78 77 (.bin .lss)] [0,2,76,77,78,79])
 (.seq
 (.cond (.t 79)
 .skip
 (.exit 6))
 (.seq
 (.block 7
 (.seq
 (.ae [aU 80 76 78 (.aC 4),
 aH 81 80 (.aK 4 true),
 bE 13 Ck,
 aV 13 81 13 0 4] [0,2,13,76,77,78])
 (.seq
 (.ae [aQ 82 13 3,
 aI 83 82 13 3 1 false,
 aH 84 83 .len,
 a0 85 (k_ 0)] [0,2,13,76,77,78,83,84,85])
 (.block 8
 g188L4))))
 (.ae [a7 109 78 1 (.bin .add),
 aa 78 109] [0,2,76,77,78]))))
def g188L3:aw:=.loop [0,2,76,77,78] g188B3
theorem g188L3e: cl AP g188L3 st=after (cl AP g188L3) (cl AP g188B3 (norm (restrict [0,2,76,77,78] st))):=aG
def g188:aJ:=⟨1,111,[.c 2 2 true],
 (.seq
 (.ae [bE 2 [aZ,aZ]] [0,2])
 (.seq
 (.ae [bB 19 [] .ko,
 jX [.t 19,.c (.pv (.str [73,110,116])),T_] (.mM .str),
 aa 20 19,
 bB 21 [] .ko,
 aa 3 20,
 aa 4 21] [0,2,3,4])
 (.seq
 (.seq
 (.ae [aa 22 0,
 aH 23 22 .len,
 a0 24 (k_ 0)] [0,2,3,4,22,23,24])
 (.block 0
 g188L0))
 (.seq
 (.seq
 (.ae [aa 76 0,
 aH 77 76 .len,
 a0 78 (k_ 0)] [0,2,76,77,78])
 (.block 6
 g188L3))
 (.seq
 (.ae [a8 110 [] (.build [aZ,aZ] []),
 aV 2 110 2 0 2] [2])
 .ret))))),none,false⟩
def g189B1:aw:=
 (.seq
 (.seq
 (.ae [aa 35 8,
 aQ 36 6 2,
 aI 37 36 6 2 1 false,
 aH 38 37 .len,
 aU 39 35 38 (.bin .lss)] [0,2,3,4,5,6,7,8,39])
 (.cond (.t 39)
 .skip
 (.exit 2)))
 (.seq
 (.block 3
 (.ae [aa 42 7,
 aa 43 42,
 aY 44 43 false 6 (.v (.bh 2)),
 aY 45 43 false 44 (.bl 6 2 1 false),
 aY 46 43 false 8 (.v (.mv)),
 cB 47 43 false [.t 45,.t 46] (.v (.slice false 1 false true false)),
 aY 48 43 false 6 (.v (.bh 2)),
 aY 49 43 false 48 (.bl 6 2 1 false),
 aY 50 43 false 8 (.v (.mv)),
 cB 51 43 false [.t 49,.t 50] (.v (.aC 1)),
 aY 52 43 false 51 (.v (.aK 1 false)),
 cB 53 43 false [.t 47,.t 52] (.aA 216),
 cB 54 43 false [.t 53,k_ 0] (.v (.bin .geq)),
 a8 55 [.t 43,T_,.t 54] .pick,
 aa 7 55] [0,2,3,4,5,6,7,8]))
 (.ae [aa 40 8,
 a7 41 40 1 (.bin .add),
 aa 8 41] [0,2,3,4,5,6,7,8])))
def g189L1:aw:=.loop [0,2,3,4,5,6,7,8] g189B1
theorem g189L1e: cl AP g189L1 st=after (cl AP g189L1) (cl AP g189B1 (norm (restrict [0,2,3,4,5,6,7,8] st))):=aG
def g189B2:aw:=
 (.seq
 (.seq
 (.ae [aa 65 9,
 aQ 66 6 3,
 aI 67 66 6 3 1 false,
 aH 68 67 .len,
 aU 69 65 68 (.bin .lss)] [0,2,3,4,5,6,9,69])
 (.cond (.t 69)
 .skip
 (.exit 4)))
 (.seq
 (.block 5
 (.seq
 (.seq
 (.ae [aa 72 4,
 aQ 73 6 3,
 aI 74 73 6 3 1 false,
 aa 75 9,
 aU 76 74 75 (.aC 3),
 aQ 77 76 1,
 aH 78 77 (.aK 1 false),
 bH 79 72 78 (.aA 216),
 a7 80 79 0 (.bin .geq)] [0,2,3,4,5,6,9,80])
 (.cond (.t 80)
 (.seq
 (.ae [aQ 81 6 3,
 aI 82 81 6 3 1 false,
 aa 83 9,
 aU 84 82 83 (.aC 3),
 aQ 85 84 0,
 aH 86 85 (.aK 1 false),
 a8 87 [k_ 6,.t 86] (.build [aZ,aZ] [(0,1),(1,1)]),
 aV 2 87 2 0 2] [2])
 .ret)
 .skip))
 (.ae [aa 88 4,
 aQ 89 6 3,
 aI 90 89 6 3 1 false,
 aa 91 9,
 aU 92 90 91 (.aC 3),
 aQ 93 92 1,
 aH 94 93 (.aK 1 false),
 aH 95 94 (.aT 1),
 bH 96 88 95 (.append 1 16),
 aa 4 96] [0,2,3,4,5,6,9])))
 (.ae [aa 70 9,
 a7 71 70 1 (.bin .add),
 aa 9 71] [0,2,3,4,5,6,9])))
def g189L2:aw:=.loop [0,2,3,4,5,6,9] g189B2
theorem g189L2e: cl AP g189L2 st=after (cl AP g189L2) (cl AP g189B2 (norm (restrict [0,2,3,4,5,6,9] st))):=aG
def g189B0:aw:=
 (.seq
 (.seq
 (.ae [aa 15 5,
 aa 16 0,
 aH 17 16 .len,
 aU 18 15 17 (.bin .lss)] [0,2,3,4,5,18])
 (.cond (.t 18)
 .skip
 (.exit 0)))
 (.seq
 (.block 1
 (.seq
 (.ae [aa 21 0,
 aa 22 5,
 aU 23 21 22 (.aC 4),
 aH 24 23 (.aK 4 true),
 bE 6 Ck,
 aV 6 24 6 0 4] [0,2,3,4,5,6])
 (.seq
 (.ae [aQ 25 6 1,
 aI 26 25 6 1 1 false,
 a8 27 [.t 26,.c (.pv (.str [73,110,116]))] (.bin .eql),
 aa 28 27,
 aY 29 28 false 3 (.v (.mv)),
 aY 30 28 false 6 (.v (.bh 1)),
 aY 31 28 false 30 (.bl 6 1 1 false),
 cB 32 28 false [.t 29,.t 31] (.aA 216),
 cB 33 28 false [.t 32,k_ 0] (.v (.bin .geq)),
 a8 34 [.t 28,T_,.t 33] .pick,
 aa 7 34] [0,2,3,4,5,6,7])
 (.seq
 (.seq
 (.ae [a0 8 (k_ 0)] [0,2,3,4,5,6,7,8])
 (.block 2
 g189L1))
 (.seq
 (.seq
 (.ae [aa 56 7] [0,2,3,4,5,6,56])
 (.cond (.t 56)
 (.seq
 (.ae [aQ 57 6 0,
 aI 58 57 6 0 1 false,
 a8 59 [k_ 6,.t 58] (.build [aZ,aZ] [(0,1),(1,1)]),
 aV 2 59 2 0 2] [2])
 .ret)
 .skip))
 (.seq
 (.ae [aa 60 3,
 aQ 61 6 1,
 aI 62 61 6 1 1 false,
 aH 63 62 (.aT 1),
 bH 64 60 63 (.append 1 16),
 aa 3 64] [0,2,3,4,5,6])
 (.seq
 (.ae [a0 9 (k_ 0)] [0,2,3,4,5,6,9])
 (.block 4
 g189L2))))))))
 (.ae [aa 19 5,
 a7 20 19 1 (.bin .add),
 aa 5 20] [0,2,3,4,5])))
def g189L0:aw:=.loop [0,2,3,4,5] g189B0
theorem g189L0e: cl AP g189L0 st=after (cl AP g189L0) (cl AP g189B0 (norm (restrict [0,2,3,4,5] st))):=aG
def g189B5:aw:=
 (.seq
 (.seq
 (.ae [aa 121 13,
 aQ 122 12 2,
 aI 123 122 12 2 1 false,
 aH 124 123 .len,
 aU 125 121 124 (.bin .lss)] [0,2,10,11,12,13,125])
 (.cond (.t 125)
 .skip
 (.exit 10)))
 (.seq
 (.block 11
 (.seq
 (.ae [aa 128 0,
 aQ 129 12 2,
 aI 130 129 12 2 1 false,
 aa 131 13,
 aU 132 130 131 (.aC 5),
 aH 133 132 (.aK 5 true),
 aa 134 0,
 aa 135 10,
 aU 136 134 135 (.aC 4),
 aQ 137 136 2,
 aH 138 137 (.aK 1 false),
 bB 139 [.t 128,.t 133,.t 138] (.aA 186),
 aa 14 139] [0,2,10,11,12,13,14])
 (.seq
 (.ae [aa 140 14,
 a7 141 140 0 (.bin .neq)] [0,2,10,11,12,13,14,141])
 (.cond (.t 141)
 (.seq
 (.ae [aa 142 14,
 aQ 143 12 0,
 aI 144 143 12 0 1 false,
 aU 145 142 144 (.build [aZ,aZ] [(0,1),(1,1)]),
 aV 2 145 2 0 2] [2])
 .ret)
 .skip))))
 (.ae [aa 126 13,
 a7 127 126 1 (.bin .add),
 aa 13 127] [0,2,10,11,12,13])))
def g189L5:aw:=.loop [0,2,10,11,12,13] g189B5
theorem g189L5e: cl AP g189L5 st=after (cl AP g189L5) (cl AP g189B5 (norm (restrict [0,2,10,11,12,13] st))):=aG
def g189B4:aw:=
 (.seq
 (.seq
 (.ae [aa 103 11,
 aa 104 0,
 aa 105 10,
 aU 106 104 105 (.aC 4),
 aQ 107 106 3,
 aH 108 107 (.aK 1 false),
 aH 109 108 .len,
 aU 110 103 109 (.bin .lss)] [0,2,10,11,110])
 (.cond (.t 110)
 .skip
 (.exit 8)))
 (.seq
 (.block 9
 (.seq
 (.ae [aa 113 0,
 aa 114 10,
 aU 115 113 114 (.aC 4),
 aQ 116 115 3,
 aH 117 116 (.aK 1 false),
 aa 118 11,
 aU 119 117 118 (.aC 3),
 aH 120 119 (.aK 3 true),
 bE 12 [aZ,dP,bO],
 aV 12 120 12 0 3] [0,2,10,11,12])
 (.seq
 (.ae [a0 13 (k_ 0)] [0,2,10,11,12,13])
 (.block 10
 g189L5))))
 (.ae [aa 111 11,
 a7 112 111 1 (.bin .add),
 aa 11 112] [0,2,10,11])))
def g189L4:aw:=.loop [0,2,10,11] g189B4
theorem g189L4e: cl AP g189L4 st=after (cl AP g189L4) (cl AP g189B4 (norm (restrict [0,2,10,11] st))):=aG
def g189B3:aw:=
 (.seq
 (.seq
 (.ae [aa 97 10,
 aa 98 0,
 aH 99 98 .len,
 aU 100 97 99 (.bin .lss)] [0,2,10,100])
 (.cond (.t 100)
 .skip
 (.exit 6)))
 (.seq
 (.block 7
 (.seq
 (.ae [a0 11 (k_ 0)] [0,2,10,11])
 (.block 8
 g189L4)))
 (.ae [aa 101 10,
 a7 102 101 1 (.bin .add),
 aa 10 102] [0,2,10])))
def g189L3:aw:=.loop [0,2,10] g189B3
theorem g189L3e: cl AP g189L3 st=after (cl AP g189L3) (cl AP g189B3 (norm (restrict [0,2,10] st))):=aG
def g189:aJ:=⟨1,147,[.c 2 2 true],
 (.seq
 (.ae [bE 2 [aZ,aZ]] [0,2])
 (.seq
 (.ae [a8 3 [.c (.bD [])] .mv,
 a8 4 [.c (.bD [])] .mv] [0,2,3,4])
 (.seq
 (.seq
 (.ae [a0 5 (k_ 0)] [0,2,3,4,5])
 (.block 0
 g189L0))
 (.seq
 (.seq
 (.ae [a0 10 (k_ 0)] [0,2,10])
 (.block 6
 g189L3))
 (.seq
 (.ae [a8 146 [] (.build [aZ,aZ] []),
 aV 2 146 2 0 2] [2])
 .ret))))),none,false⟩
def g190B1:aw:=
 (.seq
 (.ae [aU 22 21 20 (.bin .lss)] [1,7,11,12,13,19,20,21,22])
 (.seq
 (.cond (.t 22)
 .skip
 (.exit 2))
 (.seq
 (.block 3
 (.seq
 (.ae [aa 23 21,
 aU 24 19 21 (.aC 3),
 aH 25 24 (.aK 3 true),
 bE 10 [aZ,dP,bO],
 aa 9 23,
 aV 10 25 10 0 3] [1,7,9,10,11,12,13,19,20,21])
 (.seq
 (.ae [aQ 26 10 1,
 aI 27 26 10 1 1 false,
 aa 28 1,
 aU 29 27 28 (.bin .eql)] [1,7,9,11,12,13,19,20,21,29])
 (.cond (.t 29)
 (.seq
 (.ae [aa 30 7,
 aa 31 9,
 aa 4 30,
 aa 5 31,
 a0 6 T_] [4,5,6])
 .ret)
 .skip))))
 (.ae [a7 32 21 1 (.bin .add),
 aa 21 32] [1,7,11,12,13,19,20,21]))))
def g190L1:aw:=.loop [1,7,11,12,13,19,20,21] g190B1
theorem g190L1e: cl AP g190L1 st=after (cl AP g190L1) (cl AP g190B1 (norm (restrict [1,7,11,12,13,19,20,21] st))):=aG
def g190B0:aw:=
 (.seq
 (.ae [aU 14 13 12 (.bin .lss)] [1,11,12,13,14])
 (.seq
 (.cond (.t 14)
 .skip
 (.exit 0))
 (.seq
 (.block 1
 (.seq
 (.ae [aa 15 13,
 aU 16 11 13 (.aC 4),
 aH 17 16 (.aK 4 true),
 bE 8 Ck,
 aa 7 15,
 aV 8 17 8 0 4] [1,7,8,11,12,13])
 (.seq
 (.ae [aQ 18 8 3,
 aI 19 18 8 3 1 false,
 aH 20 19 .len,
 a0 21 (k_ 0)] [1,7,11,12,13,19,20,21])
 (.block 2
 g190L1))))
 (.ae [a7 33 13 1 (.bin .add),
 aa 13 33] [1,11,12,13]))))
def g190L0:aw:=.loop [1,11,12,13] g190B0
theorem g190L0e: cl AP g190L0 st=after (cl AP g190L0) (cl AP g190B0 (norm (restrict [1,11,12,13] st))):=aG
def g190:aJ:=⟨2,34,[.t 4,.t 5,.t 6],
 (.seq
 (.ae [a0 4 (k_ 0),
 a0 5 (k_ 0),
 a0 6 F_] [0,1])
 (.seq
 (.seq
 (.ae [aa 11 0,
 aH 12 11 .len,
 a0 13 (k_ 0)] [1,11,12,13])
 (.block 0
 g190L0))
 (.seq
 (.ae [a0 4 (k_ 0),
 a0 5 (k_ 0),
 a0 6 F_] [4,5,6])
 .ret))),none,false⟩
def g191B1:aw:=
 (.seq
 (.seq
 (.ae [aa 15 8,
 aa 16 0,
 aa 17 7,
 aU 18 16 17 (.aC 4),
 aQ 19 18 3,
 aH 20 19 (.aK 1 false),
 aH 21 20 .len,
 aU 22 15 21 (.bin .lss)] [0,1,7,8,22])
 (.cond (.t 22)
 .skip
 (.exit 2)))
 (.seq
 (.block 3
 (.seq
 (.ae [aa 25 0,
 aa 26 7,
 aU 27 25 26 (.aC 4),
 aQ 28 27 3,
 aH 29 28 (.aK 1 false),
 aa 30 8,
 aU 31 29 30 (.aC 3),
 aQ 32 31 1,
 aH 33 32 (.aK 1 false),
 aa 34 1,
 aU 35 33 34 (.bin .eql)] [0,1,7,8,35])
 (.cond (.t 35)
 (.seq
 (.ae [aa 36 7,
 aa 37 8,
 aa 4 36,
 aa 5 37,
 a0 6 T_] [4,5,6])
 .ret)
 .skip)))
 (.ae [aa 23 8,
 a7 24 23 1 (.bin .add),
 aa 8 24] [0,1,7,8])))
def g191L1:aw:=.loop [0,1,7,8] g191B1
theorem g191L1e: cl AP g191L1 st=after (cl AP g191L1) (cl AP g191B1 (norm (restrict [0,1,7,8] st))):=aG
def g191B0:aw:=
 (.seq
 (.seq
 (.ae [aa 9 7,
 aa 10 0,
 aH 11 10 .len,
 aU 12 9 11 (.bin .lss)] [0,1,7,12])
 (.cond (.t 12)
 .skip
 (.exit 0)))
 (.seq
 (.block 1
 (.seq
 (.ae [a0 8 (k_ 0)] [0,1,7,8])
 (.block 2
 g191L1)))
 (.ae [aa 13 7,
 a7 14 13 1 (.bin .add),
 aa 7 14] [0,1,7])))
def g191L0:aw:=.loop [0,1,7] g191B0
theorem g191L0e: cl AP g191L0 st=after (cl AP g191L0) (cl AP g191B0 (norm (restrict [0,1,7] st))):=aG
def g191:aJ:=⟨2,38,[.t 4,.t 5,.t 6],
 (.seq
 (.ae [a0 4 (k_ 0),
 a0 5 (k_ 0),
 a0 6 F_] [0,1])
 (.seq
 (.seq
 (.ae [a0 7 (k_ 0)] [0,1,7])
 (.block 0
 g191L0))
 (.seq
 (.ae [a0 4 (k_ 0),
 a0 5 (k_ 0),
 a0 6 F_] [4,5,6])
 .ret))),none,false⟩
def g193B0:aw:=
 (.seq
 (.seq
 (.ae [aa 39 11,
 a7 40 39 0 (.bin .geq)] [0,4,6,9,10,11,40])
 (.cond (.t 40)
 .skip
 (.exit 0)))
 (.seq
 (.block 1
 (.ae [aa 43 10,
 aa 44 11,
 aU 45 43 44 (.aC 5),
 aH 46 45 (.aK 5 true),
 aa 47 0,
 aa 48 6,
 aU 49 47 48 (.aC 4),
 aQ 50 49 2,
 aH 51 50 (.aK 1 false),
 bH 52 46 51 (.aA 198),
 aI 53 9 9 0 5 true,
 bH 54 52 53 (.aA 69),
 aV 9 54 9 0 5] [0,4,6,9,10,11]))
 (.ae [aa 41 11,
 a7 42 41 1 (.bin .sub),
 aa 11 42] [0,4,6,9,10,11])))
def g193L0:aw:=.loop [0,4,6,9,10,11] g193B0
theorem g193L0e: cl AP g193L0 st=after (cl AP g193L0) (cl AP g193B0 (norm (restrict [0,4,6,9,10,11] st))):=aG
def g193:aJ:=⟨2,63,[.c 4 6 true,.t 5],
 (.seq
 (.ae [bE 4 pW,
 a0 5 F_] [0,1,4])
 (.seq
 (.ae [aa 13 0,
 aa 14 1,
 bH 15 13 14 (.aA 191),
 aa 12 15,
 aH 16 12 (.ext 0),
 aH 17 12 (.ext 1),
 aH 18 12 (.ext 2),
 aa 6 16,
 aa 7 17,
 aa 8 18] [0,4,6,7,8])
 (.seq
 (.seq
 (.ae [aa 19 8,
 aH 20 19 (.un .not)] [0,4,6,7,20])
 (.cond (.t 20)
 (.seq
 (.ae [a8 21 [] (.build pW []),
 aV 4 21 4 0 6,
 a0 5 F_] [4,5])
 .ret)
 .skip))
 (.seq
 (.ae [aa 22 0,
 aa 23 6,
 aU 24 22 23 (.aC 4),
 aH 25 24 (.aK 4 true),
 ba 26 25 (.aA 221),
 bE 9 ez,
 aV 9 26 9 0 5] [0,4,6,7,9])
 (.seq
 (.ae [aa 27 0,
 aa 28 6,
 aU 29 27 28 (.aC 4),
 aQ 30 29 3,
 aH 31 30 (.aK 1 false),
 aa 32 7,
 aU 33 31 32 (.aC 3),
 aQ 34 33 2,
 aH 35 34 (.aK 1 false),
 aa 10 35] [0,4,6,9,10])
 (.seq
 (.seq
 (.ae [aa 36 10,
 aH 37 36 .len,
 a7 38 37 1 (.bin .sub),
 aa 11 38] [0,4,6,9,10,11])
 (.block 0
 g193L0))
 (.seq
 (.ae [aa 55 0,
 aa 56 6,
 aU 57 55 56 (.aC 4),
 aQ 58 57 2,
 aH 59 58 (.aK 1 false),
 aH 60 59 .len,
 aI 61 9 9 0 5 true,
 aU 62 60 61 (.build pW [(0,1),(1,5)]),
 aV 4 62 4 0 6,
 a0 5 T_] [4,5])
 .ret))))))),none,false⟩
def g194:aJ:=⟨1,29,[.c 2 5 true,.c 3 5 true,.t 4],
 (.seq
 (.ae [ba 1 0 (.box 1 5),
 bE 2 ez,
 bE 3 ez,
 a0 4 F_] [1,2,3])
 (.seq
 (.seq
 (.ae [aQ 5 1 0,
 aI 6 5 1 0 1 false,
 a7 7 6 4 (.bin .eql),
 aa 8 7,
 aY 9 8 true 1 (.v (.bh 1)),
 aY 10 8 true 9 (.bl 1 1 1 false),
 cB 11 8 true [.t 10,.c (.pv (.str [45,62]))] (.v (.bin .eql)),
 a8 12 [.t 8,.t 11,F_] .pick,
 aa 13 12,
 aY 14 13 true 1 (.v (.bh 4)),
 aY 15 13 true 14 (.bl 1 4 1 false),
 aY 16 13 true 15 (.v (.len)),
 cB 17 13 true [.t 16,k_ 2] (.v (.bin .eql)),
 a8 18 [.t 13,.t 17,F_] .pick] [1,2,3,18])
 (.cond (.t 18)
 (.seq
 (.ae [aQ 19 1 4,
 aI 20 19 1 4 1 false,
 a7 21 20 0 (.aC 5),
 aH 22 21 (.aK 5 true),
 aQ 23 1 4,
 aI 24 23 1 4 1 false,
 a7 25 24 1 (.aC 5),
 aH 26 25 (.aK 5 true),
 aV 2 22 2 0 5,
 aV 3 26 3 0 5,
 a0 4 T_] [2,3,4])
 .ret)
 .skip))
 (.seq
 (.ae [a8 27 [] (.build ez []),
 a8 28 [] (.build ez []),
 aV 2 27 2 0 5,
 aV 3 28 3 0 5,
 a0 4 F_] [2,3,4])
 .ret))),none,false⟩
def g195B1:aw:=
 (.seq
 (.ae [aU 27 26 25 (.bin .lss)] [3,17,18,19,24,25,26,27])
 (.seq
 (.cond (.t 27)
 .skip
 (.exit 2))
 (.seq
 (.block 3
 (.seq
 (.ae [aU 28 24 26 (.aC 1),
 aH 29 28 (.aK 1 false),
 aa 7 29] [3,7,17,18,19,24,25,26])
 (.seq
 (.ae [aa 30 3,
 aa 31 7,
 bH 32 30 31 (.aA 214),
 aH 33 32 (.un .not)] [3,7,17,18,19,24,25,26,33])
 (.cond (.t 33)
 (.ae [aa 34 3,
 aa 35 7,
 aH 36 35 (.aT 1),
 bH 37 34 36 (.append 1 16),
 aa 3 37] [3,17,18,19,24,25,26])
 .skip))))
 (.ae [a7 38 26 1 (.bin .add),
 aa 26 38] [3,17,18,19,24,25,26]))))
def g195L1:aw:=.loop [3,17,18,19,24,25,26] g195B1
theorem g195L1e: cl AP g195L1 st=after (cl AP g195L1) (cl AP g195B1 (norm (restrict [3,17,18,19,24,25,26] st))):=aG
def g195B0:aw:=
 (.seq
 (.ae [aU 20 19 18 (.bin .lss)] [3,17,18,19,20])
 (.seq
 (.cond (.t 20)
 .skip
 (.exit 0))
 (.seq
 (.block 1
 (.seq
 (.ae [aU 21 17 19 (.aC 5),
 aH 22 21 (.aK 5 true),
 bE 5 ez,
 aV 5 22 5 0 5] [3,5,17,18,19])
 (.seq
 (.ae [aI 23 5 5 0 5 true,
 ba 24 23 (.aA 195),
 aH 25 24 .len,
 a0 26 (k_ 0)] [3,17,18,19,24,25,26])
 (.block 2
 g195L1))))
 (.ae [a7 39 19 1 (.bin .add),
 aa 19 39] [3,17,18,19]))))
def g195L0:aw:=.loop [3,17,18,19] g195B0
theorem g195L0e: cl AP g195L0 st=after (cl AP g195L0) (cl AP g195B0 (norm (restrict [3,17,18,19] st))):=aG
def g195:aJ:=⟨1,41,[.t 2],
 (.seq
 (.ae [ba 1 0 (.box 1 5),
 a8 2 [.c (.bD [])] .mv] [1])
 (.seq
 (.ae [a8 3 [.c (.bD [])] .mv] [1,3])
 (.seq
 (.seq
 (.ae [aQ 8 1 0,
 aI 9 8 1 0 1 false,
 a7 10 9 5 (.bin .eql)] [1,3,10])
 (.cond (.t 10)
 (.seq
 (.ae [aa 11 3,
 aQ 12 1 1,
 aI 13 12 1 1 1 false,
 aH 14 13 (.aT 1),
 bH 15 11 14 (.append 1 16),
 aa 2 15] [2])
 .ret)
 .skip))
 (.seq
 (.seq
 (.ae [aQ 16 1 4,
 aI 17 16 1 4 1 false,
 aH 18 17 .len,
 a0 19 (k_ 0)] [3,17,18,19])
 (.block 0
 g195L0))
 (.seq
 (.ae [aa 40 3,
 aa 2 40] [2])
 .ret))))),none,false⟩
def g196:aJ:=⟨1,5,[.t 2],
 (.seq
 (.ae [ba 1 0 (.box 1 5),
 a8 2 [.c (.bD [])] .mv] [1])
 (.seq
 (.ae [aI 3 1 1 0 5 true,
 bB 4 [.c (.bD []),.t 3] (.aL 222 [0]),
 aa 2 4] [2])
 .ret)),none,false⟩
def g198B0:aw:=
 (.seq
 (.seq
 (.ae [aa 22 7,
 aQ 23 2 4,
 aI 24 23 2 4 1 false,
 aH 25 24 .len,
 aU 26 22 25 (.bin .lss)] [1,2,4,6,7,26])
 (.cond (.t 26)
 .skip
 (.exit 0)))
 (.seq
 (.block 1
 (.ae [aQ 29 6 4,
 aI 30 29 6 4 1 false,
 aQ 31 2 4,
 aI 32 31 2 4 1 false,
 aa 33 7,
 aU 34 32 33 (.aC 5),
 aH 35 34 (.aK 5 true),
 aa 36 1,
 bH 37 35 36 (.aA 198),
 aH 38 37 (.aT 5),
 bH 39 30 38 (.append 5 64),
 aQ 40 6 4,
 aV 40 39 6 4 1] [1,2,4,6,7]))
 (.ae [aa 27 7,
 a7 28 27 1 (.bin .add),
 aa 7 28] [1,2,4,6,7])))
def g198L0:aw:=.loop [1,2,4,6,7] g198B0
theorem g198L0e: cl AP g198L0 st=after (cl AP g198L0) (cl AP g198B0 (norm (restrict [1,2,4,6,7] st))):=aG
def g198:aJ:=⟨2,42,[.c 4 5 true],
 (.seq
 (.ae [ba 2 0 (.box 2 5),
 bE 4 ez] [1,2,4])
 (.seq
 (.seq
 (.ae [aQ 8 2 0,
 aI 9 8 2 0 1 false,
 a7 10 9 5 (.bin .eql)] [1,2,4,10])
 (.cond (.t 10)
 (.seq
 (.seq
 (.ae [aa 11 1,
 aQ 12 2 1,
 aI 13 12 2 1 1 false,
 bH 14 11 13 (.aA 216),
 aa 5 14] [2,4,5])
 (.seq
 (.ae [aa 15 5,
 a7 16 15 0 (.bin .geq)] [2,4,5,16])
 (.cond (.t 16)
 (.seq
 (.ae [aa 17 5,
 ba 18 17 (.aA 72),
 aV 4 18 4 0 5] [4])
 .ret)
 .skip)))
 (.seq
 (.ae [aI 19 2 2 0 5 true,
 aV 4 19 4 0 5] [4])
 .ret))
 .skip))
 (.seq
 (.ae [aI 20 2 2 0 5 true,
 bE 6 ez,
 aV 6 20 6 0 5] [1,2,4,6])
 (.seq
 (.ae [aQ 21 6 4,
 jX [.t 21,.c (.bD [])] (.dc 6 4 1)] [1,2,4,6])
 (.seq
 (.seq
 (.ae [a0 7 (k_ 0)] [1,2,4,6,7])
 (.block 0
 g198L0))
 (.seq
 (.ae [aI 41 6 6 0 5 true,
 aV 4 41 4 0 5] [4])
 .ret)))))),none,false⟩
def g201B0:aw:=
 (.seq
 (.seq
 (.ae [aa 7 4,
 aa 8 0,
 aH 9 8 .len,
 aU 10 7 9 (.bin .lss)] [0,3,4,10])
 (.cond (.t 10)
 .skip
 (.exit 0)))
 (.seq
 (.block 1
 (.seq
 (.ae [aa 14 0,
 aa 15 4,
 a7 16 15 1 (.bin .add),
 aU 17 14 16 (.slice false 7 true false false),
 aa 18 0,
 aa 19 4,
 aU 20 18 19 (.aC 7),
 aQ 21 20 0,
 aH 22 21 (.aK 1 false),
 bH 23 17 22 (.aA 181),
 aa 13 23,
 aH 24 13 (.ext 0),
 aH 25 13 (.ext 1),
 bE 5 pW,
 aV 5 24 5 0 6,
 aa 6 25] [0,3,4,6])
 (.seq
 (.ae [aa 26 6,
 aH 27 26 (.un .not)] [0,3,4,27])
 (.cond (.t 27)
 (.ae [aa 28 3,
 aa 29 0,
 aa 30 4,
 aU 31 29 30 (.aC 7),
 aH 32 31 (.aK 7 true),
 aH 33 32 (.aT 7),
 bH 34 28 33 (.append 7 88),
 aa 3 34] [0,3,4])
 .skip))))
 (.ae [aa 11 4,
 a7 12 11 1 (.bin .add),
 aa 4 12] [0,3,4])))
def g201L0:aw:=.loop [0,3,4] g201B0
theorem g201L0e: cl AP g201L0 st=after (cl AP g201L0) (cl AP g201B0 (norm (restrict [0,3,4] st))):=aG
def g201:aJ:=⟨1,36,[.t 2],
 (.seq
 (.ae [a8 2 [.c (.bD [])] .mv] [0])
 (.seq
 (.ae [a8 3 [.c (.bD [])] .mv] [0,3])
 (.seq
 (.seq
 (.ae [a0 4 (k_ 0)] [0,3,4])
 (.block 0
 g201L0))
 (.seq
 (.ae [aa 35 3,
 aa 2 35] [2])
 .ret)))),none,false⟩
def g207B0:aw:=
 (.seq
 (.seq
 (.ae [aa 43 13,
 aa 44 12,
 aH 45 44 .len,
 aU 46 43 45 (.bin .lss)] [0,2,8,11,12,13,46])
 (.cond (.t 46)
 .skip
 (.exit 0)))
 (.seq
 (.block 1
 (.ae [aa 49 11,
 aa 50 12,
 aa 51 13,
 aU 52 50 51 (.aC 5),
 aH 53 52 (.aK 5 true),
 aa 54 0,
 aa 55 8,
 aU 56 54 55 (.aC 4),
 aQ 57 56 2,
 aH 58 57 (.aK 1 false),
 bH 59 53 58 (.aA 198),
 aa 60 2,
 bH 61 59 60 (.aA 48),
 aH 62 61 (.aT 5),
 bH 63 49 62 (.append 5 64),
 aa 11 63] [0,2,8,11,12,13]))
 (.ae [aa 47 13,
 a7 48 47 1 (.bin .add),
 aa 13 48] [0,2,8,11,12,13])))
def g207L0:aw:=.loop [0,2,8,11,12,13] g207B0
theorem g207L0e: cl AP g207L0 st=after (cl AP g207L0) (cl AP g207B0 (norm (restrict [0,2,8,11,12,13] st))):=aG
def g207:aJ:=⟨3,65,[.t 6,.t 7],
 (.seq
 (.ae [a8 6 [.c (.bD [])] .mv,
 a0 7 F_] [0,1,2])
 (.seq
 (.ae [aa 15 0,
 aa 16 1,
 bH 17 15 16 (.aA 191),
 aa 14 17,
 aH 18 14 (.ext 0),
 aH 19 14 (.ext 1),
 aH 20 14 (.ext 2),
 aa 8 18,
 aa 9 19,
 aa 10 20] [0,2,8,9,10])
 (.seq
 (.seq
 (.ae [aa 21 10,
 aH 22 21 (.un .not),
 aa 23 22,
 aY 24 23 false 2 (.v (.mv)),
 aY 25 23 false 24 (.v (.len)),
 aY 26 23 false 0 (.v (.mv)),
 aY 27 23 false 8 (.v (.mv)),
 cB 28 23 false [.t 26,.t 27] (.v (.aC 4)),
 aY 29 23 false 28 (.v (.bh 2)),
 aY 30 23 false 29 (.v (.aK 1 false)),
 aY 31 23 false 30 (.v (.len)),
 cB 32 23 false [.t 25,.t 31] (.v (.bin .neq)),
 a8 33 [.t 23,T_,.t 32] .pick] [0,2,8,9,33])
 (.cond (.t 33)
 (.seq
 (.ae [a8 6 [.c (.bD [])] .mv,
 a0 7 F_] [6,7])
 .ret)
 .skip))
 (.seq
 (.ae [a8 11 [.c (.bD [])] .mv] [0,2,8,9,11])
 (.seq
 (.ae [aa 34 0,
 aa 35 8,
 aU 36 34 35 (.aC 4),
 aQ 37 36 3,
 aH 38 37 (.aK 1 false),
 aa 39 9,
 aU 40 38 39 (.aC 3),
 aQ 41 40 2,
 aH 42 41 (.aK 1 false),
 aa 12 42] [0,2,8,11,12])
 (.seq
 (.seq
 (.ae [a0 13 (k_ 0)] [0,2,8,11,12,13])
 (.block 0
 g207L0))
 (.seq
 (.ae [aa 64 11,
 aa 6 64,
 a0 7 T_] [6,7])
 .ret))))))),none,false⟩
def g208B0:aw:=
 (.seq
 (.seq
 (.ae [aa 11 7,
 aa 12 5,
 aH 13 12 .len,
 aU 14 11 13 (.bin .lss)] [1,2,4,5,6,7,14])
 (.cond (.t 14)
 .skip
 (.exit 0)))
 (.seq
 (.block 1
 (.seq
 (.ae [aa 17 1,
 aa 18 5,
 aa 19 7,
 aU 20 18 19 (.aC 1),
 aH 21 20 (.aK 1 false),
 bH 22 17 21 (.aA 95)] [1,2,4,5,6,7,22])
 (.cond (.t 22)
 (.ae [aa 23 6,
 aa 24 5,
 aa 25 7,
 aU 26 24 25 (.aC 1),
 aH 27 26 (.aK 1 false),
 aa 28 6,
 aH 29 28 .len,
 ba 30 29 (.aA 72),
 aU 31 27 30 (.build pW [(0,1),(1,5)]),
 aH 32 31 (.aT 6),
 bH 33 23 32 (.append 6 72),
 aa 6 33] [1,2,4,5,6,7])
 .skip)))
 (.ae [aa 15 7,
 a7 16 15 1 (.bin .add),
 aa 7 16] [1,2,4,5,6,7])))
def g208L0:aw:=.loop [1,2,4,5,6,7] g208B0
theorem g208L0e: cl AP g208L0 st=after (cl AP g208L0) (cl AP g208B0 (norm (restrict [1,2,4,5,6,7] st))):=aG
def g208:aJ:=⟨2,40,[.c 4 6 true],
 (.seq
 (.ae [ba 2 0 (.box 2 5),
 bE 4 pW] [1,2,4])
 (.seq
 (.ae [aI 8 2 2 0 5 true,
 aH 9 8 (.aT 5),
 ba 10 9 (.aA 56),
 aa 5 10] [1,2,4,5])
 (.seq
 (.ae [a8 6 [.c (.bD [])] .mv] [1,2,4,5,6])
 (.seq
 (.seq
 (.ae [a0 7 (k_ 0)] [1,2,4,5,6,7])
 (.block 0
 g208L0))
 (.seq
 (.ae [aa 34 6,
 aH 35 34 .len,
 aI 36 2 2 0 5 true,
 aa 37 6,
 bH 38 36 37 (.aA 46),
 aU 39 35 38 (.build pW [(0,1),(1,5)]),
 aV 4 39 4 0 6] [4])
 .ret))))),none,false⟩
def g214:aJ:=⟨2,9,[.t 4],
 (.seq
 (.ae [a0 4 F_] [0,1])
 (.seq
 (.ae [aa 5 0,
 aa 6 1,
 bH 7 5 6 (.aA 223),
 a7 8 7 0 (.bin .geq),
 aa 4 8] [4])
 .ret)),none,false⟩
def g215B0:aw:=
 (.seq
 (.ae [aU 16 15 14 (.bin .lss)] [1,13,14,15,16])
 (.seq
 (.cond (.t 16)
 .skip
 (.exit 1))
 (.seq
 (.block 2
 (.seq
 (.ae [aU 17 13 15 (.aC 4),
 aH 18 17 (.aK 4 true),
 bE 7 Ck,
 aV 7 18 7 0 4] [1,7,13,14,15])
 (.seq
 (.ae [aQ 19 7 1,
 aI 20 19 7 1 1 false,
 aa 21 1,
 aU 22 20 21 (.bin .eql)] [1,7,13,14,15,22])
 (.cond (.t 22)
 (.seq
 (.ae [aQ 23 7 2,
 aI 24 23 7 2 1 false,
 aH 25 24 .len,
 aa 4 25,
 a0 5 T_] [4,5])
 .ret)
 .skip))))
 (.ae [a7 26 15 1 (.bin .add),
 aa 15 26] [1,13,14,15]))))
def g215L0:aw:=.loop [1,13,14,15] g215B0
theorem g215L0e: cl AP g215L0 st=after (cl AP g215L0) (cl AP g215B0 (norm (restrict [1,13,14,15] st))):=aG
def g215:aJ:=⟨2,27,[.t 4,.t 5],
 (.seq
 (.ae [a0 4 (k_ 0),
 a0 5 F_] [0,1])
 (.seq
 (.seq
 (.ae [aa 8 1] [0,1,8])
 (.block 0
 (.seq
 (.ae [a8 10 [.t 8,.c (.pv (.str [73,110,116]))] (.bin .eql),
 aa 9 10] [0,1,8,9])
 (.cond (.t 9)
 (.seq
 (.ae [a0 4 (k_ 0),
 a0 5 T_] [4,5])
 .ret)
 (.seq
 (.ae [a8 12 [.t 8,.c (.pv (.str [45,62]))] (.bin .eql),
 aa 11 12] [0,1,11])
 (.cond (.t 11)
 (.seq
 (.ae [a0 4 (k_ 2),
 a0 5 T_] [4,5])
 .ret)
 .skip))))))
 (.seq
 (.seq
 (.ae [aa 13 0,
 aH 14 13 .len,
 a0 15 (k_ 0)] [1,13,14,15])
 (.block 1
 g215L0))
 (.seq
 (.ae [a0 4 (k_ 0),
 a0 5 F_] [4,5])
 .ret)))),none,false⟩
def g216B0:aw:=
 (.seq
 (.seq
 (.ae [aa 6 5,
 aa 7 0,
 aH 8 7 .len,
 aU 9 6 8 (.bin .lss)] [0,1,5,9])
 (.cond (.t 9)
 .skip
 (.exit 0)))
 (.seq
 (.block 1
 (.seq
 (.ae [aa 12 0,
 aa 13 5,
 aU 14 12 13 (.aC 1),
 aH 15 14 (.aK 1 false),
 aa 16 1,
 aU 17 15 16 (.bin .eql)] [0,1,5,17])
 (.cond (.t 17)
 (.seq
 (.ae [aa 18 5,
 aa 4 18] [4])
 .ret)
 .skip)))
 (.ae [aa 10 5,
 a7 11 10 1 (.bin .add),
 aa 5 11] [0,1,5])))
def g216L0:aw:=.loop [0,1,5] g216B0
theorem g216L0e: cl AP g216L0 st=after (cl AP g216L0) (cl AP g216B0 (norm (restrict [0,1,5] st))):=aG
def g216:aJ:=⟨2,19,[.t 4],
 (.seq
 (.ae [a0 4 (k_ 0)] [0,1])
 (.seq
 (.seq
 (.ae [a0 5 (k_ 0)] [0,1,5])
 (.block 0
 g216L0))
 (.seq
 (.ae [a0 4 (k_ (-1))] [4])
 .ret))),none,false⟩
def g217B0:aw:=
 (.seq
 (.seq
 (.ae [aa 12 6,
 aa 13 0,
 aH 14 13 .len,
 aU 15 12 14 (.bin .lss)] [0,1,6,15])
 (.cond (.t 15)
 .skip
 (.exit 1)))
 (.seq
 (.block 2
 (.seq
 (.ae [aa 18 0,
 aa 19 6,
 aU 20 18 19 (.aC 4),
 aQ 21 20 1,
 aH 22 21 (.aK 1 false),
 aa 23 1,
 aU 24 22 23 (.bin .eql)] [0,1,6,24])
 (.cond (.t 24)
 (.seq
 (.ae [aa 25 0,
 aa 26 6,
 aU 27 25 26 (.aC 4),
 aQ 28 27 2,
 aH 29 28 (.aK 1 false),
 aH 30 29 .len,
 aa 4 30,
 a0 5 T_] [4,5])
 .ret)
 .skip)))
 (.ae [aa 16 6,
 a7 17 16 1 (.bin .add),
 aa 6 17] [0,1,6])))
def g217L0:aw:=.loop [0,1,6] g217B0
theorem g217L0e: cl AP g217L0 st=after (cl AP g217L0) (cl AP g217B0 (norm (restrict [0,1,6] st))):=aG
def g217:aJ:=⟨2,31,[.t 4,.t 5],
 (.seq
 (.ae [a0 4 (k_ 0),
 a0 5 F_] [0,1])
 (.seq
 (.seq
 (.ae [aa 7 1] [0,1,7])
 (.block 0
 (.seq
 (.ae [a8 9 [.t 7,.c (.pv (.str [73,110,116]))] (.bin .eql),
 aa 8 9] [0,1,7,8])
 (.cond (.t 8)
 (.seq
 (.ae [a0 4 (k_ 0),
 a0 5 T_] [4,5])
 .ret)
 (.seq
 (.ae [a8 11 [.t 7,.c (.pv (.str [45,62]))] (.bin .eql),
 aa 10 11] [0,1,10])
 (.cond (.t 10)
 (.seq
 (.ae [a0 4 (k_ 2),
 a0 5 T_] [4,5])
 .ret)
 .skip))))))
 (.seq
 (.seq
 (.ae [a0 6 (k_ 0)] [0,1,6])
 (.block 1
 g217L0))
 (.seq
 (.ae [a0 4 (k_ 0),
 a0 5 F_] [4,5])
 .ret)))),none,false⟩
def g221B0:aw:=
 (.seq
 (.seq
 (.ae [aa 5 4,
 aQ 6 1 2,
 aI 7 6 1 2 1 false,
 aH 8 7 .len,
 aU 9 5 8 (.bin .lss)] [1,2,3,4,9])
 (.cond (.t 9)
 .skip
 (.exit 0)))
 (.seq
 (.block 1
 (.ae [aa 12 3,
 aa 13 4,
 ba 14 13 (.aA 72),
 aH 15 14 (.aT 5),
 bH 16 12 15 (.append 5 64),
 aa 3 16] [1,2,3,4]))
 (.ae [aa 10 4,
 a7 11 10 1 (.bin .add),
 aa 4 11] [1,2,3,4])))
def g221L0:aw:=.loop [1,2,3,4] g221B0
theorem g221L0e: cl AP g221L0 st=after (cl AP g221L0) (cl AP g221B0 (norm (restrict [1,2,3,4] st))):=aG
def g221:aJ:=⟨1,21,[.c 2 5 true],
 (.seq
 (.ae [ba 1 0 (.box 1 4),
 bE 2 ez] [1,2])
 (.seq
 (.ae [a8 3 [.c (.bD [])] .mv] [1,2,3])
 (.seq
 (.seq
 (.ae [a0 4 (k_ 0)] [1,2,3,4])
 (.block 0
 g221L0))
 (.seq
 (.ae [aQ 17 1 1,
 aI 18 17 1 1 1 false,
 aa 19 3,
 bH 20 18 19 (.aA 62),
 aV 2 20 2 0 5] [2])
 .ret)))),none,false⟩
def g222B0:aw:=
 (.seq
 (.seq
 (.ae [aa 21 5,
 aQ 22 3 4,
 aI 23 22 3 4 1 false,
 aH 24 23 .len,
 aU 25 21 24 (.bin .lss)] [0,3,5,25])
 (.cond (.t 25)
 .skip
 (.exit 0)))
 (.seq
 (.block 1
 (.ae [aa 28 0,
 aQ 29 3 4,
 aI 30 29 3 4 1 false,
 aa 31 5,
 aU 32 30 31 (.aC 5),
 aH 33 32 (.aK 5 true),
 bH 34 28 33 (.aL 222 [0]),
 aa 0 34] [0,3,5]))
 (.ae [aa 26 5,
 a7 27 26 1 (.bin .add),
 aa 5 27] [0,3,5])))
def g222L0:aw:=.loop [0,3,5] g222B0
theorem g222L0e: cl AP g222L0 st=after (cl AP g222L0) (cl AP g222B0 (norm (restrict [0,3,5] st))):=aG
def g222:aJ:=⟨2,36,[.t 4],
 (.seq
 (.ae [ba 3 1 (.box 3 5),
 a8 4 [.c (.bD [])] .mv] [0,3])
 (.seq
 (.seq
 (.ae [aQ 6 3 0,
 aI 7 6 3 0 1 false,
 a7 8 7 5 (.bin .eql),
 aa 9 8,
 aY 10 9 true 0 (.v (.mv)),
 aY 11 9 true 3 (.v (.bh 1)),
 aY 12 9 true 11 (.bl 3 1 1 false),
 cB 13 9 true [.t 10,.t 12] (.aA 216),
 cB 14 9 true [.t 13,k_ 0] (.v (.bin .lss)),
 a8 15 [.t 9,.t 14,F_] .pick] [0,3,15])
 (.cond (.t 15)
 (.ae [aa 16 0,
 aQ 17 3 1,
 aI 18 17 3 1 1 false,
 aH 19 18 (.aT 1),
 bH 20 16 19 (.append 1 16),
 aa 0 20] [0,3])
 .skip))
 (.seq
 (.seq
 (.ae [a0 5 (k_ 0)] [0,3,5])
 (.block 0
 g222L0))
 (.seq
 (.ae [aa 35 0,
 aa 4 35] [4])
 .ret)))),none,false⟩
def g223B0:aw:=
 (.seq
 (.ae [aU 9 8 7 (.bin .lss)] [0,1,7,8,9])
 (.seq
 (.cond (.t 9)
 .skip
 (.exit 0))
 (.seq
 (.block 1
 (.seq
 (.ae [aa 10 8,
 aa 5 10] [0,1,5,7,8])
 (.seq
 (.ae [aa 11 1,
 aa 12 0,
 aa 13 5,
 aU 14 12 13 (.aC 1),
 aH 15 14 (.aK 1 false),
 aU 16 11 15 (.bin .eql)] [0,1,5,7,8,16])
 (.cond (.t 16)
 (.seq
 (.ae [aa 17 5,
 aa 4 17] [4])
 .ret)
 .skip))))
 (.ae [a7 18 8 1 (.bin .add),
 aa 8 18] [0,1,7,8]))))
def g223L0:aw:=.loop [0,1,7,8] g223B0
theorem g223L0e: cl AP g223L0 st=after (cl AP g223L0) (cl AP g223B0 (norm (restrict [0,1,7,8] st))):=aG
def g223:aJ:=⟨2,19,[.t 4],
 (.seq
 (.ae [a0 4 (k_ 0)] [0,1])
 (.seq
 (.seq
 (.ae [aa 6 0,
 aH 7 6 .len,
 a0 8 (k_ 0)] [0,1,7,8])
 (.block 0
 g223L0))
 (.seq
 (.ae [a0 4 (k_ (-1))] [4])
 .ret))),none,false⟩
def g238:aJ:=⟨2,20,[.t 4,.t 5],
 (.seq
 (.ae [ba 2 0 (.box 2 6),
 ba 3 1 (.box 3 5),
 a8 4 [.c (.bD [])] .mv,
 a0 5 F_] [2,3])
 (.seq
 (.ae [aQ 7 2 0,
 aI 8 7 2 0 1 false,
 bH 9 8 8 (.jm 5 64 true [.int .i64 0,.str [],.int .i64 0,.int .i64 0,.aD []]),
 aa 6 9] [2,3,6])
 (.seq
 (.seq
 (.ae [aQ 10 2 1,
 aI 11 10 2 1 5 true,
 aI 12 3 3 0 5 true,
 aa 13 6,
 aQ 14 2 0,
 aI 15 14 2 0 1 false,
 bH 16 15 15 (.jm 1 1 false [.bool false]),
 bB 17 [.t 11,.t 12,.t 13,.t 16] (.aL 240 []),
 aH 18 17 (.un .not)] [6,18])
 (.cond (.t 18)
 (.seq
 (.ae [a8 4 [.c (.bD [])] .mv,
 a0 5 F_] [4,5])
 .ret)
 .skip))
 (.seq
 (.ae [aa 19 6,
 aa 4 19,
 a0 5 T_] [4,5])
 .ret)))),none,false⟩
def g240B0:aw:=
 (.seq
 (.seq
 (.ae [aa 76 9,
 aQ 77 4 4,
 aI 78 77 4 4 1 false,
 aH 79 78 .len,
 aU 80 76 79 (.bin .lss)] [2,3,4,5,9,80])
 (.cond (.t 80)
 .skip
 (.exit 0)))
 (.seq
 (.block 1
 (.seq
 (.ae [aQ 83 4 4,
 aI 84 83 4 4 1 false,
 aa 85 9,
 aU 86 84 85 (.aC 5),
 aH 87 86 (.aK 5 true),
 aQ 88 5 4,
 aI 89 88 5 4 1 false,
 aa 90 9,
 aU 91 89 90 (.aC 5),
 aH 92 91 (.aK 5 true),
 aa 93 2,
 aa 94 3,
 bB 95 [.t 87,.t 92,.t 93,.t 94] (.aL 240 []),
 aH 96 95 (.un .not)] [2,3,4,5,9,96])
 (.cond (.t 96)
 (.seq
 (.ae [a0 8 F_] [8])
 .ret)
 .skip)))
 (.ae [aa 81 9,
 a7 82 81 1 (.bin .add),
 aa 9 82] [2,3,4,5,9])))
def g240L0:aw:=.loop [2,3,4,5,9] g240B0
theorem g240L0e: cl AP g240L0 st=after (cl AP g240L0) (cl AP g240B0 (norm (restrict [2,3,4,5,9] st))):=aG
def g240:aJ:=⟨4,97,[.t 8],
 (.seq
 (.ae [ba 4 0 (.box 4 5),
 ba 5 1 (.box 5 5),
 a0 8 F_] [2,3,4,5])
 (.seq
 (.seq
 (.ae [aQ 10 4 0,
 aI 11 10 4 0 1 false,
 a7 12 11 2 (.bin .eql),
 aa 13 12,
 aY 14 13 true 4 (.v (.bh 2)),
 aY 15 13 true 14 (.bl 4 2 1 false),
 aY 16 13 true 2 (.v (.mv)),
 aY 17 13 true 16 (.v (.len)),
 cB 18 13 true [.t 15,.t 17] (.v (.bin .lss)),
 a8 19 [.t 13,.t 18,F_] .pick] [2,3,4,5,19])
 (.cond (.t 19)
 (.seq
 (.seq
 (.ae [aa 20 3,
 aQ 21 4 2,
 aI 22 21 4 2 1 false,
 aU 23 20 22 (.aC 1),
 ba 24 23 (.a6 1 false)] [2,3,4,5,24])
 (.cond (.t 24)
 (.seq
 (.ae [aa 25 2,
 aQ 26 4 2,
 aI 27 26 4 2 1 false,
 aU 28 25 27 (.aC 5),
 ba 29 28 (.a6 5 true),
 aI 30 5 5 0 5 true,
 bH 31 29 30 (.aA 20),
 aa 8 31] [8])
 .ret)
 .skip))
 (.seq
 (.ae [aa 32 2,
 aQ 33 4 2,
 aI 34 33 4 2 1 false,
 aa 35 3,
 aQ 36 4 2,
 aI 37 36 4 2 1 false,
 aI 38 5 5 0 5 true,
 aU 39 32 34 (.aC 5),
 jX [.t 39,.t 38] (.cz 5),
 aU 40 35 37 (.aC 1),
 jX [.t 40,T_] (.cz 1)] [])
 (.seq
 (.ae [a0 8 T_] [8])
 .ret)))
 .skip))
 (.seq
 (.seq
 (.ae [aQ 41 4 0,
 aI 42 41 4 0 1 false,
 aQ 43 5 0,
 aI 44 43 5 0 1 false,
 aU 45 42 44 (.bin .neq),
 aa 46 45,
 aY 47 46 false 4 (.v (.bh 1)),
 aY 48 46 false 47 (.bl 4 1 1 false),
 aY 49 46 false 5 (.v (.bh 1)),
 aY 50 46 false 49 (.bl 5 1 1 false),
 cB 51 46 false [.t 48,.t 50] (.v (.bin .neq)),
 a8 52 [.t 46,T_,.t 51] .pick,
 aa 53 52,
 aY 54 53 false 4 (.v (.bh 2)),
 aY 55 53 false 54 (.bl 4 2 1 false),
 aY 56 53 false 5 (.v (.bh 2)),
 aY 57 53 false 56 (.bl 5 2 1 false),
 cB 58 53 false [.t 55,.t 57] (.v (.bin .neq)),
 a8 59 [.t 53,T_,.t 58] .pick,
 aa 60 59,
 aY 61 60 false 4 (.v (.bh 3)),
 aY 62 60 false 61 (.bl 4 3 1 false),
 aY 63 60 false 5 (.v (.bh 3)),
 aY 64 60 false 63 (.bl 5 3 1 false),
 cB 65 60 false [.t 62,.t 64] (.v (.bin .neq)),
 a8 66 [.t 60,T_,.t 65] .pick,
 aa 67 66,
 aY 68 67 false 4 (.v (.bh 4)),
 aY 69 67 false 68 (.bl 4 4 1 false),
 aY 70 67 false 69 (.v (.len)),
 aY 71 67 false 5 (.v (.bh 4)),
 aY 72 67 false 71 (.bl 5 4 1 false),
 aY 73 67 false 72 (.v (.len)),
 cB 74 67 false [.t 70,.t 73] (.v (.bin .neq)),
 a8 75 [.t 67,T_,.t 74] .pick] [2,3,4,5,75])
 (.cond (.t 75)
 (.seq
 (.ae [a0 8 F_] [8])
 .ret)
 .skip))
 (.seq
 (.seq
 (.ae [a0 9 (k_ 0)] [2,3,4,5,9])
 (.block 0
 g240L0))
 (.seq
 (.ae [a0 8 T_] [8])
 .ret))))),none,false⟩
def g247B1:aw:=
 (.seq
 (.seq
 (.ae [aa 171 17,
 aQ 172 13 3,
 aI 173 172 13 3 1 false,
 aa 174 15,
 aU 175 173 174 (.aC 3),
 aQ 176 175 2,
 aH 177 176 (.aK 1 false),
 aH 178 177 .len,
 aU 179 171 178 (.bin .lss)] [0,1,2,6,13,14,15,16,17,179])
 (.cond (.t 179)
 .skip
 (.exit 3)))
 (.seq
 (.block 4
 (.ae [aQ 182 16 2,
 aI 183 182 16 2 1 false,
 aa 184 0,
 ba 185 184 (.aL 175 []),
 aH 186 185 (.aT 1),
 bH 187 183 186 (.append 1 16),
 aQ 188 16 2,
 aV 188 187 16 2 1] [0,1,2,6,13,14,15,16,17]))
 (.ae [aa 180 17,
 a7 181 180 1 (.bin .add),
 aa 17 181] [0,1,2,6,13,14,15,16,17])))
def g247L1:aw:=.loop [0,1,2,6,13,14,15,16,17] g247B1
theorem g247L1e: cl AP g247L1 st=after (cl AP g247L1) (cl AP g247B1 (norm (restrict [0,1,2,6,13,14,15,16,17] st))):=aG
def g247B0:aw:=
 (.seq
 (.seq
 (.ae [aa 157 15,
 aQ 158 13 3,
 aI 159 158 13 3 1 false,
 aH 160 159 .len,
 aU 161 157 160 (.bin .lss)] [0,1,2,6,13,14,15,161])
 (.cond (.t 161)
 .skip
 (.exit 1)))
 (.seq
 (.block 2
 (.seq
 (.ae [aQ 164 13 3,
 aI 165 164 13 3 1 false,
 aa 166 15,
 aU 167 165 166 (.aC 3),
 aQ 168 167 1,
 aH 169 168 (.aK 1 false),
 aH 170 169 (.build [aZ,dP,bO,aZ,aZ,dP,aZ,bO,bO,aZ,dP,aZ,aZ,bO] [(1,1)]),
 bE 16 [aZ,dP,bO,aZ,aZ,dP,aZ,bO,bO,aZ,dP,aZ,aZ,bO],
 aV 16 170 16 0 14] [0,1,2,6,13,14,15,16])
 (.seq
 (.seq
 (.ae [a0 17 (k_ 0)] [0,1,2,6,13,14,15,16,17])
 (.block 3
 g247L1))
 (.seq
 (.ae [aa 189 0,
 aa 190 1,
 aa 191 2,
 a7 192 191 1 (.bin .sub),
 bB 193 [.t 189,.t 190,.t 192] (.aL 247 []),
 aQ 194 16 3,
 aV 194 193 16 3 11] [0,1,2,6,13,14,15,16])
 (.ae [aQ 195 14 5,
 aI 196 195 14 5 1 false,
 aI 197 16 16 0 14 true,
 aH 198 197 (.aT 14),
 bH 199 196 198 (.append 14 200),
 aQ 200 14 5,
 aV 200 199 14 5 1] [0,1,2,6,13,14,15])))))
 (.ae [aa 162 15,
 a7 163 162 1 (.bin .add),
 aa 15 163] [0,1,2,6,13,14,15])))
def g247L0:aw:=.loop [0,1,2,6,13,14,15] g247B0
theorem g247L0e: cl AP g247L0 st=after (cl AP g247L0) (cl AP g247B0 (norm (restrict [0,1,2,6,13,14,15] st))):=aG
def g247:aJ:=⟨3,202,[.c 6 11 true],
 (.seq
 (.ae [bE 6 eu] [0,1,2,6])
 (.seq
 (.ae [aa 18 0,
 bB 19 [.t 18,k_ 14] (.aL 68 []),
 aa 7 19] [0,1,2,6,7])
 (.seq
 (.seq
 (.ae [aa 20 2,
 a7 21 20 1 (.bin .lss)] [0,1,2,6,7,21])
 (.cond (.t 21)
 (.ae [aa 22 7,
 a7 23 22 5 (.bin .rem),
 aa 7 23] [0,1,2,6,7])
 .skip))
 (.seq
 (.seq
 (.ae [aa 24 7] [0,1,2,6,24])
 (.block 0
 (.seq
 (.seq
 (.ae [a7 26 24 0 (.bin .eql),
 aa 25 26] [0,1,2,6,24,25])
 (.cond (.t 25)
 .skip
 (.ae [a7 27 24 1 (.bin .eql),
 aa 25 27] [0,1,2,6,24,25])))
 (.cond (.t 25)
 (.seq
 (.ae [aa 28 0,
 ba 29 28 (.aL 175 []),
 a8 30 [k_ 1,.t 29] (.build eu [(0,1),(2,1)]),
 aV 6 30 6 0 11] [6])
 .ret)
 (.seq
 (.ae [a7 32 24 2 (.bin .eql),
 aa 31 32] [0,1,2,6,24,31])
 (.cond (.t 31)
 (.seq
 (.ae [aa 33 0,
 bB 34 [.t 33,k_ 4] (.aL 68 []),
 a8 35 [k_ 3,.t 34] (.build eu [(0,1),(3,1)]),
 aV 6 35 6 0 11] [6])
 .ret)
 (.seq
 (.ae [a7 37 24 3 (.bin .eql),
 aa 36 37] [0,1,2,6,24,36])
 (.cond (.t 36)
 (.seq
 (.seq
 (.ae [aa 38 1,
 aH 39 38 .len,
 a7 40 39 0 (.bin .gtr)] [0,1,6,40])
 (.cond (.t 40)
 (.seq
 (.ae [aa 41 1,
 aa 42 0,
 aa 43 1,
 aH 44 43 .len,
 bH 45 42 44 (.aL 68 []),
 aU 46 41 45 (.aC 4),
 ba 47 46 (.a6 4 true),
 bE 8 Ck,
 aV 8 47 8 0 4] [0,6,8])
 (.seq
 (.ae [aQ 48 8 3,
 aI 49 48 8 3 1 false,
 aa 50 0,
 aQ 51 8 3,
 aI 52 51 8 3 1 false,
 aH 53 52 .len,
 bH 54 50 53 (.aL 68 []),
 aU 55 49 54 (.aC 3),
 aQ 56 55 1,
 aH 57 56 (.aK 1 false),
 a8 58 [k_ 2,.t 57] (.build eu [(0,1),(2,1)]),
 aV 6 58 6 0 11] [6])
 .ret))
 .skip))
 (.seq
 (.ae [a8 59 [k_ 2,.c (.pv (.str [71,111,110,101]))] (.build eu [(0,1),(2,1)]),
 aV 6 59 6 0 11] [6])
 .ret))
 (.seq
 (.ae [a7 61 24 4 (.bin .eql),
 aa 60 61] [0,1,2,6,24,60])
 (.cond (.t 60)
 (.seq
 (.ae [a8 62 [k_ 10] (.build eu [(0,1)]),
 aV 6 62 6 0 11] [6])
 .ret)
 (.seq
 (.seq
 (.ae [a7 64 24 5 (.bin .eql),
 aa 63 64] [0,1,2,6,24,63])
 (.cond (.t 63)
 .skip
 (.ae [a7 65 24 6 (.bin .eql),
 aa 63 65] [0,1,2,6,24,63])))
 (.cond (.t 63)
 (.seq
 (.ae [aa 66 0,
 ba 67 66 (.aL 175 []),
 aa 68 0,
 aa 69 1,
 aa 70 2,
 a7 71 70 1 (.bin .sub),
 bB 72 [.t 68,.t 69,.t 71] (.aL 247 []),
 aH 73 72 (.aT 11),
 a8 74 [k_ 4,.t 67,.t 73] (.build eu [(0,1),(2,1),(4,1)]),
 aV 6 74 6 0 11] [6])
 .ret)
 (.seq
 (.seq
 (.ae [a7 76 24 7 (.bin .eql),
 aa 75 76] [0,1,2,6,24,75])
 (.cond (.t 75)
 .skip
 (.seq
 (.ae [a7 77 24 8 (.bin .eql),
 aa 75 77] [0,1,2,6,24,75])
 (.cond (.t 75)
 .skip
 (.ae [a7 78 24 9 (.bin .eql),
 aa 75 78] [0,1,2,6,24,75])))))
 (.cond (.t 75)
 (.seq
 (.ae [aa 79 0,
 aa 80 1,
 aa 81 2,
 a7 82 81 1 (.bin .sub),
 bB 83 [.t 79,.t 80,.t 82] (.aL 247 []),
 bE 9 eu,
 aV 9 83 9 0 11] [0,1,2,6,9])
 (.seq
 (.ae [aI 84 9 9 0 11 true,
 aa 85 0,
 aa 86 1,
 aa 87 2,
 a7 88 87 1 (.bin .sub),
 bB 89 [.t 85,.t 86,.t 88] (.aL 247 []),
 aU 90 84 89 (.aT 11),
 a8 91 [k_ 5,.t 90] (.build eu [(0,1),(4,1)]),
 aV 6 91 6 0 11] [6])
 .ret))
 (.seq
 (.ae [a7 93 24 10 (.bin .eql),
 aa 92 93] [0,1,2,6,24,92])
 (.cond (.t 92)
 (.seq
 (.ae [aa 94 0,
 bB 95 [.t 94,k_ 2] (.aL 68 []),
 a8 96 [k_ 6,.t 95] (.bin .add),
 aa 10 96] [0,1,2,6,10])
 (.seq
 (.ae [aa 97 0,
 ba 98 97 (.aL 175 []),
 aa 11 98] [0,1,2,6,10,11])
 (.seq
 (.ae [aa 99 0,
 aa 100 1,
 aa 101 2,
 a7 102 101 1 (.bin .sub),
 bB 103 [.t 99,.t 100,.t 102] (.aL 247 []),
 bE 12 eu,
 aV 12 103 12 0 11] [0,1,2,6,10,11,12])
 (.seq
 (.ae [aa 104 10,
 aa 105 11,
 aI 106 12 12 0 11 true,
 aa 107 0,
 aa 108 1,
 aa 109 2,
 a7 110 109 1 (.bin .sub),
 bB 111 [.t 107,.t 108,.t 110] (.aL 247 []),
 aU 112 106 111 (.aT 11),
 a8 113 [.t 104,.t 105,.t 112] (.build eu [(0,1),(2,1),(4,1)]),
 aV 6 113 6 0 11] [6])
 .ret))))
 (.seq
 (.ae [a7 115 24 11 (.bin .eql),
 aa 114 115] [0,1,2,6,24,114])
 (.cond (.t 114)
 (.seq
 (.ae [aa 116 0,
 aa 117 1,
 aa 118 2,
 a7 119 118 1 (.bin .sub),
 bB 120 [.t 116,.t 117,.t 119] (.aL 247 []),
 aH 121 120 (.aT 11),
 aa 122 0,
 aa 123 1,
 bB 124 [.t 122,.t 123,.c (.bD []),k_ 2] (.aL 27 []),
 a8 125 [k_ 9,.t 121,.t 124] (.build eu [(0,1),(4,1),(6,5)]),
 aV 6 125 6 0 11] [6])
 .ret)
 (.seq
 (.ae [a7 127 24 12 (.bin .eql),
 aa 126 127] [0,1,2,6,126])
 (.cond (.t 126)
 (.seq
 (.ae [aa 128 0,
 aa 129 1,
 aa 130 2,
 a7 131 130 1 (.bin .sub),
 bB 132 [.t 128,.t 129,.t 131] (.aL 247 []),
 aH 133 132 (.aT 11),
 a8 134 [k_ 11,.t 133] (.build eu [(0,1),(4,1)]),
 aV 6 134 6 0 11] [6])
 .ret)
 .skip))))))))))))))))))))
 (.seq
 (.seq
 (.ae [aa 135 1,
 aH 136 135 .len,
 a7 137 136 0 (.bin .eql)] [0,1,2,6,137])
 (.cond (.t 137)
 (.seq
 (.ae [aa 138 0,
 aa 139 1,
 aa 140 2,
 a7 141 140 1 (.bin .sub),
 bB 142 [.t 138,.t 139,.t 141] (.aL 247 []),
 aV 6 142 6 0 11] [6])
 .ret)
 .skip))
 (.seq
 (.ae [aa 143 1,
 aa 144 0,
 aa 145 1,
 aH 146 145 .len,
 bH 147 144 146 (.aL 68 []),
 aU 148 143 147 (.aC 4),
 ba 149 148 (.a6 4 true),
 bE 13 Ck,
 aV 13 149 13 0 4] [0,1,2,6,13])
 (.seq
 (.ae [aa 150 0,
 aa 151 1,
 aa 152 2,
 a7 153 152 1 (.bin .sub),
 bB 154 [.t 150,.t 151,.t 153] (.aL 247 []),
 aH 155 154 (.aT 11),
 a8 156 [k_ 8,.t 155] (.build eu [(0,1),(4,1)]),
 bE 14 eu,
 aV 14 156 14 0 11] [0,1,2,6,13,14])
 (.seq
 (.seq
 (.ae [a0 15 (k_ 0)] [0,1,2,6,13,14,15])
 (.block 1
 g247L0))
 (.seq
 (.ae [aI 201 14 14 0 11 true,
 aV 6 201 6 0 11] [6])
 .ret))))))))),none,false⟩
def g250:aJ:=⟨1,58,[.c 2 11 true,.c 3 2 true],
 (.seq
 (.ae [bE 2 eu,
 bE 3 [aZ,aZ]] [0,2,3])
 (.seq
 (.ae [aa 11 0,
 ba 12 11 (.aA 118),
 aa 10 12,
 aH 13 10 (.ext 0),
 aH 14 10 (.ext 1),
 bE 5 [aZ,aZ],
 aa 4 13,
 aV 5 14 5 0 2] [2,3,4,5])
 (.seq
 (.seq
 (.ae [aQ 15 5 0,
 aI 16 15 5 0 1 false,
 a7 17 16 0 (.bin .neq)] [2,3,4,5,17])
 (.cond (.t 17)
 (.seq
 (.ae [a8 18 [] (.build eu []),
 aI 19 5 5 0 2 true,
 aV 2 18 2 0 11,
 aV 3 19 3 0 2] [2,3])
 .ret)
 .skip))
 (.seq
 (.ae [aa 20 4,
 bB 21 [.t 20,k_ 0] (.aL 119 []),
 aa 6 21] [2,3,4,5,6])
 (.seq
 (.ae [aa 22 6,
 ba 23 22 (.aL 134 []),
 bE 7 eu,
 aV 7 23 7 0 11] [2,3,4,5,6,7])
 (.seq
 (.seq
 (.ae [aa 24 6,
 aH 25 24 .a9,
 aQ 26 25 1,
 ba 27 26 (.a6 1 false),
 aa 28 4,
 aH 29 28 .len,
 aU 30 27 29 (.bin .lss)] [2,3,5,6,7,30])
 (.cond (.t 30)
 (.ae [aa 31 6,
 ba 32 31 (.aL 139 [])] [2,3,5,6,7])
 .skip))
 (.seq
 (.seq
 (.ae [aa 33 6,
 aH 34 33 .a9,
 aQ 35 34 2,
 ba 36 35 (.a6 1 false)] [2,3,5,6,7,36])
 (.cond (.t 36)
 (.seq
 (.ae [a8 37 [] (.build eu []),
 aa 38 6,
 aH 39 38 .a9,
 aQ 40 39 3,
 ba 41 40 (.a6 1 false),
 a8 42 [k_ 3,.t 41] (.build [aZ,aZ] [(0,1),(1,1)]),
 aV 2 37 2 0 11,
 aV 3 42 3 0 2] [2,3])
 .ret)
 .skip))
 (.seq
 (.seq
 (.ae [aI 43 7 7 0 11 true,
 ba 44 43 (.aA 135)] [2,3,5,7,44])
 (.cond (.t 44)
 (.seq
 (.ae [a8 45 [] (.build eu []),
 a8 46 [k_ 4] (.build [aZ,aZ] [(0,1)]),
 aV 2 45 2 0 11,
 aV 3 46 3 0 2] [2,3])
 .ret)
 .skip))
 (.seq
 (.seq
 (.ae [aI 48 7 7 0 11 true,
 ba 49 48 (.aA 136),
 aa 47 49,
 aH 50 47 (.ext 0),
 aH 51 47 (.ext 1),
 aa 8 50,
 aa 9 51] [2,3,5,7,8,9])
 (.seq
 (.ae [aa 52 9] [2,3,5,7,8,52])
 (.cond (.t 52)
 (.seq
 (.ae [a8 53 [] (.build eu []),
 aa 54 8,
 a8 55 [k_ 5,.t 54] (.build [aZ,aZ] [(0,1),(1,1)]),
 aV 2 53 2 0 11,
 aV 3 55 3 0 2] [2,3])
 .ret)
 .skip)))
 (.seq
 (.ae [aI 56 7 7 0 11 true,
 aI 57 5 5 0 2 true,
 aV 2 56 2 0 11,
 aV 3 57 3 0 2] [2,3])
 .ret)))))))))),none,false⟩
def g306B0:aw:=
 (.seq
 (.seq
 (.ae [aa 24 9,
 aa 25 8,
 aU 26 24 25 (.bin .lss)] [4,5,6,7,8,9,26])
 (.cond (.t 26)
 .skip
 (.exit 0)))
 (.seq
 (.block 1
 (.seq
 (.ae [a8 29 [.c (.pv (.str [112])),.c (.pv (.str [113])),.c (.pv (.str [114])),.c (.pv (.str [115]))] (.aT 1),
 aa 30 9,
 aU 31 29 30 (.aC 1),
 aH 32 31 (.aK 1 false),
 aa 33 5,
 bB 34 [.t 33,k_ 4] (.aL 68 []),
 a7 35 34 1 (.bin .eql),
 aU 36 32 35 (.build [aZ,.bool false,dP,.bool false,aZ,dP,aZ,aZ,bO,aZ,aZ,dP,aZ,bO,bO,aZ,dP,aZ,aZ,bO] [(2,1),(1,1)]),
 bE 10 [aZ,.bool false,dP,.bool false,aZ,dP,aZ,aZ,bO,aZ,aZ,dP,aZ,bO,bO,aZ,dP,aZ,aZ,bO],
 aV 10 36 10 0 20] [4,5,6,7,8,9,10])
 (.seq
 (.ae [aa 37 5,
 aQ 38 6 0,
 aI 39 38 6 0 1 false,
 bB 40 [] (.aA 67),
 bB 41 [.t 37,.t 39,.t 40,k_ 2] (.aL 27 []),
 bE 11 ez,
 aV 11 41 11 0 5] [4,5,6,7,8,9,10,11])
 (.seq
 (.seq
 (.ae [aa 42 5,
 bB 43 [.t 42,k_ 3] (.aL 68 []),
 a7 44 43 0 (.bin .eql)] [4,5,6,7,8,9,10,11,44])
 (.cond (.t 44)
 (.ae [aa 45 5,
 aQ 46 6 0,
 aI 47 46 6 0 1 false,
 bB 48 [.t 45,.t 47,.c (.bD []),k_ 2] (.aL 27 []),
 aV 11 48 11 0 5] [4,5,6,7,8,9,10,11])
 .skip))
 (.seq
 (.ae [aa 49 5,
 bB 50 [.t 49,k_ 2] (.aL 68 []),
 a7 51 50 0 (.bin .eql),
 aQ 52 10 3,
 aV 52 51 10 3 1] [4,5,6,7,8,9,10,11])
 (.seq
 (.seq
 (.ae [aQ 53 10 3,
 aI 54 53 10 3 1 false] [4,5,6,7,8,9,10,11,54])
 (.cond (.t 54)
 (.ae [aI 55 11 11 0 5 true,
 aQ 56 10 4,
 aV 56 55 10 4 5] [4,5,6,7,8,9,10,11])
 .skip))
 (.seq
 (.ae [aa 57 7,
 aa 12 57] [4,5,6,7,8,9,10,11,12])
 (.seq
 (.seq
 (.ae [aQ 58 10 1,
 aI 59 58 10 1 1 false] [4,5,6,7,8,9,10,11,12,59])
 (.cond (.t 59)
 (.ae [aa 60 7,
 aQ 61 10 2,
 aI 62 61 10 2 1 false,
 aI 63 11 11 0 5 true,
 ba 64 63 (.aA 325),
 ba 65 64 (.aA 176),
 bB 66 [.t 60,.t 62,.t 65] (.aA 179),
 aa 12 66] [4,5,6,7,8,9,10,11,12])
 .skip))
 (.seq
 (.ae [aa 67 5,
 aQ 68 6 0,
 aI 69 68 6 0 1 false,
 aa 70 12,
 aI 71 11 11 0 5 true,
 ba 72 71 (.aA 325),
 bB 73 [.t 67,.t 69,.t 70,.t 72,k_ 3] (.aL 326 []),
 aQ 74 10 9,
 aV 74 73 10 9 11] [4,5,6,7,8,9,10,11])
 (.seq
 (.ae [aI 76 11 11 0 5 true,
 bB 77 [.t 76,k_ 98] (.aA 327),
 aa 75 77,
 aH 78 75 (.ext 0),
 aH 79 75 (.ext 1),
 bE 13 ez,
 bE 14 pW,
 aV 13 78 13 0 5,
 aV 14 79 14 0 6] [4,5,6,7,8,9,10,14])
 (.seq
 (.seq
 (.ae [aQ 80 10 3,
 aI 81 80 10 3 1 false,
 aH 82 81 (.un .not),
 aa 83 82,
 aY 84 83 true 10 (.v (.bh 9)),
 aY 85 83 true 84 (.bl 10 9 11 true),
 cB 86 83 true [.t 85,k_ 10] (.aA 307),
 aY 87 83 true 86 (.v (.mv)),
 aY 88 87 false 10 (.v (.bh 9)),
 aY 89 87 false 88 (.bl 10 9 11 true),
 cB 90 87 false [.t 89,k_ 11] (.aA 307),
 cB 91 83 true [.t 87,T_,.t 90] (.v (.pick)),
 a8 92 [.t 83,.t 91,F_] .pick] [4,5,6,7,8,9,10,14,92])
 (.cond (.t 92)
 (.ae [bB 93 [] (.aA 34),
 ba 94 93 (.aA 176),
 aV 14 94 14 0 6] [4,5,6,7,8,9,10,14])
 .skip))
 (.seq
 (.ae [aa 95 7,
 aQ 96 10 2,
 aI 97 96 10 2 1 false,
 aI 98 14 14 0 6 true,
 bB 99 [.t 95,.t 97,.t 98] (.aA 179),
 aa 7 99] [4,5,6,7,8,9,10])
 (.ae [aQ 100 6 1,
 aI 101 100 6 1 1 false,
 aI 102 10 10 0 20 true,
 aH 103 102 (.aT 20),
 bH 104 101 103 (.cZ 20 256 true),
 aQ 105 6 1,
 aV 105 104 6 1 1] [4,5,6,7,8,9])))))))))))))
 (.ae [aa 27 9,
 a7 28 27 1 (.bin .add),
 aa 9 28] [4,5,6,7,8,9])))
def g306L0:aw:=.loop [4,5,6,7,8,9] g306B0
theorem g306L0e: cl AP g306L0 st=after (cl AP g306L0) (cl AP g306B0 (norm (restrict [4,5,6,7,8,9] st))):=aG
def g306:aJ:=⟨2,107,[.c 4 2 true],
 (.seq
 (.ae [bE 4 [bO,bO]] [0,1,4])
 (.seq
 (.ae [aa 15 1,
 aH 16 15 (.build [bO,aZ] [(0,1)]),
 ba 17 16 (.l4 2),
 aa 5 17] [0,4,5])
 (.seq
 (.ae [aa 18 0,
 ba 19 18 (.aA 32),
 aH 20 19 (.build [bO,bO] [(0,1)]),
 bE 6 [bO,bO],
 aV 6 20 6 0 2] [4,5,6])
 (.seq
 (.ae [a8 7 [.c (.bD [])] .mv] [4,5,6,7])
 (.seq
 (.ae [aa 21 5,
 bB 22 [.t 21,k_ 4] (.aL 68 []),
 a8 23 [k_ 1,.t 22] (.bin .add),
 aa 8 23] [4,5,6,7,8])
 (.seq
 (.seq
 (.ae [a0 9 (k_ 0)] [4,5,6,7,8,9])
 (.block 0
 g306L0))
 (.seq
 (.ae [aI 106 6 6 0 2 true,
 aV 4 106 4 0 2] [4])
 .ret))))))),none,true⟩
def g307B0:aw:=
 (.seq
 (.seq
 (.ae [aa 13 6,
 aa 14 5,
 aH 15 14 .len,
 aU 16 13 15 (.bin .lss)] [1,5,6,16])
 (.cond (.t 16)
 .skip
 (.exit 0)))
 (.seq
 (.block 1
 (.seq
 (.ae [aa 19 5,
 aa 20 6,
 aU 21 19 20 (.aC 11),
 aH 22 21 (.aK 11 true),
 aa 23 1,
 bH 24 22 23 (.aA 307)] [1,5,6,24])
 (.cond (.t 24)
 (.seq
 (.ae [a0 4 T_] [4])
 .ret)
 .skip)))
 (.ae [aa 17 6,
 a7 18 17 1 (.bin .add),
 aa 6 18] [1,5,6])))
def g307L0:aw:=.loop [1,5,6] g307B0
theorem g307L0e: cl AP g307L0 st=after (cl AP g307L0) (cl AP g307B0 (norm (restrict [1,5,6] st))):=aG
def g307:aJ:=⟨2,25,[.t 4],
 (.seq
 (.ae [ba 2 0 (.box 2 11),
 a0 4 F_] [1,2])
 (.seq
 (.seq
 (.ae [aQ 7 2 0,
 aI 8 7 2 0 1 false,
 aa 9 1,
 aU 10 8 9 (.bin .eql)] [1,2,10])
 (.cond (.t 10)
 (.seq
 (.ae [a0 4 T_] [4])
 .ret)
 .skip))
 (.seq
 (.ae [aI 11 2 2 0 11 true,
 ba 12 11 (.aA 145),
 aa 5 12] [1,5])
 (.seq
 (.seq
 (.ae [a0 6 (k_ 0)] [1,5,6])
 (.block 0
 g307L0))
 (.seq
 (.ae [a0 4 F_] [4])
 .ret))))),none,false⟩
def g310:aJ:=⟨3,24,[.c 6 2 true],
 (.seq
 (.ae [bE 6 [bO,bO]] [0,1,2,6])
 (.seq
 (.ae [aa 9 0,
 aa 10 1,
 bH 11 9 10 (.aL 306 []),
 bE 7 [bO,bO],
 aV 7 11 7 0 2] [1,2,6,7])
 (.seq
 (.seq
 (.ae [aa 12 2,
 bB 13 [.t 12,k_ 3] (.aA 26),
 a7 14 13 1 (.bin .eql)] [1,6,7,14])
 (.cond (.t 14)
 (.seq
 (.ae [aa 15 1,
 aH 16 15 .len,
 a7 17 16 3 .mn,
 aa 8 17] [1,6,7,8])
 (.ae [aI 18 7 7 0 2 true,
 aa 19 1,
 aa 20 8,
 aU 21 19 20 (.slice false 1 true false false),
 bH 22 18 21 (.aL 335 []),
 aV 7 22 7 0 2] [6,7]))
 .skip))
 (.seq
 (.ae [aI 23 7 7 0 2 true,
 aV 6 23 6 0 2] [6])
 .ret)))),none,true⟩
def g325:aJ:=⟨1,11,[.c 2 5 true],
 (.seq
 (.ae [ba 1 0 (.box 1 5),
 bE 2 ez] [1,2])
 (.seq
 (.ae [aI 6 1 1 0 5 true,
 bB 7 [.t 6,k_ 98] (.aA 327),
 aa 5 7,
 aH 8 5 (.ext 0),
 aH 9 5 (.ext 1),
 bE 3 ez,
 bE 4 pW,
 aV 3 8 3 0 5,
 aV 4 9 4 0 6] [2,3])
 (.seq
 (.ae [aI 10 3 3 0 5 true,
 aV 2 10 2 0 5] [2])
 .ret))),none,false⟩
def g326:aJ:=⟨5,144,[.c 10 11 true],
 (.seq
 (.ae [ba 8 3 (.box 8 5),
 bE 10 eu] [0,1,2,4,8,10])
 (.seq
 (.seq
 (.ae [aa 18 4,
 a7 19 18 1 (.bin .lss),
 aa 20 19,
 aY 21 20 false 0 (.v (.mv)),
 cB 22 20 false [.t 21,k_ 9] (.aL 68 []),
 cB 23 20 false [.t 22,k_ 0] (.v (.bin .eql)),
 a8 24 [.t 20,T_,.t 23] .pick] [0,1,2,4,8,10,24])
 (.cond (.t 24)
 (.seq
 (.ae [aa 25 0,
 aa 26 1,
 aa 27 2,
 aI 28 8 8 0 5 true,
 bB 29 [.t 25,.t 26,.t 27,.t 28] (.aL 348 []),
 aV 10 29 10 0 11] [10])
 .ret)
 .skip))
 (.seq
 (.ae [aI 31 8 8 0 5 true,
 ba 32 31 (.aA 194),
 aa 30 32,
 aH 33 30 (.ext 0),
 aH 34 30 (.ext 1),
 aH 35 30 (.ext 2),
 bE 11 ez,
 bE 12 ez,
 aV 11 33 11 0 5,
 aV 12 34 12 0 5,
 aa 13 35] [0,1,2,4,8,10,11,12,13])
 (.seq
 (.ae [aa 36 0,
 bB 37 [.t 36,k_ 10] (.aL 68 []),
 aa 14 37] [0,1,2,4,8,10,11,12,13,14])
 (.seq
 (.block 0
 (.seq
 (.ae [aa 39 13,
 aa 40 39,
 aY 41 40 true 14 (.v (.mv)),
 cB 42 40 true [.t 41,k_ 7] (.v (.bin .lss)),
 a8 43 [.t 40,.t 42,F_] .pick,
 aa 38 43] [0,1,2,4,8,10,11,12,14,38])
 (.cond (.t 38)
 (.seq
 (.ae [aa 44 0,
 ba 45 44 (.aL 175 []),
 aa 15 45] [0,1,2,4,10,11,12,15])
 (.seq
 (.ae [aa 46 15,
 aa 47 0,
 aa 48 1,
 aa 49 2,
 aa 50 15,
 aI 51 11 11 0 5 true,
 ba 52 51 (.aA 176),
 bB 53 [.t 49,.t 50,.t 52] (.dG 179),
 aI 54 12 12 0 5 true,
 aa 55 4,
 a7 56 55 1 (.bin .sub),
 bB 57 [.t 47,.t 48,.t 53,.t 54,.t 56] (.aL 326 []),
 aH 58 57 (.aT 11),
 a8 59 [k_ 4,.t 46,.t 58] (.build eu [(0,1),(2,1),(4,1)]),
 aV 10 59 10 0 11] [10])
 .ret))
 (.seq
 (.ae [aa 61 14,
 a7 62 61 2 (.bin .lss),
 aa 60 62] [0,1,2,4,8,10,14,60])
 (.cond (.t 60)
 (.seq
 (.ae [aa 63 0,
 aa 64 1,
 bB 65 [.t 63,.t 64,.c (.bD []),k_ 1] (.aL 27 []),
 bE 16 ez,
 aV 16 65 16 0 5] [0,1,2,4,8,10,16])
 (.seq
 (.ae [aa 66 0,
 aa 67 1,
 aa 68 2,
 aI 69 16 16 0 5 true,
 aI 70 8 8 0 5 true,
 bH 71 69 70 (.aA 69),
 aa 72 4,
 a7 73 72 1 (.bin .sub),
 bB 74 [.t 66,.t 67,.t 68,.t 71,.t 73] (.aL 326 []),
 bE 17 eu,
 aV 17 74 17 0 11] [0,1,2,4,10,16,17])
 (.seq
 (.ae [aI 75 17 17 0 11 true,
 aa 76 0,
 aa 77 1,
 aa 78 2,
 aI 79 16 16 0 5 true,
 aa 80 4,
 a7 81 80 1 (.bin .sub),
 bB 82 [.t 76,.t 77,.t 78,.t 79,.t 81] (.aL 326 []),
 aU 83 75 82 (.aT 11),
 a8 84 [k_ 5,.t 83] (.build eu [(0,1),(4,1)]),
 aV 10 84 10 0 11] [10])
 .ret)))
 (.seq
 (.ae [aa 86 14,
 a7 87 86 2 (.bin .eql),
 aa 85 87] [0,1,2,4,8,10,14,85])
 (.cond (.t 85)
 (.seq
 (.ae [aa 88 0,
 aa 89 1,
 aa 90 2,
 aI 91 8 8 0 5 true,
 aa 92 4,
 bB 93 [.t 88,.t 89,.t 90,.t 91,.t 92] (.aL 349 []),
 aV 10 93 10 0 11] [10])
 .ret)
 (.seq
 (.ae [aa 95 14,
 a7 96 95 3 (.bin .eql),
 aa 94 96] [0,1,2,4,8,10,14,94])
 (.cond (.t 94)
 (.seq
 (.ae [aa 97 0,
 aa 98 1,
 aa 99 2,
 aI 100 8 8 0 5 true,
 aa 101 4,
 bB 102 [.t 97,.t 98,.t 99,.t 100,.t 101] (.aL 350 []),
 aV 10 102 10 0 11] [10])
 .ret)
 (.seq
 (.ae [aa 104 14,
 a7 105 104 4 (.bin .eql),
 aa 106 105,
 aY 107 106 true 8 (.bl 8 0 5 true),
 cB 108 106 true [.t 107,k_ 3] (.aA 351),
 aY 109 106 true 108 (.v (.un .not)),
 a8 110 [.t 106,.t 109,F_] .pick,
 aa 111 110,
 aY 112 111 true 8 (.bl 8 0 5 true),
 cB 113 111 true [.t 112,k_ 1] (.aA 351),
 aY 114 111 true 113 (.v (.un .not)),
 a8 115 [.t 111,.t 114,F_] .pick,
 aa 103 115] [0,1,2,4,8,10,14,103])
 (.cond (.t 103)
 (.seq
 (.ae [aa 116 0,
 aa 117 1,
 aa 118 2,
 aI 119 8 8 0 5 true,
 aa 120 4,
 a7 121 120 1 (.bin .sub),
 bB 122 [.t 116,.t 117,.t 118,.t 119,.t 121] (.aL 326 []),
 aH 123 122 (.aT 11),
 aI 124 8 8 0 5 true,
 a8 125 [k_ 9,.t 123,.t 124] (.build eu [(0,1),(4,1),(6,5)]),
 aV 10 125 10 0 11] [10])
 .ret)
 (.seq
 (.ae [aa 127 14,
 a7 128 127 5 (.bin .eql),
 aa 126 128] [0,1,2,4,8,10,126])
 (.cond (.t 126)
 (.seq
 (.ae [aa 129 0,
 aa 130 1,
 aa 131 2,
 aI 132 8 8 0 5 true,
 aa 133 4,
 a7 134 133 1 (.bin .sub),
 bB 135 [.t 129,.t 130,.t 131,.t 132,.t 134] (.aL 326 []),
 aH 136 135 (.aT 11),
 a8 137 [k_ 11,.t 136] (.build eu [(0,1),(4,1)]),
 aV 10 137 10 0 11] [10])
 .ret)
 .skip)))))))))))))
 (.seq
 (.ae [aa 138 0,
 aa 139 1,
 aa 140 2,
 aI 141 8 8 0 5 true,
 aa 142 4,
 bB 143 [.t 138,.t 139,.t 140,.t 141,.t 142] (.aL 352 []),
 aV 10 143 10 0 11] [10])
 .ret)))))),none,false⟩
def g327B0:aw:=
 (.seq
 (.seq
 (.ae [aa 15 9,
 aa 16 6,
 aH 17 16 .len,
 aU 18 15 17 (.bin .lss)] [1,4,5,6,7,8,9,18])
 (.cond (.t 18)
 .skip
 (.exit 0)))
 (.seq
 (.block 1
 (.ae [aa 21 8,
 aa 22 1,
 aa 23 9,
 bH 24 22 23 (.aA 71),
 aH 25 24 (.aT 5),
 bH 26 21 25 (.append 5 64),
 aa 8 26] [1,4,5,6,7,8,9]))
 (.ae [aa 19 9,
 a7 20 19 1 (.bin .add),
 aa 9 20] [1,4,5,6,7,8,9])))
def g327L0:aw:=.loop [1,4,5,6,7,8,9] g327B0
theorem g327L0e: cl AP g327L0 st=after (cl AP g327L0) (cl AP g327B0 (norm (restrict [1,4,5,6,7,8,9] st))):=aG
def g327:aJ:=⟨2,34,[.c 4 5 true,.c 5 6 true],
 (.seq
 (.ae [ba 2 0 (.box 2 5),
 bE 4 ez,
 bE 5 pW] [1,2,4,5])
 (.seq
 (.ae [aI 10 2 2 0 5 true,
 ba 11 10 (.aA 196),
 aa 6 11] [1,2,4,5,6])
 (.seq
 (.ae [aI 12 2 2 0 5 true,
 aa 13 6,
 bH 14 12 13 (.aA 198),
 bE 7 ez,
 aV 7 14 7 0 5] [1,4,5,6,7])
 (.seq
 (.ae [a8 8 [.c (.bD [])] .mv] [1,4,5,6,7,8])
 (.seq
 (.seq
 (.ae [a0 9 (k_ 0)] [1,4,5,6,7,8,9])
 (.block 0
 g327L0))
 (.seq
 (.ae [aI 27 7 7 0 5 true,
 aa 28 8,
 bH 29 27 28 (.aA 48),
 aa 30 6,
 aH 31 30 .len,
 aI 32 7 7 0 5 true,
 aU 33 31 32 (.build pW [(0,1),(1,5)]),
 aV 4 29 4 0 5,
 aV 5 33 5 0 6] [4,5])
 .ret)))))),none,false⟩
def g335B0:aw:=
 (.seq
 (.seq
 (.ae [aa 38 9,
 a7 39 38 0 (.bin .gtr)] [2,4,5,6,7,8,9,39])
 (.cond (.t 39)
 .skip
 (.exit 0)))
 (.seq
 (.block 1
 (.seq
 (.ae [aI 42 8 8 0 11 true,
 ba 43 42 (.aA 145),
 aa 10 43] [2,4,5,6,7,8,9,10])
 (.seq
 (.seq
 (.ae [aa 44 10,
 aH 45 44 .len,
 a7 46 45 0 (.bin .eql)] [2,4,5,6,7,8,9,10,46])
 (.cond (.t 46)
 (.exit 0)
 .skip))
 (.seq
 (.ae [aa 47 5,
 aa 48 10,
 aH 49 48 .len,
 bH 50 47 49 (.aL 68 []),
 aa 11 50] [2,4,5,6,7,8,9,10,11])
 (.ae [aa 51 7,
 aa 52 11,
 aH 53 52 (.aT 1),
 bH 54 51 53 (.append 1 8),
 aa 55 10,
 aa 56 11,
 aU 57 55 56 (.aC 11),
 aH 58 57 (.aK 11 true),
 aa 7 54,
 aV 8 58 8 0 11] [2,4,5,6,7,8,9])))))
 (.ae [aa 40 9,
 a7 41 40 1 (.bin .sub),
 aa 9 41] [2,4,5,6,7,8,9])))
def g335L0:aw:=.loop [2,4,5,6,7,8,9] g335B0
theorem g335L0e: cl AP g335L0 st=after (cl AP g335L0) (cl AP g335B0 (norm (restrict [2,4,5,6,7,8,9] st))):=aG
def g335:aJ:=⟨2,85,[.c 4 2 true],
 (.seq
 (.ae [ba 2 0 (.box 2 2),
 bE 4 [bO,bO]] [1,2,4])
 (.seq
 (.ae [aa 13 1,
 aH 14 13 (.build [bO,aZ] [(0,1)]),
 ba 15 14 (.l4 2),
 aa 5 15] [2,4,5])
 (.seq
 (.seq
 (.ae [aQ 16 2 1,
 aI 17 16 2 1 1 false,
 aH 18 17 .len,
 a7 19 18 0 (.bin .eql),
 aa 20 19,
 aY 21 20 false 5 (.v (.mv)),
 aY 22 20 false 21 (.aL 162 []),
 a8 23 [.t 20,T_,.t 22] .pick] [2,4,5,23])
 (.cond (.t 23)
 (.seq
 (.ae [aI 24 2 2 0 2 true,
 aV 4 24 4 0 2] [4])
 .ret)
 .skip))
 (.seq
 (.ae [aa 25 5,
 aQ 26 2 1,
 aI 27 26 2 1 1 false,
 aH 28 27 .len,
 bH 29 25 28 (.aL 68 []),
 aa 6 29] [2,4,5,6])
 (.seq
 (.ae [a8 7 [.c (.bD [])] .mv] [2,4,5,6,7])
 (.seq
 (.ae [aQ 30 2 1,
 aI 31 30 2 1 1 false,
 aa 32 6,
 aU 33 31 32 (.aC 20),
 aQ 34 33 9,
 ba 35 34 (.a6 11 true),
 bE 8 eu,
 aV 8 35 8 0 11] [2,4,5,6,7,8])
 (.seq
 (.seq
 (.ae [aa 36 5,
 bB 37 [.t 36,k_ 5] (.aL 68 []),
 aa 9 37] [2,4,5,6,7,8,9])
 (.block 0
 g335L0))
 (.seq
 (.ae [aI 59 2 2 0 2 true,
 bE 12 [bO,bO],
 aV 12 59 12 0 2] [2,4,5,6,7,12])
 (.seq
 (.seq
 (.c_ [2])
 (.ae [aQ 60 2 1,
 aI 61 60 2 1 1 false,
 bB 62 [.c (.bD []),.t 61] (.cZ 20 256 true),
 aQ 63 12 1,
 aV 63 62 12 1 1] [2,4,5,6,7,12]))
 (.seq
 (.ae [aQ 65 12 1,
 aI 66 65 12 1 1 false,
 aa 67 6,
 aQ 68 2 1,
 aI 69 68 2 1 1 false,
 aa 70 6,
 aU 71 69 70 (.aC 20),
 aQ 72 71 9,
 aH 73 72 (.aK 11 true),
 aa 74 7,
 aa 75 5,
 aQ 76 2 0,
 aI 77 76 2 0 1 false,
 bB 78 [.t 75,.t 77,k_ 2] (.aL 247 []),
 bB 79 [.t 73,.t 74,.t 78] (.aA 359),
 aa 64 79,
 aH 80 64 (.ext 0),
 aH 81 64 (.ext 1),
 aU 82 66 67 (.aC 20),
 aQ 83 82 9,
 jX [.t 83,.t 80] (.cz 11)] [4,12])
 (.seq
 (.ae [aI 84 12 12 0 2 true,
 aV 4 84 4 0 2] [4])
 .ret))))))))))),none,true⟩
def g348B0:aw:=
 (.seq
 (.seq
 (.ae [aa 16 11,
 aa 17 10,
 aH 18 17 .len,
 aU 19 16 18 (.bin .lss)] [0,7,8,9,10,11,19])
 (.cond (.t 19)
 .skip
 (.exit 0)))
 (.seq
 (.block 1
 (.seq
 (.ae [aa 23 10,
 aa 24 11,
 aU 25 23 24 (.aC 7),
 aQ 26 25 1,
 aH 27 26 (.aK 6 true),
 aI 28 7 7 0 5 true,
 bH 29 27 28 (.aA 238),
 aa 22 29,
 aH 30 22 (.ext 0),
 aH 31 22 (.ext 1),
 aa 12 30,
 aa 13 31] [0,7,8,9,10,11,13])
 (.seq
 (.ae [aa 32 13] [0,7,8,9,10,11,32])
 (.cond (.t 32)
 (.ae [aa 33 9,
 aa 34 10,
 aa 35 11,
 aU 36 34 35 (.aC 7),
 aQ 37 36 0,
 aH 38 37 (.aK 1 false),
 aH 39 38 (.aT 1),
 bH 40 33 39 (.append 1 16),
 aa 9 40] [0,7,8,9,10,11])
 .skip))))
 (.ae [aa 20 11,
 a7 21 20 1 (.bin .add),
 aa 11 21] [0,7,8,9,10,11])))
def g348L0:aw:=.loop [0,7,8,9,10,11] g348B0
theorem g348L0e: cl AP g348L0 st=after (cl AP g348L0) (cl AP g348B0 (norm (restrict [0,7,8,9,10,11] st))):=aG
def g348:aJ:=⟨4,69,[.c 8 11 true],
 (.seq
 (.ae [ba 7 3 (.box 7 5),
 bE 8 eu] [0,2,7,8])
 (.seq
 (.ae [a8 9 [.c (.bD [])] .mv] [0,2,7,8,9])
 (.seq
 (.ae [aa 14 2,
 ba 15 14 (.dG 201),
 aa 10 15] [0,7,8,9,10])
 (.seq
 (.seq
 (.ae [a0 11 (k_ 0)] [0,7,8,9,10,11])
 (.block 0
 g348L0))
 (.seq
 (.seq
 (.ae [aa 41 9,
 aH 42 41 .len,
 a7 43 42 0 (.bin .gtr),
 aa 44 43,
 aY 45 44 true 0 (.v (.mv)),
 cB 46 44 true [.t 45,k_ 6] (.aL 68 []),
 cB 47 44 true [.t 46,k_ 0] (.v (.bin .gtr)),
 a8 48 [.t 44,.t 47,F_] .pick] [0,7,8,9,48])
 (.cond (.t 48)
 (.seq
 (.ae [aa 49 9,
 aa 50 0,
 aa 51 9,
 aH 52 51 .len,
 bH 53 50 52 (.aL 68 []),
 aU 54 49 53 (.aC 1),
 aH 55 54 (.aK 1 false),
 a8 56 [k_ 1,.t 55] (.build eu [(0,1),(2,1)]),
 aV 8 56 8 0 11] [8])
 .ret)
 .skip))
 (.seq
 (.seq
 (.ae [aI 57 7 7 0 5 true,
 bB 58 [] (.aA 34),
 bH 59 57 58 (.aA 20),
 aa 60 59,
 aY 61 60 true 0 (.v (.mv)),
 cB 62 60 true [.t 61,k_ 4] (.aL 68 []),
 cB 63 60 true [.t 62,k_ 0] (.v (.bin .gtr)),
 a8 64 [.t 60,.t 63,F_] .pick] [0,8,64])
 (.cond (.t 64)
 (.seq
 (.ae [aa 65 0,
 bB 66 [.t 65,k_ 3] (.aL 68 []),
 a8 67 [k_ 3,.t 66] (.build eu [(0,1),(3,1)]),
 aV 8 67 8 0 11] [8])
 .ret)
 .skip))
 (.seq
 (.ae [a8 68 [k_ 10] (.build eu [(0,1)]),
 aV 8 68 8 0 11] [8])
 .ret))))))),none,false⟩
def g349:aJ:=⟨5,76,[.c 10 11 true],
 (.seq
 (.ae [ba 8 3 (.box 8 5),
 bE 10 eu] [0,1,2,4,8,10])
 (.seq
 (.ae [aa 19 0,
 bB 20 [.t 19,k_ 2] (.aL 68 []),
 a8 21 [k_ 6,.t 20] (.bin .add),
 aa 22 0,
 ba 23 22 (.aL 175 []),
 aa 11 21,
 aa 12 23] [0,1,2,4,8,10,11,12])
 (.seq
 (.ae [aa 24 0,
 bB 25 [.t 24,k_ 2] (.aL 68 []),
 a7 26 25 0 (.bin .eql),
 aa 13 26] [0,1,2,4,8,10,11,12,13])
 (.seq
 (.ae [a8 27 [] (.aT 5),
 aa 14 27] [0,1,2,4,8,10,11,12,13,14])
 (.seq
 (.seq
 (.ae [aa 28 13] [0,1,2,4,8,10,11,12,14,28])
 (.cond (.t 28)
 (.ae [bB 29 [k_ 99,k_ 0] (.aA 71),
 bB 30 [k_ 99,k_ 1] (.aA 71),
 aU 31 29 30 (.aT 5),
 aa 14 31] [0,1,2,4,8,10,11,12,14])
 .skip))
 (.seq
 (.ae [aa 32 0,
 aa 33 1,
 aa 34 14,
 bB 35 [.t 32,.t 33,.t 34,k_ 2] (.aL 27 []),
 bE 15 ez,
 aV 15 35 15 0 5] [0,1,2,4,8,10,11,12,15])
 (.seq
 (.ae [aa 36 2,
 aa 16 36] [0,1,2,4,8,10,11,12,15,16])
 (.seq
 (.seq
 (.ae [aa 37 11,
 a7 38 37 7 (.bin .eql)] [0,1,2,4,8,10,11,12,15,16,38])
 (.cond (.t 38)
 (.ae [aa 39 2,
 aa 40 12,
 aI 41 15 15 0 5 true,
 ba 42 41 (.aA 176),
 bB 43 [.t 39,.t 40,.t 42] (.dG 179),
 aa 16 43] [0,1,2,4,8,10,11,12,15,16])
 .skip))
 (.seq
 (.ae [aa 44 0,
 aa 45 1,
 aa 46 16,
 aI 47 15 15 0 5 true,
 aa 48 4,
 a7 49 48 1 (.bin .sub),
 bB 50 [.t 44,.t 45,.t 46,.t 47,.t 49] (.aL 326 []),
 bE 17 eu,
 aV 17 50 17 0 11] [0,1,2,4,8,10,11,12,15,17])
 (.seq
 (.ae [aI 51 15 15 0 5 true,
 ba 52 51 (.aA 361),
 bE 18 pW,
 aV 18 52 18 0 6] [0,1,2,4,8,10,11,12,17,18])
 (.seq
 (.seq
 (.ae [aI 53 17 17 0 11 true,
 bB 54 [.t 53,k_ 10] (.aA 307),
 aa 55 54,
 aY 56 55 false 17 (.bl 17 0 11 true),
 cB 57 55 false [.t 56,k_ 11] (.aA 307),
 a8 58 [.t 55,T_,.t 57] .pick] [0,1,2,4,8,10,11,12,17,18,58])
 (.cond (.t 58)
 (.ae [bB 59 [] (.aA 34),
 ba 60 59 (.aA 176),
 aV 18 60 18 0 6] [0,1,2,4,8,10,11,12,17,18])
 .skip))
 (.seq
 (.ae [aa 61 11,
 aa 62 12,
 aI 63 17 17 0 11 true,
 aa 64 0,
 aa 65 1,
 aa 66 2,
 aa 67 12,
 aI 68 18 18 0 6 true,
 bB 69 [.t 66,.t 67,.t 68] (.dG 179),
 aI 70 8 8 0 5 true,
 aa 71 4,
 a7 72 71 1 (.bin .sub),
 bB 73 [.t 64,.t 65,.t 69,.t 70,.t 72] (.aL 326 []),
 aU 74 63 73 (.aT 11),
 a8 75 [.t 61,.t 62,.t 74] (.build eu [(0,1),(2,1),(4,1)]),
 aV 10 75 10 0 11] [10])
 .ret)))))))))))),none,false⟩
def g350B0:aw:=
 (.seq
 (.seq
 (.ae [aa 37 13,
 aQ 38 11 2,
 aI 39 38 11 2 1 false,
 aH 40 39 .len,
 aU 41 37 40 (.bin .lss)] [0,1,2,4,8,10,11,12,13,41])
 (.cond (.t 41)
 .skip
 (.exit 0)))
 (.seq
 (.block 1
 (.ae [aa 44 12,
 aa 45 0,
 aa 46 1,
 bB 47 [.t 45,.t 46,.c (.bD []),k_ 1] (.aL 27 []),
 aH 48 47 (.aT 5),
 bH 49 44 48 (.append 5 64),
 aa 12 49] [0,1,2,4,8,10,11,12,13]))
 (.ae [aa 42 13,
 a7 43 42 1 (.bin .add),
 aa 13 43] [0,1,2,4,8,10,11,12,13])))
def g350L0:aw:=.loop [0,1,2,4,8,10,11,12,13] g350B0
theorem g350L0e: cl AP g350L0 st=after (cl AP g350L0) (cl AP g350B0 (norm (restrict [0,1,2,4,8,10,11,12,13] st))):=aG
def g350B2:aw:=
 (.seq
 (.seq
 (.ae [aa 89 20,
 aa 90 16,
 aH 91 90 .len,
 aU 92 89 91 (.bin .lss)] [0,1,2,4,8,10,11,12,14,15,16,18,19,20,92])
 (.cond (.t 92)
 .skip
 (.exit 4)))
 (.seq
 (.block 5
 (.seq
 (.ae [a8 95 [.c (.pv (.str [120])),.c (.pv (.str [121])),.c (.pv (.str [122])),.c (.pv (.str [119]))] (.aT 1),
 aa 96 20,
 a7 97 96 4 (.bin .rem),
 aU 98 95 97 (.aC 1),
 aH 99 98 (.aK 1 false),
 aa 21 99] [0,1,2,4,8,10,11,12,14,15,16,18,19,20,21])
 (.seq
 (.ae [aQ 100 18 2,
 aI 101 100 18 2 1 false,
 aa 102 21,
 aH 103 102 (.aT 1),
 bH 104 101 103 (.append 1 16),
 aQ 105 18 2,
 aV 105 104 18 2 1] [0,1,2,4,8,10,11,12,14,15,16,18,19,20,21])
 (.ae [aa 106 19,
 aa 107 21,
 aa 108 16,
 aa 109 20,
 aU 110 108 109 (.aC 5),
 aH 111 110 (.aK 5 true),
 ba 112 111 (.aA 176),
 bB 113 [.t 106,.t 107,.t 112] (.dG 179),
 aa 19 113] [0,1,2,4,8,10,11,12,14,15,16,18,19,20]))))
 (.ae [aa 93 20,
 a7 94 93 1 (.bin .add),
 aa 20 94] [0,1,2,4,8,10,11,12,14,15,16,18,19,20])))
def g350L2:aw:=.loop [0,1,2,4,8,10,11,12,14,15,16,18,19,20] g350B2
theorem g350L2e: cl AP g350L2 st=after (cl AP g350L2) (cl AP g350B2 (norm (restrict [0,1,2,4,8,10,11,12,14,15,16,18,19,20] st))):=aG
def g350B1:aw:=
 (.seq
 (.seq
 (.ae [aa 62 15,
 aQ 63 11 3,
 aI 64 63 11 3 1 false,
 aH 65 64 .len,
 aU 66 62 65 (.bin .lss)] [0,1,2,4,8,10,11,12,14,15,66])
 (.cond (.t 66)
 .skip
 (.exit 2)))
 (.seq
 (.block 3
 (.seq
 (.ae [aa 70 1,
 aQ 71 11 3,
 aI 72 71 11 3 1 false,
 aa 73 15,
 aU 74 72 73 (.aC 3),
 aQ 75 74 1,
 aH 76 75 (.aK 1 false),
 aa 77 12,
 bB 78 [.t 70,.t 76,.t 77] (.dG 207),
 aa 69 78,
 aH 79 69 (.ext 0),
 aH 80 69 (.ext 1),
 aa 16 79,
 aa 17 80] [0,1,2,4,8,10,11,12,14,15,16])
 (.seq
 (.ae [aQ 81 11 3,
 aI 82 81 11 3 1 false,
 aa 83 15,
 aU 84 82 83 (.aC 3),
 aQ 85 84 1,
 aH 86 85 (.aK 1 false),
 aH 87 86 (.build [aZ,dP,bO,aZ,aZ,dP,aZ,bO,bO,aZ,dP,aZ,aZ,bO] [(1,1)]),
 bE 18 [aZ,dP,bO,aZ,aZ,dP,aZ,bO,bO,aZ,dP,aZ,aZ,bO],
 aV 18 87 18 0 14] [0,1,2,4,8,10,11,12,14,15,16,18])
 (.seq
 (.ae [aa 88 2,
 aa 19 88] [0,1,2,4,8,10,11,12,14,15,16,18,19])
 (.seq
 (.seq
 (.ae [a0 20 (k_ 0)] [0,1,2,4,8,10,11,12,14,15,16,18,19,20])
 (.block 4
 g350L2))
 (.seq
 (.ae [aa 114 0,
 aa 115 1,
 aa 116 19,
 aI 117 8 8 0 5 true,
 aa 118 4,
 a7 119 118 1 (.bin .sub),
 bB 120 [.t 114,.t 115,.t 116,.t 117,.t 119] (.aL 326 []),
 aQ 121 18 3,
 aV 121 120 18 3 11] [0,1,2,4,8,10,11,12,14,15,18])
 (.ae [aQ 122 14 5,
 aI 123 122 14 5 1 false,
 aI 124 18 18 0 14 true,
 aH 125 124 (.aT 14),
 bH 126 123 125 (.append 14 200),
 aQ 127 14 5,
 aV 127 126 14 5 1] [0,1,2,4,8,10,11,12,14,15])))))))
 (.ae [aa 67 15,
 a7 68 67 1 (.bin .add),
 aa 15 68] [0,1,2,4,8,10,11,12,14,15])))
def g350L1:aw:=.loop [0,1,2,4,8,10,11,12,14,15] g350B1
theorem g350L1e: cl AP g350L1 st=after (cl AP g350L1) (cl AP g350B1 (norm (restrict [0,1,2,4,8,10,11,12,14,15] st))):=aG
def g350:aJ:=⟨5,129,[.c 10 11 true],
 (.seq
 (.ae [ba 8 3 (.box 8 5),
 bE 10 eu] [0,1,2,4,8,10])
 (.seq
 (.seq
 (.ae [aa 22 1,
 aH 23 22 .len,
 a7 24 23 0 (.bin .eql)] [0,1,2,4,8,10,24])
 (.cond (.t 24)
 (.seq
 (.ae [aa 25 0,
 aa 26 1,
 aa 27 2,
 aI 28 8 8 0 5 true,
 bB 29 [.t 25,.t 26,.t 27,.t 28] (.aL 348 []),
 aV 10 29 10 0 11] [10])
 .ret)
 .skip))
 (.seq
 (.ae [aa 30 1,
 aa 31 0,
 aa 32 1,
 aH 33 32 .len,
 bH 34 31 33 (.aL 68 []),
 aU 35 30 34 (.aC 4),
 ba 36 35 (.a6 4 true),
 bE 11 Ck,
 aV 11 36 11 0 4] [0,1,2,4,8,10,11])
 (.seq
 (.ae [a8 12 [.c (.bD [])] .mv] [0,1,2,4,8,10,11,12])
 (.seq
 (.seq
 (.ae [a0 13 (k_ 0)] [0,1,2,4,8,10,11,12,13])
 (.block 0
 g350L0))
 (.seq
 (.ae [aa 50 0,
 aa 51 1,
 aa 52 2,
 aQ 53 11 1,
 aI 54 53 11 1 1 false,
 aa 55 12,
 bH 56 54 55 (.aA 62),
 aa 57 4,
 a7 58 57 1 (.bin .sub),
 bB 59 [.t 50,.t 51,.t 52,.t 56,.t 58] (.aL 326 []),
 aH 60 59 (.aT 11),
 a8 61 [k_ 8,.t 60] (.build eu [(0,1),(4,1)]),
 bE 14 eu,
 aV 14 61 14 0 11] [0,1,2,4,8,10,11,12,14])
 (.seq
 (.seq
 (.ae [a0 15 (k_ 0)] [0,1,2,4,8,10,11,12,14,15])
 (.block 2
 g350L1))
 (.seq
 (.ae [aI 128 14 14 0 11 true,
 aV 10 128 10 0 11] [10])
 .ret)))))))),none,false⟩
def g351B0:aw:=
 (.seq
 (.seq
 (.ae [aa 10 5,
 aQ 11 2 4,
 aI 12 11 2 4 1 false,
 aH 13 12 .len,
 aU 14 10 13 (.bin .lss)] [1,2,5,14])
 (.cond (.t 14)
 .skip
 (.exit 0)))
 (.seq
 (.block 1
 (.seq
 (.ae [aQ 17 2 4,
 aI 18 17 2 4 1 false,
 aa 19 5,
 aU 20 18 19 (.aC 5),
 aH 21 20 (.aK 5 true),
 aa 22 1,
 bH 23 21 22 (.aA 351)] [1,2,5,23])
 (.cond (.t 23)
 (.seq
 (.ae [a0 4 T_] [4])
 .ret)
 .skip)))
 (.ae [aa 15 5,
 a7 16 15 1 (.bin .add),
 aa 5 16] [1,2,5])))
def g351L0:aw:=.loop [1,2,5] g351B0
theorem g351L0e: cl AP g351L0 st=after (cl AP g351L0) (cl AP g351B0 (norm (restrict [1,2,5] st))):=aG
def g351:aJ:=⟨2,24,[.t 4],
 (.seq
 (.ae [ba 2 0 (.box 2 5),
 a0 4 F_] [1,2])
 (.seq
 (.seq
 (.ae [aQ 6 2 0,
 aI 7 6 2 0 1 false,
 aa 8 1,
 aU 9 7 8 (.bin .eql)] [1,2,9])
 (.cond (.t 9)
 (.seq
 (.ae [a0 4 T_] [4])
 .ret)
 .skip))
 (.seq
 (.seq
 (.ae [a0 5 (k_ 0)] [1,2,5])
 (.block 0
 g351L0))
 (.seq
 (.ae [a0 4 F_] [4])
 .ret)))),none,false⟩
def g352B0:aw:=
 (.seq
 (.seq
 (.ae [aa 41 14,
 aQ 42 12 2,
 aI 43 42 12 2 1 false,
 aH 44 43 .len,
 aU 45 41 44 (.bin .lss)] [0,1,2,4,10,12,13,14,45])
 (.cond (.t 45)
 .skip
 (.exit 0)))
 (.seq
 (.block 1
 (.seq
 (.ae [aQ 48 12 2,
 aI 49 48 12 2 1 false,
 aa 50 14,
 aU 51 49 50 (.aC 5),
 aH 52 51 (.aK 5 true),
 ba 53 52 (.aA 363),
 bE 15 ez,
 aV 15 53 15 0 5] [0,1,2,4,10,12,13,14,15])
 (.ae [aI 54 13 13 0 11 true,
 aa 55 0,
 aa 56 1,
 aa 57 2,
 aI 58 15 15 0 5 true,
 aa 59 4,
 a7 60 59 1 (.bin .sub),
 bB 61 [.t 55,.t 56,.t 57,.t 58,.t 60] (.aL 326 []),
 aU 62 54 61 (.aT 11),
 a8 63 [k_ 5,.t 62] (.build eu [(0,1),(4,1)]),
 aV 13 63 13 0 11] [0,1,2,4,10,12,13,14])))
 (.ae [aa 46 14,
 a7 47 46 1 (.bin .add),
 aa 14 47] [0,1,2,4,10,12,13,14])))
def g352L0:aw:=.loop [0,1,2,4,10,12,13,14] g352B0
theorem g352L0e: cl AP g352L0 st=after (cl AP g352L0) (cl AP g352B0 (norm (restrict [0,1,2,4,10,12,13,14] st))):=aG
def g352:aJ:=⟨5,65,[.c 10 11 true],
 (.seq
 (.ae [ba 8 3 (.box 8 5),
 bE 10 eu] [0,1,2,4,8,10])
 (.seq
 (.ae [aa 16 1,
 aa 17 2,
 aI 18 8 8 0 5 true,
 bB 19 [.t 16,.t 17,.t 18,.c (.bD []),k_ 3] (.dG 362),
 aa 11 19] [0,1,2,4,8,10,11])
 (.seq
 (.seq
 (.ae [aa 20 11,
 aH 21 20 .len,
 a7 22 21 0 (.bin .eql)] [0,1,2,4,8,10,11,22])
 (.cond (.t 22)
 (.seq
 (.ae [aa 23 0,
 aa 24 1,
 aa 25 2,
 aI 26 8 8 0 5 true,
 bB 27 [.t 23,.t 24,.t 25,.t 26] (.aL 348 []),
 aV 10 27 10 0 11] [10])
 .ret)
 .skip))
 (.seq
 (.ae [aa 28 11,
 aa 29 0,
 aa 30 11,
 aH 31 30 .len,
 bH 32 29 31 (.aL 68 []),
 aU 33 28 32 (.aC 4),
 aH 34 33 (.aK 4 true),
 bE 12 [dP,.bool false,bO,bO],
 aV 12 34 12 0 4] [0,1,2,4,10,12])
 (.seq
 (.ae [aQ 35 12 0,
 aI 36 35 12 0 1 false,
 a8 37 [k_ 1,.t 36] (.build eu [(0,1),(2,1)]),
 bE 13 eu,
 aV 13 37 13 0 11] [0,1,2,4,10,12,13])
 (.seq
 (.seq
 (.ae [aQ 38 12 1,
 aI 39 38 12 1 1 false] [0,1,2,4,10,12,13,39])
 (.cond (.t 39)
 (.ae [aQ 40 13 0,
 jX [.t 40,k_ 2] (.dc 13 0 1)] [0,1,2,4,10,12,13])
 .skip))
 (.seq
 (.seq
 (.ae [a0 14 (k_ 0)] [0,1,2,4,10,12,13,14])
 (.block 0
 g352L0))
 (.seq
 (.ae [aI 64 13 13 0 11 true,
 aV 10 64 10 0 11] [10])
 .ret)))))))),none,false⟩
def g353B0:aw:=
 (.seq
 (.seq
 (.ae [aa 17 5,
 aQ 18 1 1,
 aI 19 18 1 1 1 false,
 aH 20 19 .len,
 aU 21 17 20 (.bin .lss)] [1,2,4,5,21])
 (.cond (.t 21)
 .skip
 (.exit 0)))
 (.seq
 (.block 1
 (.seq
 (.ae [aQ 24 1 1,
 aI 25 24 1 1 1 false,
 aa 26 5,
 aU 27 25 26 (.aC 20),
 aH 28 27 (.aK 20 true),
 bE 6 [aZ,.bool false,dP,.bool false,aZ,dP,aZ,aZ,bO,aZ,aZ,dP,aZ,bO,bO,aZ,dP,aZ,aZ,bO],
 aV 6 28 6 0 20] [1,2,4,5,6])
 (.seq
 (.seq
 (.ae [aa 29 4,
 aQ 30 6 2,
 aI 31 30 6 2 1 false,
 bH 32 29 31 (.aA 364)] [1,2,4,5,6,32])
 (.cond (.t 32)
 (.seq
 (.ae [aQ 33 6 0,
 aI 34 33 6 0 1 false,
 bB 35 [k_ 6,.t 34] (.aA 365),
 aV 2 35 2 0 2] [2])
 .ret)
 .skip))
 (.seq
 (.seq
 (.ae [aQ 36 6 3,
 aI 37 36 6 3 1 false] [1,2,4,5,6,37])
 (.cond (.t 37)
 (.seq
 (.ae [aQ 38 1 0,
 aI 39 38 1 0 1 false,
 aQ 40 6 4,
 aI 41 40 6 4 5 true,
 aQ 42 6 4,
 aI 43 42 6 4 5 true,
 ba 44 43 (.aA 196),
 bB 45 [.t 39,.t 41,.t 44] (.aA 186),
 aa 7 45] [1,2,4,5,6,7])
 (.seq
 (.ae [aa 46 7,
 a7 47 46 0 (.bin .neq)] [1,2,4,5,6,7,47])
 (.cond (.t 47)
 (.seq
 (.ae [aa 48 7,
 aQ 49 6 0,
 aI 50 49 6 0 1 false,
 bH 51 48 50 (.aA 365),
 aV 2 51 2 0 2] [2])
 .ret)
 .skip)))
 .skip))
 (.seq
 (.ae [aa 52 4,
 bB 53 [.c (.bD []),.t 52] (.append 1 16),
 aa 8 53] [1,2,4,5,6,8])
 (.seq
 (.seq
 (.ae [aQ 54 6 1,
 aI 55 54 6 1 1 false] [1,2,4,5,6,8,55])
 (.cond (.t 55)
 (.ae [aa 56 8,
 aQ 57 6 2,
 aI 58 57 6 2 1 false,
 aH 59 58 (.aT 1),
 bH 60 56 59 (.append 1 16),
 aa 8 60] [1,2,4,5,6,8])
 .skip))
 (.seq
 (.seq
 (.ae [aQ 61 1 0,
 aI 62 61 1 0 1 false,
 aa 63 8,
 aQ 64 6 9,
 aI 65 64 6 9 11 true,
 bB 66 [.t 62,.t 63,.t 65] (.aA 366),
 bE 9 [aZ,aZ],
 aV 9 66 9 0 2] [1,2,4,5,6,9])
 (.seq
 (.ae [aQ 67 9 0,
 aI 68 67 9 0 1 false,
 a7 69 68 0 (.bin .neq)] [1,2,4,5,6,9,69])
 (.cond (.t 69)
 (.seq
 (.ae [aI 70 9 9 0 2 true,
 aV 2 70 2 0 2] [2])
 .ret)
 .skip)))
 (.ae [aa 71 4,
 aQ 72 6 2,
 aI 73 72 6 2 1 false,
 aH 74 73 (.aT 1),
 bH 75 71 74 (.append 1 16),
 aa 4 75] [1,2,4,5]))))))))
 (.ae [aa 22 5,
 a7 23 22 1 (.bin .add),
 aa 5 23] [1,2,4,5])))
def g353L0:aw:=.loop [1,2,4,5] g353B0
theorem g353L0e: cl AP g353L0 st=after (cl AP g353L0) (cl AP g353B0 (norm (restrict [1,2,4,5] st))):=aG
def g353:aJ:=⟨1,77,[.c 2 2 true],
 (.seq
 (.ae [ba 1 0 (.box 1 2),
 bE 2 [aZ,aZ]] [1,2])
 (.seq
 (.seq
 (.ae [aQ 10 1 0,
 aI 11 10 1 0 1 false,
 ba 12 11 (.aA 189),
 bE 3 [aZ,aZ],
 aV 3 12 3 0 2] [1,2,3])
 (.seq
 (.ae [aQ 13 3 0,
 aI 14 13 3 0 1 false,
 a7 15 14 0 (.bin .neq)] [1,2,3,15])
 (.cond (.t 15)
 (.seq
 (.ae [aI 16 3 3 0 2 true,
 aV 2 16 2 0 2] [2])
 .ret)
 .skip)))
 (.seq
 (.ae [a8 4 [.c (.bD [])] .mv] [1,2,4])
 (.seq
 (.seq
 (.ae [a0 5 (k_ 0)] [1,2,4,5])
 (.block 0
 g353L0))
 (.seq
 (.ae [a8 76 [] (.build [aZ,aZ] []),
 aV 2 76 2 0 2] [2])
 .ret))))),none,false⟩
def g355:aJ:=⟨3,12,[.t 6],
 (.seq
 (.ae [ba 3 0 (.box 3 2),
 ba 4 1 (.box 4 5),
 a0 6 (k_ 0)] [2,3,4])
 (.seq
 (.ae [aI 7 3 3 0 2 true,
 aI 8 4 4 0 5 true,
 aa 9 2,
 a7 10 9 0 .mx,
 bB 11 [.t 7,.t 8,.t 10] (.aA 371),
 aa 6 11] [6])
 .ret)),none,false⟩
def g358:aJ:=⟨2,14,[.c 4 5 true,.t 5],
 (.seq
 (.ae [ba 2 0 (.box 2 2),
 ba 3 1 (.box 3 5),
 bE 4 ez,
 a0 5 F_] [2,3,4])
 (.seq
 (.seq
 (.ae [aI 6 2 2 0 2 true,
 aI 7 3 3 0 5 true,
 bB 8 [.t 6,.t 7,k_ 4000] (.aA 355),
 a7 9 8 4000 (.bin .gtr)] [2,3,4,9])
 (.cond (.t 9)
 (.seq
 (.ae [a8 10 [] (.build ez []),
 aV 4 10 4 0 5,
 a0 5 F_] [4,5])
 .ret)
 .skip))
 (.seq
 (.ae [aI 11 2 2 0 2 true,
 aI 12 3 3 0 5 true,
 bH 13 11 12 (.aA 373),
 aV 4 13 4 0 5,
 a0 5 T_] [4,5])
 .ret))),none,false⟩
def g359:aJ:=⟨3,55,[.c 6 11 true,.t 7],
 (.seq
 (.ae [ba 3 0 (.box 3 11),
 ba 5 2 (.box 5 11),
 bE 6 eu,
 a0 7 F_] [1,3,5,6])
 (.seq
 (.seq
 (.ae [aa 11 1,
 aH 12 11 .len,
 a7 13 12 0 (.bin .eql)] [1,3,5,6,13])
 (.cond (.t 13)
 (.seq
 (.ae [aI 14 5 5 0 11 true,
 aV 6 14 6 0 11,
 a0 7 T_] [6,7])
 .ret)
 .skip))
 (.seq
 (.ae [aI 15 3 3 0 11 true,
 ba 16 15 (.aL 145 []),
 aa 8 16] [1,3,5,6,8])
 (.seq
 (.seq
 (.ae [aa 17 1,
 a7 18 17 0 (.aC 1),
 aH 19 18 (.aK 1 false),
 a7 20 19 0 (.bin .lss),
 aa 21 20,
 aY 22 21 false 1 (.v (.mv)),
 cB 23 21 false [.t 22,k_ 0] (.v (.aC 1)),
 aY 24 21 false 23 (.v (.aK 1 false)),
 aY 25 21 false 8 (.v (.mv)),
 aY 26 21 false 25 (.v (.len)),
 cB 27 21 false [.t 24,.t 26] (.v (.bin .geq)),
 a8 28 [.t 21,T_,.t 27] .pick] [1,3,5,6,8,28])
 (.cond (.t 28)
 (.seq
 (.ae [aI 29 3 3 0 11 true,
 aV 6 29 6 0 11,
 a0 7 F_] [6,7])
 .ret)
 .skip))
 (.seq
 (.ae [aa 31 8,
 aa 32 1,
 a7 33 32 0 (.aC 1),
 aH 34 33 (.aK 1 false),
 aU 35 31 34 (.aC 11),
 ba 36 35 (.a6 11 true),
 aa 37 1,
 a7 38 37 1 (.slice false 1 true false false),
 aI 39 5 5 0 11 true,
 bB 40 [.t 36,.t 38,.t 39] (.aA 359),
 aa 30 40,
 aH 41 30 (.ext 0),
 aH 42 30 (.ext 1),
 bE 9 eu,
 aV 9 41 9 0 11,
 aa 10 42] [1,3,6,8,9,10])
 (.seq
 (.seq
 (.ae [aa 43 10,
 aH 44 43 (.un .not)] [1,3,6,8,9,44])
 (.cond (.t 44)
 (.seq
 (.ae [aI 45 3 3 0 11 true,
 aV 6 45 6 0 11,
 a0 7 F_] [6,7])
 .ret)
 .skip))
 (.seq
 (.ae [aa 46 8,
 aa 47 1,
 a7 48 47 0 (.aC 1),
 aH 49 48 (.aK 1 false),
 aI 50 9 9 0 11 true,
 aU 51 46 49 (.aC 11),
 jX [.t 51,.t 50] (.cz 11)] [3,6,8])
 (.seq
 (.ae [aI 52 3 3 0 11 true,
 aa 53 8,
 bH 54 52 53 (.dG 374),
 aV 6 54 6 0 11,
 a0 7 T_] [6,7])
 .ret)))))))),none,false⟩
def g361B0:aw:=
 (.seq
 (.seq
 (.ae [aa 9 5,
 aa 10 4,
 aH 11 10 .len,
 aU 12 9 11 (.bin .lss)] [1,2,3,4,5,12])
 (.cond (.t 12)
 .skip
 (.exit 0)))
 (.seq
 (.block 1
 (.seq
 (.ae [aa 15 4,
 aa 16 5,
 aU 17 15 16 (.aC 5),
 aQ 18 17 3,
 aH 19 18 (.aK 1 false),
 a7 20 19 99 (.bin .eql)] [1,2,3,4,5,20])
 (.cond (.t 20)
 (.ae [aa 21 3,
 aa 22 4,
 aa 23 5,
 aU 24 22 23 (.aC 5),
 aQ 25 24 2,
 aH 26 25 (.aK 1 false),
 a8 27 [k_ 900,.t 26] (.bin .add),
 aH 28 27 (.aT 1),
 bH 29 21 28 (.append 1 8),
 aa 3 29] [1,2,3,4,5])
 .skip)))
 (.ae [aa 13 5,
 a7 14 13 1 (.bin .add),
 aa 5 14] [1,2,3,4,5])))
def g361L0:aw:=.loop [1,2,3,4,5] g361B0
theorem g361L0e: cl AP g361L0 st=after (cl AP g361L0) (cl AP g361B0 (norm (restrict [1,2,3,4,5] st))):=aG
def g361:aJ:=⟨1,34,[.c 2 6 true],
 (.seq
 (.ae [ba 1 0 (.box 1 5),
 bE 2 pW] [1,2])
 (.seq
 (.ae [a8 3 [.c (.bD [])] .mv] [1,2,3])
 (.seq
 (.ae [aI 6 1 1 0 5 true,
 aH 7 6 (.aT 5),
 ba 8 7 (.aA 59),
 aa 4 8] [1,2,3,4])
 (.seq
 (.seq
 (.ae [a0 5 (k_ 0)] [1,2,3,4,5])
 (.block 0
 g361L0))
 (.seq
 (.ae [aI 30 1 1 0 5 true,
 ba 31 30 (.aA 375),
 aa 32 3,
 bH 33 31 32 (.aA 208),
 aV 2 33 2 0 6] [2])
 .ret))))),none,false⟩
def g362B0:aw:=
 (.seq
 (.seq
 (.ae [aa 48 19,
 aa 49 18,
 aH 50 49 .len,
 aU 51 48 50 (.bin .lss)] [0,4,14,15,16,17,18,19,51])
 (.cond (.t 51)
 .skip
 (.exit 0)))
 (.seq
 (.block 1
 (.seq
 (.ae [aa 54 15,
 aa 55 18,
 aa 56 19,
 aU 57 55 56 (.aC 7),
 aQ 58 57 1,
 aH 59 58 (.aK 6 true),
 bH 60 54 59 (.aA 377),
 bE 20 pW,
 aV 20 60 20 0 6] [0,4,14,15,16,17,18,19,20])
 (.ae [aa 61 17,
 aI 62 14 14 0 2 true,
 aI 63 20 20 0 6 true,
 aI 64 16 16 0 5 true,
 aa 65 15,
 aa 66 4,
 aa 67 18,
 aa 68 19,
 aU 69 67 68 (.aC 7),
 aQ 70 69 0,
 aH 71 70 (.aK 1 false),
 aH 72 71 (.build [dP,.bool false,bO,bO] [(0,1)]),
 bB 73 [.t 62,.t 63,.t 64,.t 65,.t 66,.t 72] (.aA 378),
 bH 74 61 73 (.append 4 72),
 aa 17 74] [0,4,14,15,16,17,18,19])))
 (.ae [aa 52 19,
 a7 53 52 1 (.bin .add),
 aa 19 53] [0,4,14,15,16,17,18,19])))
def g362L0:aw:=.loop [0,4,14,15,16,17,18,19] g362B0
theorem g362L0e: cl AP g362L0 st=after (cl AP g362L0) (cl AP g362B0 (norm (restrict [0,4,14,15,16,17,18,19] st))):=aG
def g362B2:aw:=
 (.seq
 (.seq
 (.ae [aa 81 22,
 aa 82 0,
 aa 83 21,
 aU 84 82 83 (.aC 4),
 aQ 85 84 3,
 aH 86 85 (.aK 1 false),
 aH 87 86 .len,
 aU 88 81 87 (.bin .lss)] [0,4,14,15,16,17,21,22,88])
 (.cond (.t 88)
 .skip
 (.exit 4)))
 (.seq
 (.block 5
 (.seq
 (.ae [aa 92 0,
 aa 93 0,
 aa 94 21,
 aU 95 93 94 (.aC 4),
 aQ 96 95 3,
 aH 97 96 (.aK 1 false),
 aa 98 22,
 aU 99 97 98 (.aC 3),
 aQ 100 99 1,
 aH 101 100 (.aK 1 false),
 bH 102 92 101 (.aA 193),
 aa 91 102,
 aH 103 91 (.ext 0),
 aH 104 91 (.ext 1),
 bE 23 pW,
 aV 23 103 23 0 6,
 aa 24 104] [0,4,14,15,16,17,21,22,23])
 (.ae [aa 105 17,
 aI 106 14 14 0 2 true,
 aI 107 23 23 0 6 true,
 aI 108 16 16 0 5 true,
 aa 109 15,
 aa 110 4,
 aa 111 0,
 aa 112 21,
 aU 113 111 112 (.aC 4),
 aQ 114 113 3,
 aH 115 114 (.aK 1 false),
 aa 116 22,
 aU 117 115 116 (.aC 3),
 aQ 118 117 1,
 aH 119 118 (.aK 1 false),
 a8 120 [.t 119,T_] (.build [dP,.bool false,bO,bO] [(0,1),(1,1)]),
 bB 121 [.t 106,.t 107,.t 108,.t 109,.t 110,.t 120] (.aA 378),
 bH 122 105 121 (.append 4 72),
 aa 17 122] [0,4,14,15,16,17,21,22])))
 (.ae [aa 89 22,
 a7 90 89 1 (.bin .add),
 aa 22 90] [0,4,14,15,16,17,21,22])))
def g362L2:aw:=.loop [0,4,14,15,16,17,21,22] g362B2
theorem g362L2e: cl AP g362L2 st=after (cl AP g362L2) (cl AP g362B2 (norm (restrict [0,4,14,15,16,17,21,22] st))):=aG
def g362B1:aw:=
 (.seq
 (.seq
 (.ae [aa 75 21,
 aa 76 0,
 aH 77 76 .len,
 aU 78 75 77 (.bin .lss)] [0,4,14,15,16,17,21,78])
 (.cond (.t 78)
 .skip
 (.exit 2)))
 (.seq
 (.block 3
 (.seq
 (.ae [a0 22 (k_ 0)] [0,4,14,15,16,17,21,22])
 (.block 4
 g362L2)))
 (.ae [aa 79 21,
 a7 80 79 1 (.bin .add),
 aa 21 80] [0,4,14,15,16,17,21])))
def g362L1:aw:=.loop [0,4,14,15,16,17,21] g362B1
theorem g362L1e: cl AP g362L1 st=after (cl AP g362L1) (cl AP g362B1 (norm (restrict [0,4,14,15,16,17,21] st))):=aG
def g362:aJ:=⟨5,124,[.t 10],
 (.seq
 (.ae [ba 7 2 (.box 7 5),
 a8 10 [.c (.bD [])] .mv] [0,1,3,4,7])
 (.seq
 (.seq
 (.ae [aI 26 7 7 0 5 true,
 ba 27 26 (.aA 194),
 aa 25 27,
 aH 28 25 (.ext 0),
 aH 29 25 (.ext 1),
 aH 30 25 (.ext 2),
 bE 11 ez,
 bE 12 ez,
 aV 11 28 11 0 5,
 aV 12 29 12 0 5,
 aa 13 30] [0,1,3,4,7,13])
 (.seq
 (.ae [aa 31 13,
 aa 32 31,
 aY 33 32 false 4 (.v (.mv)),
 cB 34 32 false [.t 33,k_ 0] (.v (.bin .lss)),
 a8 35 [.t 32,T_,.t 34] .pick] [0,1,3,4,7,35])
 (.cond (.t 35)
 (.seq
 (.ae [a8 10 [.c (.bD [])] .mv] [10])
 .ret)
 .skip)))
 (.seq
 (.ae [aI 37 7 7 0 5 true,
 aa 38 1,
 aa 39 3,
 bB 40 [.t 37,.t 38,.t 39] (.aA 376),
 aa 36 40,
 aH 41 36 (.ext 0),
 aH 42 36 (.ext 1),
 bE 14 [bO,bO],
 aV 14 41 14 0 2,
 aa 15 42] [0,1,4,7,14,15])
 (.seq
 (.ae [aI 43 7 7 0 5 true,
 aa 44 15,
 bH 45 43 44 (.aA 46),
 bE 16 ez,
 aV 16 45 16 0 5] [0,1,4,14,15,16])
 (.seq
 (.ae [a8 17 [.c (.bD [])] .mv] [0,1,4,14,15,16,17])
 (.seq
 (.ae [aa 46 1,
 ba 47 46 (.aA 201),
 aa 18 47] [0,4,14,15,16,17,18])
 (.seq
 (.seq
 (.ae [a0 19 (k_ 0)] [0,4,14,15,16,17,18,19])
 (.block 0
 g362L0))
 (.seq
 (.seq
 (.ae [a0 21 (k_ 0)] [0,4,14,15,16,17,21])
 (.block 2
 g362L1))
 (.seq
 (.ae [aa 123 17,
 aa 10 123] [10])
 .ret))))))))),none,false⟩
def g363B0:aw:=
 (.seq
 (.seq
 (.ae [aa 9 5,
 aa 10 3,
 aH 11 10 .len,
 aU 12 9 11 (.bin .lss)] [1,2,3,4,5,12])
 (.cond (.t 12)
 .skip
 (.exit 0)))
 (.seq
 (.block 1
 (.ae [aa 15 4,
 aa 16 3,
 aa 17 5,
 aU 18 16 17 (.aC 1),
 aH 19 18 (.aK 1 false),
 bB 20 [] (.aA 34),
 aU 21 19 20 (.build pW [(0,1),(1,5)]),
 aH 22 21 (.aT 6),
 bH 23 15 22 (.append 6 72),
 aa 4 23] [1,2,3,4,5]))
 (.ae [aa 13 5,
 a7 14 13 1 (.bin .add),
 aa 5 14] [1,2,3,4,5])))
def g363L0:aw:=.loop [1,2,3,4,5] g363B0
theorem g363L0e: cl AP g363L0 st=after (cl AP g363L0) (cl AP g363B0 (norm (restrict [1,2,3,4,5] st))):=aG
def g363:aJ:=⟨1,27,[.c 2 5 true],
 (.seq
 (.ae [ba 1 0 (.box 1 5),
 bE 2 ez] [1,2])
 (.seq
 (.ae [aI 6 1 1 0 5 true,
 aH 7 6 (.aT 5),
 ba 8 7 (.aA 56),
 aa 3 8] [1,2,3])
 (.seq
 (.ae [a8 4 [.c (.bD [])] .mv] [1,2,3,4])
 (.seq
 (.seq
 (.ae [a0 5 (k_ 0)] [1,2,3,4,5])
 (.block 0
 g363L0))
 (.seq
 (.ae [aI 24 1 1 0 5 true,
 aa 25 4,
 bH 26 24 25 (.aA 46),
 aV 2 26 2 0 5] [2])
 .ret))))),none,false⟩
def g364B0:aw:=
 (.seq
 (.seq
 (.ae [aa 6 5,
 aa 7 0,
 aH 8 7 .len,
 aU 9 6 8 (.bin .lss)] [0,1,5,9])
 (.cond (.t 9)
 .skip
 (.exit 0)))
 (.seq
 (.block 1
 (.seq
 (.ae [aa 12 0,
 aa 13 5,
 aU 14 12 13 (.aC 1),
 aH 15 14 (.aK 1 false),
 aa 16 1,
 aU 17 15 16 (.bin .eql)] [0,1,5,17])
 (.cond (.t 17)
 (.seq
 (.ae [a0 4 T_] [4])
 .ret)
 .skip)))
 (.ae [aa 10 5,
 a7 11 10 1 (.bin .add),
 aa 5 11] [0,1,5])))
def g364L0:aw:=.loop [0,1,5] g364B0
theorem g364L0e: cl AP g364L0 st=after (cl AP g364L0) (cl AP g364B0 (norm (restrict [0,1,5] st))):=aG
def g364:aJ:=⟨2,18,[.t 4],
 (.seq
 (.ae [a0 4 F_] [0,1])
 (.seq
 (.seq
 (.ae [a0 5 (k_ 0)] [0,1,5])
 (.block 0
 g364L0))
 (.seq
 (.ae [a0 4 F_] [4])
 .ret))),none,false⟩
def g365:aJ:=⟨2,8,[.c 4 2 true],
 (.seq
 (.ae [bE 4 [aZ,aZ]] [0,1,4])
 (.seq
 (.ae [aa 5 0,
 aa 6 1,
 aU 7 5 6 (.build [aZ,aZ] [(0,1),(1,1)]),
 aV 4 7 4 0 2] [4])
 .ret)),none,false⟩
def g366B0:aw:=
 (.seq
 (.seq
 (.ae [aa 61 13,
 aa 62 12,
 aH 63 62 .len,
 aU 64 61 63 (.bin .lss),
 aa 65 64,
 aY 66 65 true 7 (.v (.bh 0)),
 aY 67 65 true 66 (.bl 7 0 1 false),
 cB 68 65 true [.t 67,k_ 0] (.v (.bin .eql)),
 a8 69 [.t 65,.t 68,F_] .pick] [0,1,5,6,7,12,13,69])
 (.cond (.t 69)
 .skip
 (.exit 1)))
 (.seq
 (.block 2
 (.ae [aa 72 0,
 aa 73 1,
 bB 74 [.c (.bD []),.t 73] (.append 1 16),
 aI 75 5 5 0 11 true,
 aa 76 13,
 bH 77 75 76 (.aA 380),
 bH 78 74 77 (.append 1 16),
 aa 79 12,
 aa 80 13,
 aU 81 79 80 (.aC 11),
 aH 82 81 (.aK 11 true),
 bB 83 [.t 72,.t 78,.t 82] (.aA 366),
 aV 7 83 7 0 2] [0,1,5,6,7,12,13]))
 (.ae [aa 70 13,
 a7 71 70 1 (.bin .add),
 aa 13 71] [0,1,5,6,7,12,13])))
def g366L0:aw:=.loop [0,1,5,6,7,12,13] g366B0
theorem g366L0e: cl AP g366L0 st=after (cl AP g366L0) (cl AP g366B0 (norm (restrict [0,1,5,6,7,12,13] st))):=aG
def g366:aJ:=⟨3,85,[.c 6 2 true],
 (.seq
 (.ae [ba 5 2 (.box 5 11),
 bE 6 [aZ,aZ]] [0,1,5,6])
 (.seq
 (.ae [a8 14 [] (.build [aZ,aZ] []),
 bE 7 [aZ,aZ],
 aV 7 14 7 0 2] [0,1,5,6,7])
 (.seq
 (.seq
 (.ae [aQ 15 5 0,
 aI 16 15 5 0 1 false] [0,1,5,6,7,16])
 (.block 0
 (.seq
 (.ae [a7 18 16 1 (.bin .eql),
 aa 17 18] [0,1,5,6,7,16,17])
 (.cond (.t 17)
 (.seq
 (.ae [aa 19 1,
 aQ 20 5 2,
 aI 21 20 5 2 1 false,
 bH 22 19 21 (.aA 364),
 aH 23 22 (.un .not)] [0,1,5,6,7,23])
 (.cond (.t 23)
 (.ae [aQ 24 5 1,
 aI 25 24 5 1 1 false,
 bB 26 [k_ 9,.t 25] (.aA 365),
 aV 7 26 7 0 2] [0,1,5,6,7])
 .skip))
 (.seq
 (.ae [a7 28 16 2 (.bin .eql),
 aa 27 28] [0,1,5,6,7,16,27])
 (.cond (.t 27)
 (.seq
 (.ae [aa 30 0,
 aQ 31 5 2,
 aI 32 31 5 2 1 false,
 bH 33 30 32 (.aA 191),
 aa 29 33,
 aH 34 29 (.ext 0),
 aH 35 29 (.ext 1),
 aH 36 29 (.ext 2),
 aa 8 34,
 aa 9 35,
 aa 10 36] [0,1,5,6,7,10])
 (.seq
 (.ae [aa 37 10,
 aH 38 37 (.un .not)] [0,1,5,6,7,38])
 (.cond (.t 38)
 (.ae [aQ 39 5 1,
 aI 40 39 5 1 1 false,
 bB 41 [k_ 9,.t 40] (.aA 365),
 aV 7 41 7 0 2] [0,1,5,6,7])
 .skip)))
 (.seq
 (.ae [a7 43 16 8 (.bin .eql),
 aa 42 43] [0,1,5,6,7,16,42])
 (.cond (.t 42)
 (.ae [aa 44 0,
 aI 45 5 5 0 11 true,
 bH 46 44 45 (.aA 379),
 aV 7 46 7 0 2] [0,1,5,6,7])
 (.seq
 (.ae [a7 48 16 9 (.bin .eql),
 aa 47 48] [0,1,5,6,7,47])
 (.cond (.t 47)
 (.seq
 (.ae [aa 49 0,
 aQ 50 5 6,
 aI 51 50 5 6 5 true,
 bB 52 [.t 49,.t 51,.c (.bD [])] (.aA 186),
 aa 11 52] [0,1,5,6,7,11])
 (.seq
 (.ae [aa 53 11,
 a7 54 53 0 (.bin .neq)] [0,1,5,6,7,11,54])
 (.cond (.t 54)
 (.ae [aa 55 11,
 aQ 56 5 1,
 aI 57 56 5 1 1 false,
 bH 58 55 57 (.aA 365),
 aV 7 58 7 0 2] [0,1,5,6,7])
 .skip)))
 .skip))))))))))
 (.seq
 (.ae [aI 59 5 5 0 11 true,
 ba 60 59 (.aA 145),
 aa 12 60] [0,1,5,6,7,12])
 (.seq
 (.seq
 (.ae [a0 13 (k_ 0)] [0,1,5,6,7,12,13])
 (.block 1
 g366L0))
 (.seq
 (.ae [aI 84 7 7 0 2 true,
 aV 6 84 6 0 2] [6])
 .ret)))))),none,false⟩
def g371B0:aw:=
 (.seq
 (.seq
 (.ae [aa 12 8,
 aQ 13 4 4,
 aI 14 13 4 4 1 false,
 aH 15 14 .len,
 aU 16 12 15 (.bin .lss),
 aa 17 16,
 aY 18 17 true 7 (.v (.mv)),
 aY 19 17 true 2 (.v (.mv)),
 cB 20 17 true [.t 18,.t 19] (.v (.bin .leq)),
 a8 21 [.t 17,.t 20,F_] .pick] [2,3,4,7,8,21])
 (.cond (.t 21)
 .skip
 (.exit 0)))
 (.seq
 (.block 1
 (.ae [aa 24 7,
 aI 25 3 3 0 2 true,
 aQ 26 4 4,
 aI 27 26 4 4 1 false,
 aa 28 8,
 aU 29 27 28 (.aC 5),
 aH 30 29 (.aK 5 true),
 aa 31 2,
 aa 32 7,
 aU 33 31 32 (.bin .sub),
 bB 34 [.t 25,.t 30,.t 33] (.aA 371),
 aU 35 24 34 (.bin .add),
 aa 7 35] [2,3,4,7,8]))
 (.ae [aa 22 8,
 a7 23 22 1 (.bin .add),
 aa 8 23] [2,3,4,7,8])))
def g371L0:aw:=.loop [2,3,4,7,8] g371B0
theorem g371L0e: cl AP g371L0 st=after (cl AP g371L0) (cl AP g371B0 (norm (restrict [2,3,4,7,8] st))):=aG
def g371:aJ:=⟨3,40,[.t 6],
 (.seq
 (.ae [ba 3 0 (.box 3 2),
 ba 4 1 (.box 4 5),
 a0 6 (k_ 0)] [2,3,4])
 (.seq
 (.ae [aI 9 3 3 0 2 true,
 aI 10 4 4 0 5 true,
 bH 11 9 10 (.aA 386),
 aV 4 11 4 0 5] [2,3,4])
 (.seq
 (.ae [a0 7 (k_ 1)] [2,3,4,7])
 (.seq
 (.seq
 (.ae [a0 8 (k_ 0)] [2,3,4,7,8])
 (.block 0
 g371L0))
 (.seq
 (.ae [aa 36 7,
 aa 37 2,
 a7 38 37 1 (.bin .add),
 aU 39 36 38 .mn,
 aa 6 39] [6])
 .ret))))),none,false⟩
def g372B0:aw:=
 (.seq
 (.seq
 (.ae [aa 14 6,
 aa 15 1,
 aH 16 15 .len,
 aU 17 14 16 (.bin .lss)] [1,5,6,17])
 (.cond (.t 17)
 .skip
 (.exit 0)))
 (.seq
 (.block 1
 (.ae [aa 20 5,
 aa 21 1,
 aa 22 6,
 aU 23 21 22 (.aC 5),
 aH 24 23 (.aK 5 true),
 bH 25 20 24 (.aL 387 [])] [1,5,6]))
 (.ae [aa 18 6,
 a7 19 18 1 (.bin .add),
 aa 6 19] [1,5,6])))
def g372L0:aw:=.loop [1,5,6] g372B0
theorem g372L0e: cl AP g372L0 st=after (cl AP g372L0) (cl AP g372B0 (norm (restrict [1,5,6] st))):=aG
def g372:aJ:=⟨2,30,[.t 4],
 (.seq
 (.ae [ba 2 0 (.box 2 2),
 a8 4 [.c (.bD [])] .mv] [1,2])
 (.seq
 (.ae [aI 7 2 2 0 2 true,
 aQ 8 2 0,
 aI 9 8 2 0 1 false,
 aH 10 9 .len,
 bH 11 10 10 (.jm 1 1 false [.bool false]),
 aU 12 7 11 (.build [bO,bO,bO,bO] [(0,2),(3,1)]),
 ba 13 12 (.l4 4),
 aa 5 13] [1,5])
 (.seq
 (.seq
 (.ae [a0 6 (k_ 0)] [1,5,6])
 (.block 0
 g372L0))
 (.seq
 (.ae [aa 26 5,
 aH 27 26 .a9,
 aQ 28 27 2,
 ba 29 28 (.a6 1 false),
 aa 4 29] [4])
 .ret)))),none,false⟩
def g373B0:aw:=
 (.seq
 (.seq
 (.ae [aa 12 6,
 aQ 13 3 4,
 aI 14 13 3 4 1 false,
 aH 15 14 .len,
 aU 16 12 15 (.bin .lss)] [2,3,4,5,6,16])
 (.cond (.t 16)
 .skip
 (.exit 0)))
 (.seq
 (.block 1
 (.ae [aQ 19 5 4,
 aI 20 19 5 4 1 false,
 aI 21 2 2 0 2 true,
 aQ 22 3 4,
 aI 23 22 3 4 1 false,
 aa 24 6,
 aU 25 23 24 (.aC 5),
 aH 26 25 (.aK 5 true),
 bH 27 21 26 (.aA 373),
 aH 28 27 (.aT 5),
 bH 29 20 28 (.append 5 64),
 aQ 30 5 4,
 aV 30 29 5 4 1] [2,3,4,5,6]))
 (.ae [aa 17 6,
 a7 18 17 1 (.bin .add),
 aa 6 18] [2,3,4,5,6])))
def g373L0:aw:=.loop [2,3,4,5,6] g373B0
theorem g373L0e: cl AP g373L0 st=after (cl AP g373L0) (cl AP g373B0 (norm (restrict [2,3,4,5,6] st))):=aG
def g373:aJ:=⟨2,32,[.c 4 5 true],
 (.seq
 (.ae [ba 2 0 (.box 2 2),
 ba 3 1 (.box 3 5),
 bE 4 ez] [2,3,4])
 (.seq
 (.ae [aI 7 2 2 0 2 true,
 aI 8 3 3 0 5 true,
 bH 9 7 8 (.aA 386),
 aV 3 9 3 0 5] [2,3,4])
 (.seq
 (.ae [aI 10 3 3 0 5 true,
 bE 5 ez,
 aV 5 10 5 0 5] [2,3,4,5])
 (.seq
 (.ae [aQ 11 5 4,
 jX [.t 11,.c (.bD [])] (.dc 5 4 1)] [2,3,4,5])
 (.seq
 (.seq
 (.ae [a0 6 (k_ 0)] [2,3,4,5,6])
 (.block 0
 g373L0))
 (.seq
 (.ae [aI 31 5 5 0 5 true,
 aV 4 31 4 0 5] [4])
 .ret)))))),none,false⟩
def g374B0:aw:=
 (.seq
 (.seq
 (.ae [aa 30 7,
 aQ 31 6 5,
 aI 32 31 6 5 1 false,
 aH 33 32 .len,
 aU 34 30 33 (.bin .lss)] [1,4,5,6,7,34])
 (.cond (.t 34)
 .skip
 (.exit 0)))
 (.seq
 (.block 1
 (.ae [aQ 37 6 5,
 aI 38 37 6 5 1 false,
 aa 39 7,
 aa 40 1,
 aa 41 5,
 aa 42 7,
 aU 43 41 42 (.bin .add),
 aU 44 40 43 (.aC 11),
 aH 45 44 (.aK 11 true),
 aU 46 38 39 (.aC 14),
 aQ 47 46 3,
 jX [.t 47,.t 45] (.cz 11)] [1,4,5,6,7]))
 (.ae [aa 35 7,
 a7 36 35 1 (.bin .add),
 aa 7 36] [1,4,5,6,7])))
def g374L0:aw:=.loop [1,4,5,6,7] g374B0
theorem g374L0e: cl AP g374L0 st=after (cl AP g374L0) (cl AP g374B0 (norm (restrict [1,4,5,6,7] st))):=aG
def g374:aJ:=⟨2,49,[.c 4 11 true],
 (.seq
 (.ae [ba 2 0 (.box 2 11),
 bE 4 eu] [1,2,4])
 (.seq
 (.ae [aQ 8 2 4,
 aI 9 8 2 4 1 false,
 aH 10 9 .len,
 aa 5 10] [1,2,4,5])
 (.seq
 (.seq
 (.ae [aa 11 1,
 aH 12 11 .len,
 aa 13 5,
 aQ 14 2 5,
 aI 15 14 2 5 1 false,
 aH 16 15 .len,
 aU 17 13 16 (.bin .add),
 aU 18 12 17 (.bin .neq)] [1,2,4,5,18])
 (.cond (.t 18)
 (.seq
 (.ae [aI 19 2 2 0 11 true,
 aV 4 19 4 0 11] [4])
 .ret)
 .skip))
 (.seq
 (.ae [aI 20 2 2 0 11 true,
 bE 6 eu,
 aV 6 20 6 0 11] [1,2,4,5,6])
 (.seq
 (.ae [aa 21 1,
 aa 22 5,
 aU 23 21 22 (.slice false 11 false true false),
 bB 24 [.c (.bD []),.t 23] (.append 11 152),
 aQ 25 2 5,
 aI 26 25 2 5 1 false,
 bB 27 [.c (.bD []),.t 26] (.cZ 14 200 true),
 aQ 28 6 4,
 aV 28 24 6 4 1,
 aQ 29 6 5,
 aV 29 27 6 5 1] [1,4,5,6])
 (.seq
 (.seq
 (.ae [a0 7 (k_ 0)] [1,4,5,6,7])
 (.block 0
 g374L0))
 (.seq
 (.ae [aI 48 6 6 0 11 true,
 aV 4 48 4 0 11] [4])
 .ret))))))),none,false⟩
def g375B0:aw:=
 (.seq
 (.seq
 (.ae [aa 19 4,
 aQ 20 1 4,
 aI 21 20 1 4 1 false,
 aH 22 21 .len,
 aU 23 19 22 (.bin .lss)] [1,2,3,4,23])
 (.cond (.t 23)
 .skip
 (.exit 0)))
 (.seq
 (.block 1
 (.ae [aQ 26 3 4,
 aI 27 26 3 4 1 false,
 aQ 28 1 4,
 aI 29 28 1 4 1 false,
 aa 30 4,
 aU 31 29 30 (.aC 5),
 aH 32 31 (.aK 5 true),
 ba 33 32 (.aA 375),
 aH 34 33 (.aT 5),
 bH 35 27 34 (.append 5 64),
 aQ 36 3 4,
 aV 36 35 3 4 1] [1,2,3,4]))
 (.ae [aa 24 4,
 a7 25 24 1 (.bin .add),
 aa 4 25] [1,2,3,4])))
def g375L0:aw:=.loop [1,2,3,4] g375B0
theorem g375L0e: cl AP g375L0 st=after (cl AP g375L0) (cl AP g375B0 (norm (restrict [1,2,3,4] st))):=aG
def g375:aJ:=⟨1,38,[.c 2 5 true],
 (.seq
 (.ae [ba 1 0 (.box 1 5),
 bE 2 ez] [1,2])
 (.seq
 (.seq
 (.ae [aQ 5 1 0,
 aI 6 5 1 0 1 false,
 a7 7 6 3 (.bin .eql),
 aa 8 7,
 aY 9 8 true 1 (.v (.bh 3)),
 aY 10 8 true 9 (.bl 1 3 1 false),
 cB 11 8 true [.t 10,k_ 99] (.v (.bin .eql)),
 a8 12 [.t 8,.t 11,F_] .pick] [1,2,12])
 (.cond (.t 12)
 (.seq
 (.ae [aQ 13 1 2,
 aI 14 13 1 2 1 false,
 a8 15 [k_ 900,.t 14] (.bin .add),
 ba 16 15 (.aA 63),
 aV 2 16 2 0 5] [2])
 .ret)
 .skip))
 (.seq
 (.ae [aI 17 1 1 0 5 true,
 bE 3 ez,
 aV 3 17 3 0 5] [1,2,3])
 (.seq
 (.ae [aQ 18 3 4,
 jX [.t 18,.c (.bD [])] (.dc 3 4 1)] [1,2,3])
 (.seq
 (.seq
 (.ae [a0 4 (k_ 0)] [1,2,3,4])
 (.block 0
 g375L0))
 (.seq
 (.ae [aI 37 3 3 0 5 true,
 aV 2 37 2 0 5] [2])
 .ret)))))),none,false⟩
def g376B0:aw:=
 (.seq
 (.seq
 (.ae [aa 18 10,
 aa 19 9,
 aH 20 19 .len,
 aU 21 18 20 (.bin .lss)] [2,3,6,8,9,10,21])
 (.cond (.t 21)
 .skip
 (.exit 0)))
 (.seq
 (.block 1
 (.ae [aa 24 8,
 aa 25 9,
 aa 26 10,
 aU 27 25 26 (.aC 7),
 aQ 28 27 1,
 aQ 29 28 1,
 aH 30 29 (.aK 5 true),
 aH 31 30 (.aT 5),
 bH 32 24 31 (.append 5 64),
 aa 8 32] [2,3,6,8,9,10]))
 (.ae [aa 22 10,
 a7 23 22 1 (.bin .add),
 aa 10 23] [2,3,6,8,9,10])))
def g376L0:aw:=.loop [2,3,6,8,9,10] g376B0
theorem g376L0e: cl AP g376L0 st=after (cl AP g376L0) (cl AP g376B0 (norm (restrict [2,3,6,8,9,10] st))):=aG
def g376B1:aw:=
 (.seq
 (.seq
 (.ae [aa 39 14,
 aa 40 11,
 aH 41 40 .len,
 aU 42 39 41 (.bin .lss)] [2,6,11,12,13,14,42])
 (.cond (.t 42)
 .skip
 (.exit 2)))
 (.seq
 (.block 3
 (.seq
 (.ae [bE 15 ez] [2,6,11,12,13,14,15])
 (.seq
 (.ae [aI 46 12 12 0 2 true,
 aa 47 2,
 aa 48 11,
 aa 49 14,
 aU 50 48 49 (.aC 1),
 aH 51 50 (.aK 1 false),
 bH 52 47 51 (.aA 95),
 bB 53 [.t 46,k_ 1000000,.t 52] (.aA 381),
 aa 45 53,
 aH 54 45 (.ext 0),
 aH 55 45 (.ext 1),
 aV 12 54 12 0 2,
 aV 15 55 15 0 5] [2,6,11,12,13,14,15])
 (.ae [aa 56 13,
 aa 57 11,
 aa 58 14,
 aU 59 57 58 (.aC 1),
 aH 60 59 (.aK 1 false),
 aI 61 15 15 0 5 true,
 aU 62 60 61 (.build pW [(0,1),(1,5)]),
 aH 63 62 (.aT 6),
 bH 64 56 63 (.append 6 72),
 aa 13 64] [2,6,11,12,13,14]))))
 (.ae [aa 43 14,
 a7 44 43 1 (.bin .add),
 aa 14 44] [2,6,11,12,13,14])))
def g376L1:aw:=.loop [2,6,11,12,13,14] g376B1
theorem g376L1e: cl AP g376L1 st=after (cl AP g376L1) (cl AP g376B1 (norm (restrict [2,6,11,12,13,14] st))):=aG
def g376:aJ:=⟨3,67,[.c 6 2 true,.t 7],
 (.seq
 (.ae [ba 3 0 (.box 3 5),
 bE 6 [bO,bO],
 a8 7 [.c (.bD [])] .mv] [1,2,3,6])
 (.seq
 (.ae [a8 8 [.c (.bD [])] .mv] [1,2,3,6,8])
 (.seq
 (.ae [aa 16 1,
 ba 17 16 (.aA 201),
 aa 9 17] [2,3,6,8,9])
 (.seq
 (.seq
 (.ae [a0 10 (k_ 0)] [2,3,6,8,9,10])
 (.block 0
 g376L0))
 (.seq
 (.ae [aI 33 3 3 0 5 true,
 aH 34 33 (.aT 5),
 aa 35 8,
 bH 36 34 35 (.append 5 64),
 ba 37 36 (.aA 56),
 aa 11 37] [2,6,11])
 (.seq
 (.ae [bB 38 [] (.aA 388),
 bE 12 [bO,bO],
 aV 12 38 12 0 2] [2,6,11,12])
 (.seq
 (.ae [a8 13 [.c (.bD [])] .mv] [2,6,11,12,13])
 (.seq
 (.seq
 (.ae [a0 14 (k_ 0)] [2,6,11,12,13,14])
 (.block 2
 g376L1))
 (.seq
 (.ae [aI 65 12 12 0 2 true,
 aa 66 13,
 aV 6 65 6 0 2,
 aa 7 66] [6,7])
 .ret))))))))),none,false⟩
def g377:aJ:=⟨2,12,[.c 4 6 true],
 (.seq
 (.ae [ba 3 1 (.box 3 6),
 bE 4 pW] [0,3,4])
 (.seq
 (.ae [aQ 5 3 0,
 aI 6 5 3 0 1 false,
 aa 7 0,
 aQ 8 3 1,
 aI 9 8 3 1 5 true,
 bH 10 7 9 (.aA 22),
 aU 11 6 10 (.build pW [(0,1),(1,5)]),
 aV 4 11 4 0 6] [4])
 .ret)),none,false⟩
def g378B0:aw:=
 (.seq
 (.seq
 (.ae [aa 19 14,
 aa 20 4,
 aU 21 19 20 (.bin .leq)] [3,4,6,7,8,11,13,14,21])
 (.cond (.t 21)
 .skip
 (.exit 0)))
 (.seq
 (.block 1
 (.seq
 (.ae [aI 25 6 6 0 2 true,
 aI 26 7 7 0 6 true,
 aI 27 8 8 0 5 true,
 aa 28 3,
 aa 29 14,
 bB 30 [.t 25,.t 26,.t 27,.t 28,.t 29] (.aA 389),
 aa 24 30,
 aH 31 24 (.ext 0),
 aH 32 24 (.ext 1),
 aH 33 24 (.ext 2),
 aa 15 31,
 aa 16 32,
 aa 17 33] [3,4,6,7,8,11,13,14,15,16,17])
 (.seq
 (.seq
 (.ae [aa 34 17,
 aH 35 34 (.un .not)] [3,4,6,7,8,11,13,14,15,16,35])
 (.cond (.t 35)
 (.exit 1)
 .skip))
 (.seq
 (.ae [aI 36 11 11 0 4 true,
 bE 18 [dP,.bool false,bO,bO],
 aV 18 36 18 0 4] [3,4,6,7,8,11,13,14,15,16,18])
 (.seq
 (.ae [aa 37 15,
 bB 38 [.c (.bD []),.t 37] (.append 5 64),
 aa 39 16,
 bB 40 [.c (.bD []),.t 39] (.append 5 64),
 aQ 41 18 3,
 aV 41 38 18 3 1,
 aQ 42 18 2,
 aV 42 40 18 2 1] [3,4,6,7,8,11,13,14,18])
 (.ae [aa 43 13,
 aI 44 18 18 0 4 true,
 aH 45 44 (.aT 4),
 bH 46 43 45 (.append 4 72),
 aa 13 46] [3,4,6,7,8,11,13,14]))))))
 (.ae [aa 22 14,
 a7 23 22 1 (.bin .add),
 aa 14 23] [3,4,6,7,8,11,13,14])))
def g378L0:aw:=.loop [3,4,6,7,8,11,13,14] g378B0
theorem g378L0e: cl AP g378L0 st=after (cl AP g378L0) (cl AP g378B0 (norm (restrict [3,4,6,7,8,11,13,14] st))):=aG
def g378:aJ:=⟨6,48,[.t 12],
 (.seq
 (.ae [ba 6 0 (.box 6 2),
 ba 7 1 (.box 7 6),
 ba 8 2 (.box 8 5),
 ba 11 5 (.box 11 4),
 a8 12 [.c (.bD [])] .mv] [3,4,6,7,8,11])
 (.seq
 (.ae [a8 13 [.c (.bD [])] .mv] [3,4,6,7,8,11,13])
 (.seq
 (.seq
 (.ae [a0 14 (k_ 0)] [3,4,6,7,8,11,13,14])
 (.block 0
 g378L0))
 (.seq
 (.ae [aa 47 13,
 aa 12 47] [12])
 .ret)))),none,false⟩
def g379B0:aw:=
 (.seq
 (.seq
 (.ae [aa 14 5,
 aQ 15 3 5,
 aI 16 15 3 5 1 false,
 aH 17 16 .len,
 aU 18 14 17 (.bin .lss)] [0,3,4,5,18])
 (.cond (.t 18)
 .skip
 (.exit 0)))
 (.seq
 (.block 1
 (.seq
 (.ae [aa 22 0,
 aQ 23 3 5,
 aI 24 23 3 5 1 false,
 aa 25 5,
 aU 26 24 25 (.aC 14),
 aQ 27 26 1,
 aH 28 27 (.aK 1 false),
 bH 29 22 28 (.aA 191),
 aa 21 29,
 aH 30 21 (.ext 0),
 aH 31 21 (.ext 1),
 aH 32 21 (.ext 2),
 aa 6 30,
 aa 7 31,
 aa 8 32] [0,3,4,5,8])
 (.seq
 (.ae [aa 33 8,
 aH 34 33 (.un .not)] [0,3,4,5,34])
 (.cond (.t 34)
 (.seq
 (.ae [aQ 35 3 5,
 aI 36 35 3 5 1 false,
 aa 37 5,
 aU 38 36 37 (.aC 14),
 aQ 39 38 0,
 aH 40 39 (.aK 1 false),
 bB 41 [k_ 9,.t 40] (.aA 365),
 aV 4 41 4 0 2] [4])
 .ret)
 .skip))))
 (.ae [aa 19 5,
 a7 20 19 1 (.bin .add),
 aa 5 20] [0,3,4,5])))
def g379L0:aw:=.loop [0,3,4,5] g379B0
theorem g379L0e: cl AP g379L0 st=after (cl AP g379L0) (cl AP g379B0 (norm (restrict [0,3,4,5] st))):=aG
def g379B2:aw:=
 (.seq
 (.seq
 (.ae [aa 87 13,
 aa 88 12,
 aH 89 88 .len,
 aU 90 87 89 (.bin .lss)] [0,3,4,9,11,12,13,90])
 (.cond (.t 90)
 .skip
 (.exit 4)))
 (.seq
 (.block 5
 (.seq
 (.ae [aa 93 12,
 aa 94 13,
 aU 95 93 94 (.slice false 1 false true false),
 aa 96 12,
 aa 97 13,
 aU 98 96 97 (.aC 1),
 aH 99 98 (.aK 1 false),
 bH 100 95 99 (.aA 364)] [0,3,4,9,11,12,13,100])
 (.cond (.t 100)
 (.seq
 (.ae [aQ 101 3 5,
 aI 102 101 3 5 1 false,
 aa 103 11,
 aU 104 102 103 (.aC 14),
 aQ 105 104 0,
 aH 106 105 (.aK 1 false),
 bB 107 [k_ 6,.t 106] (.aA 365),
 aV 4 107 4 0 2] [4])
 .ret)
 .skip)))
 (.ae [aa 91 13,
 a7 92 91 1 (.bin .add),
 aa 13 92] [0,3,4,9,11,12,13])))
def g379L2:aw:=.loop [0,3,4,9,11,12,13] g379B2
theorem g379L2e: cl AP g379L2 st=after (cl AP g379L2) (cl AP g379B2 (norm (restrict [0,3,4,9,11,12,13] st))):=aG
def g379B1:aw:=
 (.seq
 (.seq
 (.ae [aa 54 11,
 aQ 55 3 5,
 aI 56 55 3 5 1 false,
 aH 57 56 .len,
 aU 58 54 57 (.bin .lss)] [0,3,4,9,11,58])
 (.cond (.t 58)
 .skip
 (.exit 2)))
 (.seq
 (.block 3
 (.seq
 (.ae [aQ 61 3 5,
 aI 62 61 3 5 1 false,
 aa 63 11,
 aU 64 62 63 (.aC 14),
 aQ 65 64 2,
 aH 66 65 (.aK 1 false),
 aa 12 66] [0,3,4,9,11,12])
 (.seq
 (.seq
 (.ae [aa 67 12,
 aH 68 67 .len,
 aa 69 0,
 aa 70 9,
 aU 71 69 70 (.aC 4),
 aQ 72 71 3,
 aH 73 72 (.aK 1 false),
 aa 74 11,
 aU 75 73 74 (.aC 3),
 aQ 76 75 2,
 aH 77 76 (.aK 1 false),
 aH 78 77 .len,
 aU 79 68 78 (.bin .neq)] [0,3,4,9,11,12,79])
 (.cond (.t 79)
 (.seq
 (.ae [aQ 80 3 5,
 aI 81 80 3 5 1 false,
 aa 82 11,
 aU 83 81 82 (.aC 14),
 aQ 84 83 0,
 aH 85 84 (.aK 1 false),
 bB 86 [k_ 8,.t 85] (.aA 365),
 aV 4 86 4 0 2] [4])
 .ret)
 .skip))
 (.seq
 (.ae [a0 13 (k_ 0)] [0,3,4,9,11,12,13])
 (.block 4
 g379L2)))))
 (.ae [aa 59 11,
 a7 60 59 1 (.bin .add),
 aa 11 60] [0,3,4,9,11])))
def g379L1:aw:=.loop [0,3,4,9,11] g379B1
theorem g379L1e: cl AP g379L1 st=after (cl AP g379L1) (cl AP g379B1 (norm (restrict [0,3,4,9,11] st))):=aG
def g379:aJ:=⟨2,109,[.c 4 2 true],
 (.seq
 (.ae [ba 3 1 (.box 3 11),
 bE 4 [aZ,aZ]] [0,3,4])
 (.seq
 (.seq
 (.ae [a0 5 (k_ 0)] [0,3,4,5])
 (.block 0
 g379L0))
 (.seq
 (.ae [aa 43 0,
 aQ 44 3 5,
 aI 45 44 3 5 1 false,
 bH 46 43 45 (.aA 390),
 aa 42 46,
 aH 47 42 (.ext 0),
 aH 48 42 (.ext 1),
 aa 9 47,
 aa 10 48] [0,3,4,9,10])
 (.seq
 (.seq
 (.ae [aa 49 10,
 aH 50 49 (.un .not)] [0,3,4,9,50])
 (.cond (.t 50)
 (.seq
 (.ae [aQ 51 3 1,
 aI 52 51 3 1 1 false,
 bB 53 [k_ 10,.t 52] (.aA 365),
 aV 4 53 4 0 2] [4])
 .ret)
 .skip))
 (.seq
 (.seq
 (.ae [a0 11 (k_ 0)] [0,3,4,9,11])
 (.block 2
 g379L1))
 (.seq
 (.ae [a8 108 [] (.build [aZ,aZ] []),
 aV 4 108 4 0 2] [4])
 .ret)))))),none,false⟩
def g380:aJ:=⟨2,37,[.t 4],
 (.seq
 (.ae [ba 2 0 (.box 2 11),
 a8 4 [.c (.bD [])] .mv] [1,2])
 (.seq
 (.block 0
 (.seq
 (.seq
 (.ae [aQ 6 2 0,
 aI 7 6 2 0 1 false,
 a7 8 7 4 (.bin .eql),
 aa 5 8] [1,2,5])
 (.cond (.t 5)
 .skip
 (.seq
 (.ae [aQ 9 2 0,
 aI 10 9 2 0 1 false,
 a7 11 10 7 (.bin .eql),
 aa 5 11] [1,2,5])
 (.cond (.t 5)
 .skip
 (.ae [aQ 12 2 0,
 aI 13 12 2 0 1 false,
 a7 14 13 6 (.bin .eql),
 aa 15 14,
 aY 16 15 true 1 (.v (.mv)),
 cB 17 15 true [.t 16,k_ 1] (.v (.bin .eql)),
 a8 18 [.t 15,.t 17,F_] .pick,
 aa 5 18] [1,2,5])))))
 (.cond (.t 5)
 (.seq
 (.ae [aQ 19 2 2,
 aI 20 19 2 2 1 false,
 aH 21 20 (.aT 1),
 aa 4 21] [4])
 .ret)
 (.seq
 (.ae [aQ 23 2 0,
 aI 24 23 2 0 1 false,
 a7 25 24 8 (.bin .eql),
 aa 26 25,
 aY 27 26 true 1 (.v (.mv)),
 cB 28 26 true [.t 27,k_ 0] (.v (.bin .gtr)),
 a8 29 [.t 26,.t 28,F_] .pick,
 aa 22 29] [1,2,22])
 (.cond (.t 22)
 (.seq
 (.ae [aQ 30 2 5,
 aI 31 30 2 5 1 false,
 aa 32 1,
 a7 33 32 1 (.bin .sub),
 aU 34 31 33 (.aC 14),
 aQ 35 34 2,
 aH 36 35 (.aK 1 false),
 aa 4 36] [4])
 .ret)
 .skip)))))
 (.seq
 (.ae [a8 4 [.c (.bD [])] .mv] [4])
 .ret))),none,false⟩
def g381:aJ:=⟨3,33,[.c 6 2 true,.c 7 5 true],
 (.seq
 (.ae [ba 3 0 (.box 3 2),
 bE 6 [bO,bO],
 bE 7 ez] [1,2,3,6,7])
 (.seq
 (.ae [aQ 10 3 0,
 aI 11 10 3 0 1 false,
 aH 12 11 .len,
 aa 8 12] [1,2,3,6,7,8])
 (.seq
 (.ae [aQ 13 3 0,
 aI 14 13 3 0 1 false,
 bB 15 [.c (.bD []),.t 14] (.append 8 88),
 aa 16 1,
 aa 17 2,
 aU 18 16 17 (.build [.bool false,aZ,dP,aZ,aZ,bO,aZ,.bool false] [(6,1),(7,1)]),
 aH 19 18 (.aT 8),
 bH 20 15 19 (.append 8 88),
 aH 21 20 (.build [bO,bO] [(0,1)]),
 bE 9 [bO,bO],
 aV 9 21 9 0 2] [3,6,7,8,9])
 (.seq
 (.ae [aQ 22 3 1,
 aI 23 22 3 1 1 false,
 bB 24 [.c (.bD []),.t 23] (.append 10 104),
 aa 25 8,
 a8 26 [.t 25,T_] (.build [aZ,.bool false,aZ,dP,aZ,aZ,bO,aZ,.bool false,.bool false] [(0,1),(9,1)]),
 aH 27 26 (.aT 10),
 bH 28 24 27 (.append 10 104),
 aQ 29 9 1,
 aV 29 28 9 1 1] [6,7,8,9])
 (.seq
 (.ae [aI 30 9 9 0 2 true,
 aa 31 8,
 ba 32 31 (.aA 63),
 aV 6 30 6 0 2,
 aV 7 32 7 0 5] [6,7])
 .ret))))),none,false⟩
def g385:aJ:=⟨3,22,[.c 6 2 true,.t 7],
 (.seq
 (.ae [ba 3 0 (.box 3 2),
 ba 4 1 (.box 4 5),
 ba 5 2 (.box 5 5),
 bE 6 [bO,bO],
 a0 7 (k_ 0)] [3,4,5,6])
 (.seq
 (.ae [aI 11 3 3 0 2 true,
 aI 12 4 4 0 5 true,
 aI 13 5 5 0 5 true,
 bB 14 [.t 11,.t 12,.t 13] (.aA 391),
 aa 10 14,
 aH 15 10 (.ext 0),
 aH 16 10 (.ext 1),
 bE 8 [bO,bO],
 aV 8 15 8 0 2,
 aa 9 16] [3,6,8,9])
 (.seq
 (.seq
 (.ae [aa 17 9,
 a7 18 17 0 (.bin .neq)] [3,6,8,9,18])
 (.cond (.t 18)
 (.seq
 (.ae [aI 19 3 3 0 2 true,
 aa 20 9,
 aV 6 19 6 0 2,
 aa 7 20] [6,7])
 .ret)
 .skip))
 (.seq
 (.ae [aI 21 8 8 0 2 true,
 aV 6 21 6 0 2,
 a0 7 (k_ 0)] [6,7])
 .ret)))),none,false⟩
def g386B0:aw:=
 (.seq
 (.seq
 (.ae [aa 6 5,
 aQ 7 2 0,
 aI 8 7 2 0 1 false,
 aH 9 8 .len,
 aU 10 6 9 (.bin .leq),
 aa 11 10,
 aY 12 11 true 2 (.bl 2 0 2 true),
 aY 13 11 true 3 (.bl 3 0 5 true),
 cB 14 11 true [.t 12,.t 13] (.aA 392),
 a8 15 [.t 11,.t 14,F_] .pick] [2,3,4,5,15])
 (.cond (.t 15)
 .skip
 (.exit 0)))
 (.seq
 (.block 1
 (.ae [aQ 18 2 0,
 aI 19 18 2 0 1 false,
 aQ 20 3 2,
 aI 21 20 3 2 1 false,
 aU 22 19 21 (.aC 8),
 aQ 23 22 1,
 aH 24 23 (.aK 5 true),
 aV 3 24 3 0 5] [2,3,4,5]))
 (.ae [aa 16 5,
 a7 17 16 1 (.bin .add),
 aa 5 17] [2,3,4,5])))
def g386L0:aw:=.loop [2,3,4,5] g386B0
theorem g386L0e: cl AP g386L0 st=after (cl AP g386L0) (cl AP g386B0 (norm (restrict [2,3,4,5] st))):=aG
def g386:aJ:=⟨2,26,[.c 4 5 true],
 (.seq
 (.ae [ba 2 0 (.box 2 2),
 ba 3 1 (.box 3 5),
 bE 4 ez] [2,3,4])
 (.seq
 (.seq
 (.ae [a0 5 (k_ 0)] [2,3,4,5])
 (.block 0
 g386L0))
 (.seq
 (.ae [aI 25 3 3 0 5 true,
 aV 4 25 4 0 5] [4])
 .ret))),none,false⟩
def g387B0:aw:=
 (.seq
 (.seq
 (.ae [aa 64 4,
 aQ 65 3 4,
 aI 66 65 3 4 1 false,
 aH 67 66 .len,
 aU 68 64 67 (.bin .lss)] [0,3,4,68])
 (.cond (.t 68)
 .skip
 (.exit 1)))
 (.seq
 (.block 2
 (.ae [aa 71 0,
 aQ 72 3 4,
 aI 73 72 3 4 1 false,
 aa 74 4,
 aU 75 73 74 (.aC 5),
 aH 76 75 (.aK 5 true),
 bH 77 71 76 (.aL 387 [])] [0,3,4]))
 (.ae [aa 69 4,
 a7 70 69 1 (.bin .add),
 aa 4 70] [0,3,4])))
def g387L0:aw:=.loop [0,3,4] g387B0
theorem g387L0e: cl AP g387L0 st=after (cl AP g387L0) (cl AP g387B0 (norm (restrict [0,3,4] st))):=aG
def g387:aJ:=⟨2,78,[],
 (.seq
 (.ae [ba 3 1 (.box 3 5)] [0,3])
 (.seq
 (.seq
 (.ae [aQ 5 3 0,
 aI 6 5 3 0 1 false,
 a7 7 6 1 (.bin .eql)] [0,3,7])
 (.cond (.t 7)
 (.seq
 (.block 0
 (.seq
 (.ae [aa 9 0,
 aH 10 9 .a9,
 aQ 11 10 0,
 ba 12 11 (.a6 2 true),
 aI 13 3 3 0 5 true,
 bH 14 12 13 (.aA 392),
 aH 15 14 (.un .not),
 aa 8 15] [0,3,8])
 (.cond (.t 8)
 (.seq
 (.ae [aa 16 0,
 aH 17 16 .a9,
 aQ 18 17 2,
 ba 19 18 (.a6 1 false),
 aQ 20 3 2,
 aI 21 20 3 2 1 false,
 bH 22 19 21 (.aA 95),
 aH 23 22 (.un .not)] [0,3,23])
 (.cond (.t 23)
 (.ae [aa 24 0,
 aa 25 0,
 aH 26 25 .a9,
 aQ 27 26 2,
 ba 28 27 (.a6 1 false),
 aQ 29 3 2,
 aI 30 29 3 2 1 false,
 aH 31 30 (.aT 1),
 bH 32 28 31 (.append 1 8),
 aH 33 24 .a9,
 aQ 34 33 2,
 jX [.t 34,.t 32] (.cz 1)] [])
 .skip))
 (.seq
 (.ae [aa 36 0,
 aH 37 36 .a9,
 aQ 38 37 3,
 ba 39 38 (.a6 1 false),
 aQ 40 3 2,
 aI 41 40 3 2 1 false,
 aU 42 39 41 (.aC 1),
 ba 43 42 (.a6 1 false),
 aH 44 43 (.un .not),
 aa 35 44] [0,3,35])
 (.cond (.t 35)
 (.seq
 (.ae [aa 45 0,
 aH 46 45 .a9,
 aQ 47 46 3,
 ba 48 47 (.a6 1 false),
 aQ 49 3 2,
 aI 50 49 3 2 1 false,
 aU 51 48 50 (.aC 1),
 jX [.t 51,T_] (.cz 1)] [0,3])
 (.ae [aa 52 0,
 aa 53 0,
 aH 54 53 .a9,
 aQ 55 54 0,
 aQ 56 55 0,
 ba 57 56 (.a6 1 false),
 aQ 58 3 2,
 aI 59 58 3 2 1 false,
 aU 60 57 59 (.aC 8),
 aQ 61 60 1,
 aH 62 61 (.aK 5 true),
 bH 63 52 62 (.aL 387 [])] []))
 .skip)))))
 .ret)
 .skip))
 (.seq
 (.ae [a0 4 (k_ 0)] [0,3,4])
 (.block 1
 g387L0)))),none,false⟩
def g388:aJ:=⟨0,2,[.c 0 2 true],
 (.seq
 (.ae [bE 0 [bO,bO]] [0])
 (.seq
 (.ae [a8 1 [] (.build [bO,bO] []),
 aV 0 1 0 0 2] [0])
 .ret)),none,false⟩
def g389B0:aw:=
 (.seq
 (.seq
 (.ae [aa 36 14,
 aQ 37 6 0,
 aI 38 37 6 0 1 false,
 aU 39 36 38 (.bin .lss)] [3,4,5,6,7,13,14,39])
 (.cond (.t 39)
 .skip
 (.exit 0)))
 (.seq
 (.block 1
 (.seq
 (.ae [bE 15 ez] [3,4,5,6,7,13,14,15])
 (.seq
 (.ae [aI 43 5 5 0 2 true,
 bB 44 [.t 43,k_ 1000000,F_] (.aA 381),
 aa 42 44,
 aH 45 42 (.ext 0),
 aH 46 42 (.ext 1),
 aV 5 45 5 0 2,
 aV 15 46 15 0 5] [3,4,5,6,7,13,14,15])
 (.ae [aa 47 13,
 aI 48 15 15 0 5 true,
 aH 49 48 (.aT 5),
 bH 50 47 49 (.append 5 64),
 aa 13 50] [3,4,5,6,7,13,14]))))
 (.ae [aa 40 14,
 a7 41 40 1 (.bin .add),
 aa 14 41] [3,4,5,6,7,13,14])))
def g389L0:aw:=.loop [3,4,5,6,7,13,14] g389B0
theorem g389L0e: cl AP g389L0 st=after (cl AP g389L0) (cl AP g389B0 (norm (restrict [3,4,5,6,7,13,14] st))):=aG
def g389B1:aw:=
 (.seq
 (.seq
 (.ae [aa 56 18,
 aH 57 56 .len,
 aa 58 4,
 aU 59 57 58 (.bin .lss)] [3,4,5,7,16,17,18,59])
 (.cond (.t 59)
 .skip
 (.exit 2)))
 (.block 3
 (.seq
 (.ae [aI 60 5 5 0 2 true,
 aI 61 17 17 0 5 true,
 bH 62 60 61 (.aA 386),
 aV 17 62 17 0 5] [3,4,5,7,16,17,18])
 (.seq
 (.seq
 (.ae [aQ 63 17 0,
 aI 64 63 17 0 1 false,
 a7 65 64 1 (.bin .eql),
 aa 66 65,
 aY 67 66 true 5 (.v (.bh 0)),
 aY 68 66 true 67 (.bl 5 0 1 false),
 aY 69 66 true 17 (.v (.bh 2)),
 aY 70 66 true 69 (.bl 17 2 1 false),
 cB 71 66 true [.t 68,.t 70] (.v (.aC 8)),
 aY 72 66 true 71 (.v (.bh 7)),
 aY 73 66 true 72 (.v (.aK 1 false)),
 aY 74 66 true 73 (.v (.un .not)),
 a8 75 [.t 66,.t 74,F_] .pick] [3,4,5,7,16,17,18,75])
 (.cond (.t 75)
 (.seq
 (.ae [bE 19 ez,
 bE 20 ez] [3,4,5,7,16,17,18,19,20])
 (.seq
 (.ae [aI 77 5 5 0 2 true,
 bB 78 [.t 77,k_ 1000000,F_] (.aA 381),
 aa 76 78,
 aH 79 76 (.ext 0),
 aH 80 76 (.ext 1),
 aV 5 79 5 0 2,
 aV 19 80 19 0 5] [3,4,5,7,16,17,18,19,20])
 (.seq
 (.ae [aI 82 5 5 0 2 true,
 bB 83 [.t 82,k_ 1000000,F_] (.aA 381),
 aa 81 83,
 aH 84 81 (.ext 0),
 aH 85 81 (.ext 1),
 aV 5 84 5 0 2,
 aV 20 85 20 0 5] [3,4,5,7,16,17,18,19,20])
 (.seq
 (.ae [aQ 86 5 0,
 aI 87 86 5 0 1 false,
 aQ 88 17 2,
 aI 89 88 17 2 1 false,
 aU 90 87 89 (.aC 8),
 aH 91 90 (.aK 8 true),
 bE 21 [.bool false,aZ,dP,aZ,aZ,bO,aZ,.bool false],
 aV 21 91 21 0 8] [3,4,5,7,16,17,18,19,20,21])
 (.seq
 (.ae [aI 92 19 19 0 5 true,
 aI 93 20 20 0 5 true,
 bH 94 92 93 (.aA 69),
 aQ 95 21 0,
 jX [.t 95,T_] (.dc 21 0 1),
 aQ 96 21 1,
 aV 96 94 21 1 5] [3,4,5,7,16,17,18,21])
 (.seq
 (.ae [aI 98 5 5 0 2 true,
 aQ 99 17 2,
 aI 100 99 17 2 1 false,
 aI 101 21 21 0 8 true,
 bB 102 [.t 98,.t 100,.t 101] (.aA 393),
 aa 97 102,
 aH 103 97 (.ext 0),
 aH 104 97 (.ext 1),
 aV 5 103 5 0 2] [3,4,5,7,16,17,18,21])
 (.ae [aQ 105 21 1,
 aI 106 105 21 1 5 true,
 aV 17 106 17 0 5] [3,4,5,7,16,17,18])))))))
 .skip))
 (.seq
 (.ae [aI 108 17 17 0 5 true,
 ba 109 108 (.aA 194),
 aa 107 109,
 aH 110 107 (.ext 0),
 aH 111 107 (.ext 1),
 aH 112 107 (.ext 2),
 bE 22 ez,
 bE 23 ez,
 aV 22 110 22 0 5,
 aV 23 111 23 0 5,
 aa 24 112] [3,4,5,7,16,17,18,22,23,24])
 (.seq
 (.seq
 (.ae [aa 113 24,
 aH 114 113 (.un .not)] [3,4,5,7,16,17,18,22,23,114])
 (.cond (.t 114)
 (.seq
 (.ae [a8 10 [.c (.bD [])] .mv,
 a8 11 [.c (.bD [])] .mv,
 a0 12 F_] [10,11,12])
 .ret)
 .skip))
 (.ae [aa 115 18,
 aI 116 22 22 0 5 true,
 aH 117 116 (.aT 5),
 bH 118 115 117 (.append 5 64),
 aI 119 23 23 0 5 true,
 aa 18 118,
 aV 17 119 17 0 5] [3,4,5,7,16,17,18])))))))
def g389L1:aw:=.loop [3,4,5,7,16,17,18] g389B1
theorem g389L1e: cl AP g389L1 st=after (cl AP g389L1) (cl AP g389B1 (norm (restrict [3,4,5,7,16,17,18] st))):=aG
def g389B2:aw:=
 (.seq
 (.seq
 (.ae [aa 150 30,
 aa 151 3,
 aH 152 151 .len,
 aU 153 150 152 (.bin .lss)] [3,5,18,29,30,153])
 (.cond (.t 153)
 .skip
 (.exit 4)))
 (.seq
 (.block 5
 (.seq
 (.seq
 (.ae [aI 156 5 5 0 2 true,
 aa 157 3,
 aa 158 30,
 aU 159 157 158 (.aC 6),
 aQ 160 159 1,
 aH 161 160 (.aK 5 true),
 bB 162 [.t 156,.t 161,k_ 200] (.aA 355),
 a7 163 162 200 (.bin .gtr)] [3,5,18,29,30,163])
 (.cond (.t 163)
 (.seq
 (.ae [a8 10 [.c (.bD [])] .mv,
 a8 11 [.c (.bD [])] .mv,
 a0 12 F_] [10,11,12])
 .ret)
 .skip))
 (.seq
 (.ae [aI 165 5 5 0 2 true,
 aa 166 3,
 aa 167 30,
 aU 168 166 167 (.aC 6),
 aQ 169 168 1,
 aH 170 169 (.aK 5 true),
 bH 171 165 170 (.aA 358),
 aa 164 171,
 aH 172 164 (.ext 0),
 aH 173 164 (.ext 1),
 bE 31 ez,
 aV 31 172 31 0 5,
 aa 32 173] [3,5,18,29,30,31])
 (.ae [aa 174 29,
 aI 175 31 31 0 5 true,
 aH 176 175 (.aT 5),
 bH 177 174 176 (.append 5 64),
 aa 29 177] [3,5,18,29,30]))))
 (.ae [aa 154 30,
 a7 155 154 1 (.bin .add),
 aa 30 155] [3,5,18,29,30])))
def g389L2:aw:=.loop [3,5,18,29,30] g389B2
theorem g389L2e: cl AP g389L2 st=after (cl AP g389L2) (cl AP g389B2 (norm (restrict [3,5,18,29,30] st))):=aG
def g389B3:aw:=
 (.seq
 (.seq
 (.ae [aa 178 33,
 aa 179 18,
 aH 180 179 .len,
 aU 181 178 180 (.bin .lss)] [3,5,18,29,33,181])
 (.cond (.t 181)
 .skip
 (.exit 6)))
 (.seq
 (.block 7
 (.seq
 (.ae [aI 185 5 5 0 2 true,
 aa 186 18,
 aa 187 33,
 aU 188 186 187 (.aC 5),
 aH 189 188 (.aK 5 true),
 bH 190 185 189 (.aA 358),
 aa 184 190,
 aH 191 184 (.ext 0),
 aH 192 184 (.ext 1),
 bE 34 ez,
 aV 34 191 34 0 5,
 aa 35 192] [3,5,18,29,33,34])
 (.ae [aa 193 29,
 aI 194 34 34 0 5 true,
 aH 195 194 (.aT 5),
 bH 196 193 195 (.append 5 64),
 aa 29 196] [3,5,18,29,33])))
 (.ae [aa 182 33,
 a7 183 182 1 (.bin .add),
 aa 33 183] [3,5,18,29,33])))
def g389L3:aw:=.loop [3,5,18,29,33] g389B3
theorem g389L3e: cl AP g389L3 st=after (cl AP g389L3) (cl AP g389B3 (norm (restrict [3,5,18,29,33] st))):=aG
def g389:aJ:=⟨5,207,[.t 10,.t 11,.t 12],
 (.seq
 (.ae [ba 5 0 (.box 5 2),
 ba 6 1 (.box 6 6),
 ba 7 2 (.box 7 5),
 a8 10 [.c (.bD [])] .mv,
 a8 11 [.c (.bD [])] .mv,
 a0 12 F_] [3,4,5,6,7])
 (.seq
 (.ae [a8 13 [.c (.bD [])] .mv] [3,4,5,6,7,13])
 (.seq
 (.seq
 (.ae [a0 14 (k_ 0)] [3,4,5,6,7,13,14])
 (.block 0
 g389L0))
 (.seq
 (.ae [aQ 51 6 1,
 aI 52 51 6 1 5 true,
 aa 53 13,
 bH 54 52 53 (.aA 48),
 bE 16 ez,
 aV 16 54 16 0 5] [3,4,5,7,16])
 (.seq
 (.ae [aI 55 16 16 0 5 true,
 bE 17 ez,
 aV 17 55 17 0 5] [3,4,5,7,16,17])
 (.seq
 (.ae [a8 18 [.c (.bD [])] .mv] [3,4,5,7,16,17,18])
 (.seq
 (.block 2
 g389L1)
 (.seq
 (.ae [aI 120 5 5 0 2 true,
 aI 121 17 17 0 5 true,
 bH 122 120 121 (.aA 386),
 aV 17 122 17 0 5] [3,5,7,16,17,18])
 (.seq
 (.seq
 (.ae [aI 124 17 17 0 5 true,
 ba 125 124 (.aA 194),
 aa 123 125,
 aH 126 123 (.ext 0),
 aH 127 123 (.ext 1),
 aH 128 123 (.ext 2),
 bE 25 ez,
 bE 26 ez,
 aV 25 126 25 0 5,
 aV 26 127 26 0 5,
 aa 27 128] [3,5,7,16,17,18,27])
 (.seq
 (.ae [aa 129 27] [3,5,7,16,17,18,129])
 (.cond (.t 129)
 (.seq
 (.ae [a8 10 [.c (.bD [])] .mv,
 a8 11 [.c (.bD [])] .mv,
 a0 12 F_] [10,11,12])
 .ret)
 .skip)))
 (.seq
 (.ae [aI 130 5 5 0 2 true,
 aI 131 17 17 0 5 true,
 bH 132 130 131 (.aA 394),
 aI 133 7 7 0 5 true,
 bH 134 132 133 (.aA 394),
 aV 5 134 5 0 2] [3,5,7,16,17,18])
 (.seq
 (.ae [aI 136 5 5 0 2 true,
 aI 137 17 17 0 5 true,
 aI 138 7 7 0 5 true,
 bB 139 [.t 136,.t 137,.t 138] (.aA 385),
 aa 135 139,
 aH 140 135 (.ext 0),
 aH 141 135 (.ext 1),
 aV 5 140 5 0 2,
 aa 28 141] [3,5,16,18,28])
 (.seq
 (.seq
 (.ae [aa 142 28,
 a7 143 142 0 (.bin .neq),
 aa 144 143,
 aY 145 144 false 5 (.bl 5 0 2 true),
 aY 146 144 false 16 (.bl 16 0 5 true),
 cB 147 144 false [.t 145,.t 146,k_ 200] (.aA 355),
 cB 148 144 false [.t 147,k_ 200] (.v (.bin .gtr)),
 a8 149 [.t 144,T_,.t 148] .pick] [3,5,18,149])
 (.cond (.t 149)
 (.seq
 (.ae [a8 10 [.c (.bD [])] .mv,
 a8 11 [.c (.bD [])] .mv,
 a0 12 F_] [10,11,12])
 .ret)
 .skip))
 (.seq
 (.ae [a8 29 [.c (.bD [])] .mv] [3,5,18,29])
 (.seq
 (.seq
 (.ae [a0 30 (k_ 0)] [3,5,18,29,30])
 (.block 4
 g389L2))
 (.seq
 (.seq
 (.ae [a0 33 (k_ 0)] [3,5,18,29,33])
 (.block 6
 g389L3))
 (.seq
 (.ae [aa 197 29,
 ba 198 197 (.aL 395 []),
 aa 29 198] [3,29])
 (.seq
 (.ae [aa 199 29,
 aa 200 3,
 aH 201 200 .len,
 aU 202 199 201 (.slice false 5 false true false),
 aa 203 29,
 aa 204 3,
 aH 205 204 .len,
 aU 206 203 205 (.slice false 5 true false false),
 aa 10 202,
 aa 11 206,
 a0 12 T_] [10,11,12])
 .ret))))))))))))))))),none,false⟩
def g390B1:aw:=
 (.seq
 (.seq
 (.ae [aa 24 7,
 aa 25 24,
 aY 26 25 true 8 (.v (.mv)),
 aY 27 25 true 1 (.v (.mv)),
 aY 28 25 true 27 (.v (.len)),
 cB 29 25 true [.t 26,.t 28] (.v (.bin .lss)),
 a8 30 [.t 25,.t 29,F_] .pick] [0,1,6,7,8,30])
 (.cond (.t 30)
 .skip
 (.exit 2)))
 (.seq
 (.block 3
 (.ae [aa 33 1,
 aa 34 8,
 aU 35 33 34 (.aC 14),
 aQ 36 35 1,
 aH 37 36 (.aK 1 false),
 aa 38 0,
 aa 39 6,
 aU 40 38 39 (.aC 4),
 aQ 41 40 3,
 aH 42 41 (.aK 1 false),
 aa 43 8,
 aU 44 42 43 (.aC 3),
 aQ 45 44 1,
 aH 46 45 (.aK 1 false),
 aU 47 37 46 (.bin .eql),
 aa 7 47] [0,1,6,7,8]))
 (.ae [aa 31 8,
 a7 32 31 1 (.bin .add),
 aa 8 32] [0,1,6,7,8])))
def g390L1:aw:=.loop [0,1,6,7,8] g390B1
theorem g390L1e: cl AP g390L1 st=after (cl AP g390L1) (cl AP g390B1 (norm (restrict [0,1,6,7,8] st))):=aG
def g390B0:aw:=
 (.seq
 (.seq
 (.ae [aa 9 6,
 aa 10 0,
 aH 11 10 .len,
 aU 12 9 11 (.bin .lss)] [0,1,6,12])
 (.cond (.t 12)
 .skip
 (.exit 0)))
 (.seq
 (.block 1
 (.seq
 (.ae [aa 15 1,
 aH 16 15 .len,
 aa 17 0,
 aa 18 6,
 aU 19 17 18 (.aC 4),
 aQ 20 19 3,
 aH 21 20 (.aK 1 false),
 aH 22 21 .len,
 aU 23 16 22 (.bin .eql),
 aa 7 23] [0,1,6,7])
 (.seq
 (.seq
 (.ae [a0 8 (k_ 0)] [0,1,6,7,8])
 (.block 2
 g390L1))
 (.seq
 (.ae [aa 48 7] [0,1,6,48])
 (.cond (.t 48)
 (.seq
 (.ae [aa 49 6,
 aa 4 49,
 a0 5 T_] [4,5])
 .ret)
 .skip)))))
 (.ae [aa 13 6,
 a7 14 13 1 (.bin .add),
 aa 6 14] [0,1,6])))
def g390L0:aw:=.loop [0,1,6] g390B0
theorem g390L0e: cl AP g390L0 st=after (cl AP g390L0) (cl AP g390B0 (norm (restrict [0,1,6] st))):=aG
def g390:aJ:=⟨2,50,[.t 4,.t 5],
 (.seq
 (.ae [a0 4 (k_ 0),
 a0 5 F_] [0,1])
 (.seq
 (.seq
 (.ae [a0 6 (k_ 0)] [0,1,6])
 (.block 0
 g390L0))
 (.seq
 (.ae [a0 4 (k_ 0),
 a0 5 F_] [4,5])
 .ret))),none,false⟩
def g391B0:aw:=
 (.seq
 (.seq
 (.ae [aa 101 11,
 aQ 102 8 4,
 aI 103 102 8 4 1 false,
 aH 104 103 .len,
 aU 105 101 104 (.bin .lss),
 aa 106 105,
 aY 107 106 true 10 (.v (.mv)),
 cB 108 106 true [.t 107,k_ 0] (.v (.bin .eql)),
 a8 109 [.t 106,.t 108,F_] .pick] [3,6,8,9,10,11,109])
 (.cond (.t 109)
 .skip
 (.exit 1)))
 (.seq
 (.block 2
 (.ae [aI 113 3 3 0 2 true,
 aQ 114 8 4,
 aI 115 114 8 4 1 false,
 aa 116 11,
 aU 117 115 116 (.aC 5),
 aH 118 117 (.aK 5 true),
 aQ 119 9 4,
 aI 120 119 9 4 1 false,
 aa 121 11,
 aU 122 120 121 (.aC 5),
 aH 123 122 (.aK 5 true),
 bB 124 [.t 113,.t 118,.t 123] (.aA 391),
 aa 112 124,
 aH 125 112 (.ext 0),
 aH 126 112 (.ext 1),
 aV 3 125 3 0 2,
 aa 10 126] [3,6,8,9,10,11]))
 (.ae [aa 110 11,
 a7 111 110 1 (.bin .add),
 aa 11 111] [3,6,8,9,10,11])))
def g391L0:aw:=.loop [3,6,8,9,10,11] g391B0
theorem g391L0e: cl AP g391L0 st=after (cl AP g391L0) (cl AP g391B0 (norm (restrict [3,6,8,9,10,11] st))):=aG
def g391:aJ:=⟨3,129,[.c 6 2 true,.t 7],
 (.seq
 (.ae [ba 3 0 (.box 3 2),
 ba 4 1 (.box 4 5),
 ba 5 2 (.box 5 5),
 bE 6 [bO,bO],
 a0 7 (k_ 0)] [3,4,5,6])
 (.seq
 (.seq
 (.ae [aI 12 3 3 0 2 true,
 aI 13 4 4 0 5 true,
 bB 14 [.t 12,.t 13,k_ 200] (.aA 355),
 a7 15 14 200 (.bin .gtr),
 aa 16 15,
 aY 17 16 false 3 (.bl 3 0 2 true),
 aY 18 16 false 5 (.bl 5 0 5 true),
 cB 19 16 false [.t 17,.t 18,k_ 200] (.aA 355),
 cB 20 16 false [.t 19,k_ 200] (.v (.bin .gtr)),
 a8 21 [.t 16,T_,.t 20] .pick] [3,4,5,6,21])
 (.cond (.t 21)
 (.seq
 (.ae [aI 22 3 3 0 2 true,
 aV 6 22 6 0 2,
 a0 7 (k_ 15)] [6,7])
 .ret)
 .skip))
 (.seq
 (.ae [aI 23 3 3 0 2 true,
 aI 24 4 4 0 5 true,
 bH 25 23 24 (.aA 386),
 aI 26 3 3 0 2 true,
 aI 27 5 5 0 5 true,
 bH 28 26 27 (.aA 386),
 bE 8 ez,
 bE 9 ez,
 aV 8 25 8 0 5,
 aV 9 28 9 0 5] [3,6,8,9])
 (.seq
 (.block 0
 (.seq
 (.ae [aI 30 3 3 0 2 true,
 aI 31 8 8 0 5 true,
 bH 32 30 31 (.aA 396),
 aa 33 32,
 aY 34 33 true 3 (.bl 3 0 2 true),
 aY 35 33 true 9 (.bl 9 0 5 true),
 cB 36 33 true [.t 34,.t 35] (.aA 396),
 a8 37 [.t 33,.t 36,F_] .pick,
 aa 29 37] [3,6,8,9,29])
 (.cond (.t 29)
 (.seq
 (.ae [aI 38 3 3 0 2 true,
 aI 39 8 8 0 5 true,
 aI 40 9 9 0 5 true,
 bB 41 [.t 38,.t 39,.t 40] (.aA 397),
 aV 6 41 6 0 2,
 a0 7 (k_ 0)] [6,7])
 .ret)
 (.seq
 (.ae [aI 43 3 3 0 2 true,
 aI 44 8 8 0 5 true,
 bH 45 43 44 (.aA 396),
 aa 42 45] [3,6,8,9,42])
 (.cond (.t 42)
 (.seq
 (.ae [aI 46 3 3 0 2 true,
 aQ 47 8 2,
 aI 48 47 8 2 1 false,
 aI 49 9 9 0 5 true,
 bB 50 [.t 46,.t 48,.t 49] (.aA 398),
 aH 51 50 (.ext 0),
 aH 52 50 (.ext 1),
 aV 6 51 6 0 2,
 aa 7 52] [6,7])
 .ret)
 (.seq
 (.ae [aI 54 3 3 0 2 true,
 aI 55 9 9 0 5 true,
 bH 56 54 55 (.aA 396),
 aa 53 56] [3,6,8,9,53])
 (.cond (.t 53)
 (.seq
 (.ae [aI 57 3 3 0 2 true,
 aQ 58 9 2,
 aI 59 58 9 2 1 false,
 aI 60 8 8 0 5 true,
 bB 61 [.t 57,.t 59,.t 60] (.aA 398),
 aH 62 61 (.ext 0),
 aH 63 61 (.ext 1),
 aV 6 62 6 0 2,
 aa 7 63] [6,7])
 .ret)
 (.seq
 (.ae [aQ 65 8 0,
 aI 66 65 8 0 1 false,
 aQ 67 9 0,
 aI 68 67 9 0 1 false,
 aU 69 66 68 (.bin .neq),
 aa 70 69,
 aY 71 70 false 8 (.v (.bh 1)),
 aY 72 70 false 71 (.bl 8 1 1 false),
 aY 73 70 false 9 (.v (.bh 1)),
 aY 74 70 false 73 (.bl 9 1 1 false),
 cB 75 70 false [.t 72,.t 74] (.v (.bin .neq)),
 a8 76 [.t 70,T_,.t 75] .pick,
 aa 77 76,
 aY 78 77 false 8 (.v (.bh 2)),
 aY 79 77 false 78 (.bl 8 2 1 false),
 aY 80 77 false 9 (.v (.bh 2)),
 aY 81 77 false 80 (.bl 9 2 1 false),
 cB 82 77 false [.t 79,.t 81] (.v (.bin .neq)),
 a8 83 [.t 77,T_,.t 82] .pick,
 aa 84 83,
 aY 85 84 false 8 (.v (.bh 3)),
 aY 86 84 false 85 (.bl 8 3 1 false),
 aY 87 84 false 9 (.v (.bh 3)),
 aY 88 84 false 87 (.bl 9 3 1 false),
 cB 89 84 false [.t 86,.t 88] (.v (.bin .neq)),
 a8 90 [.t 84,T_,.t 89] .pick,
 aa 91 90,
 aY 92 91 false 8 (.v (.bh 4)),
 aY 93 91 false 92 (.bl 8 4 1 false),
 aY 94 91 false 93 (.v (.len)),
 aY 95 91 false 9 (.v (.bh 4)),
 aY 96 91 false 95 (.bl 9 4 1 false),
 aY 97 91 false 96 (.v (.len)),
 cB 98 91 false [.t 94,.t 97] (.v (.bin .neq)),
 a8 99 [.t 91,T_,.t 98] .pick,
 aa 64 99] [3,6,8,9,64])
 (.cond (.t 64)
 (.seq
 (.ae [aI 100 3 3 0 2 true,
 aV 6 100 6 0 2,
 a0 7 (k_ 11)] [6,7])
 .ret)
 .skip)))))))))
 (.seq
 (.ae [a0 10 (k_ 0)] [3,6,8,9,10])
 (.seq
 (.seq
 (.ae [a0 11 (k_ 0)] [3,6,8,9,10,11])
 (.block 1
 g391L0))
 (.seq
 (.ae [aI 127 3 3 0 2 true,
 aa 128 10,
 aV 6 127 6 0 2,
 aa 7 128] [6,7])
 .ret))))))),none,false⟩
def g392:aJ:=⟨2,30,[.t 4],
 (.seq
 (.ae [ba 2 0 (.box 2 2),
 ba 3 1 (.box 3 5),
 a0 4 F_] [2,3])
 (.seq
 (.ae [aQ 5 3 0,
 aI 6 5 3 0 1 false,
 a7 7 6 1 (.bin .eql),
 aa 8 7,
 aY 9 8 true 3 (.v (.bh 2)),
 aY 10 8 true 9 (.bl 3 2 1 false),
 cB 11 8 true [.t 10,k_ 0] (.v (.bin .geq)),
 a8 12 [.t 8,.t 11,F_] .pick,
 aa 13 12,
 aY 14 13 true 3 (.v (.bh 2)),
 aY 15 13 true 14 (.bl 3 2 1 false),
 aY 16 13 true 2 (.v (.bh 0)),
 aY 17 13 true 16 (.bl 2 0 1 false),
 aY 18 13 true 17 (.v (.len)),
 cB 19 13 true [.t 15,.t 18] (.v (.bin .lss)),
 a8 20 [.t 13,.t 19,F_] .pick,
 aa 21 20,
 aY 22 21 true 2 (.v (.bh 0)),
 aY 23 21 true 22 (.bl 2 0 1 false),
 aY 24 21 true 3 (.v (.bh 2)),
 aY 25 21 true 24 (.bl 3 2 1 false),
 cB 26 21 true [.t 23,.t 25] (.v (.aC 8)),
 aY 27 21 true 26 (.v (.bh 0)),
 aY 28 21 true 27 (.v (.aK 1 false)),
 a8 29 [.t 21,.t 28,F_] .pick,
 aa 4 29] [4])
 .ret)),none,false⟩
def g393:aJ:=⟨3,42,[.c 6 2 true,.t 7],
 (.seq
 (.ae [ba 3 0 (.box 3 2),
 ba 5 2 (.box 5 8),
 bE 6 [bO,bO],
 a0 7 F_] [1,3,5,6])
 (.seq
 (.seq
 (.ae [aa 9 1,
 a7 10 9 0 (.bin .lss),
 aa 11 10,
 aY 12 11 false 1 (.v (.mv)),
 aY 13 11 false 3 (.v (.bh 0)),
 aY 14 11 false 13 (.bl 3 0 1 false),
 aY 15 11 false 14 (.v (.len)),
 cB 16 11 false [.t 12,.t 15] (.v (.bin .geq)),
 a8 17 [.t 11,T_,.t 16] .pick] [1,3,5,6,17])
 (.cond (.t 17)
 (.seq
 (.ae [aI 18 3 3 0 2 true,
 aV 6 18 6 0 2,
 a0 7 F_] [6,7])
 .ret)
 .skip))
 (.seq
 (.ae [aQ 19 3 0,
 aI 20 19 3 0 1 false,
 bB 21 [.c (.bD []),.t 20] (.cZ 8 88 true),
 aH 22 21 (.build [bO,bO] [(0,1)]),
 bE 8 [bO,bO],
 aV 8 22 8 0 2] [1,3,5,6,8])
 (.seq
 (.ae [aQ 23 3 1,
 aI 24 23 3 1 1 false,
 bB 25 [.c (.bD []),.t 24] (.append 10 104),
 aa 26 1,
 aQ 27 3 0,
 aI 28 27 3 0 1 false,
 aa 29 1,
 aU 30 28 29 (.aC 8),
 aH 31 30 (.aK 8 true),
 aU 32 26 31 (.build [aZ,.bool false,aZ,dP,aZ,aZ,bO,aZ,.bool false,.bool false] [(0,1),(1,8)]),
 aH 33 32 (.aT 10),
 bH 34 25 33 (.append 10 104),
 aQ 35 8 1,
 aV 35 34 8 1 1] [1,5,6,8])
 (.seq
 (.ae [aQ 36 8 0,
 aI 37 36 8 0 1 false,
 aa 38 1,
 aI 39 5 5 0 8 true,
 aU 40 37 38 (.aC 8),
 jX [.t 40,.t 39] (.cz 8)] [6,8])
 (.seq
 (.seq
 (.c_ [8])
 (.ae [aI 41 8 8 0 2 true,
 aV 6 41 6 0 2,
 a0 7 T_] [6,7]))
 .ret)))))),none,false⟩
def g394:aJ:=⟨2,28,[.c 4 2 true],
 (.seq
 (.ae [ba 2 0 (.box 2 2),
 ba 3 1 (.box 3 5),
 bE 4 [bO,bO]] [2,3,4])
 (.seq
 (.ae [aI 6 2 2 0 2 true,
 aI 7 3 3 0 5 true,
 bH 8 6 7 (.aA 386),
 aV 3 8 3 0 5] [2,3,4])
 (.seq
 (.seq
 (.ae [aQ 9 3 0,
 aI 10 9 3 0 1 false,
 a7 11 10 1 (.bin .eql)] [2,3,4,11])
 (.cond (.t 11)
 (.seq
 (.ae [aQ 12 2 0,
 aI 13 12 2 0 1 false,
 aQ 14 3 2,
 aI 15 14 3 2 1 false,
 aU 16 13 15 (.aC 8),
 aH 17 16 (.aK 8 true),
 bE 5 [.bool false,aZ,dP,aZ,aZ,bO,aZ,.bool false],
 aV 5 17 5 0 8] [2,3,4,5])
 (.seq
 (.ae [aQ 18 5 7,
 jX [.t 18,T_] (.dc 5 7 1)] [2,3,4,5])
 (.ae [aI 20 2 2 0 2 true,
 aQ 21 3 2,
 aI 22 21 3 2 1 false,
 aI 23 5 5 0 8 true,
 bB 24 [.t 20,.t 22,.t 23] (.aA 393),
 aa 19 24,
 aH 25 19 (.ext 0),
 aH 26 19 (.ext 1),
 aV 2 25 2 0 2] [2,4])))
 .skip))
 (.seq
 (.ae [aI 27 2 2 0 2 true,
 aV 4 27 4 0 2] [4])
 .ret)))),none,false⟩
def g395B0:aw:=
 (.seq
 (.seq
 (.ae [aa 10 5,
 aa 11 3,
 aH 12 11 .len,
 aU 13 10 12 (.bin .lss)] [0,3,4,5,13])
 (.cond (.t 13)
 .skip
 (.exit 0)))
 (.seq
 (.block 1
 (.ae [aa 16 4,
 aa 17 3,
 aa 18 5,
 aU 19 17 18 (.aC 1),
 aH 20 19 (.aK 1 false),
 aa 21 5,
 ba 22 21 (.aA 63),
 aU 23 20 22 (.build pW [(0,1),(1,5)]),
 aH 24 23 (.aT 6),
 bH 25 16 24 (.append 6 72),
 aa 4 25] [0,3,4,5]))
 (.ae [aa 14 5,
 a7 15 14 1 (.bin .add),
 aa 5 15] [0,3,4,5])))
def g395L0:aw:=.loop [0,3,4,5] g395B0
theorem g395L0e: cl AP g395L0 st=after (cl AP g395L0) (cl AP g395B0 (norm (restrict [0,3,4,5] st))):=aG
def g395B1:aw:=
 (.seq
 (.seq
 (.ae [aa 26 7,
 aa 27 0,
 aH 28 27 .len,
 aU 29 26 28 (.bin .lss)] [0,4,6,7,29])
 (.cond (.t 29)
 .skip
 (.exit 2)))
 (.seq
 (.block 3
 (.ae [aa 32 6,
 aa 33 0,
 aa 34 7,
 aU 35 33 34 (.aC 5),
 aH 36 35 (.aK 5 true),
 aa 37 4,
 bH 38 36 37 (.aA 46),
 aH 39 38 (.aT 5),
 bH 40 32 39 (.append 5 64),
 aa 6 40] [0,4,6,7]))
 (.ae [aa 30 7,
 a7 31 30 1 (.bin .add),
 aa 7 31] [0,4,6,7])))
def g395L1:aw:=.loop [0,4,6,7] g395B1
theorem g395L1e: cl AP g395L1 st=after (cl AP g395L1) (cl AP g395B1 (norm (restrict [0,4,6,7] st))):=aG
def g395:aJ:=⟨1,42,[.t 2],
 (.seq
 (.ae [a8 2 [.c (.bD [])] .mv] [0])
 (.seq
 (.ae [aa 8 0,
 ba 9 8 (.aA 56),
 aa 3 9] [0,3])
 (.seq
 (.ae [a8 4 [.c (.bD [])] .mv] [0,3,4])
 (.seq
 (.seq
 (.ae [a0 5 (k_ 0)] [0,3,4,5])
 (.block 0
 g395L0))
 (.seq
 (.ae [a8 6 [.c (.bD [])] .mv] [0,4,6])
 (.seq
 (.seq
 (.ae [a0 7 (k_ 0)] [0,4,6,7])
 (.block 2
 g395L1))
 (.seq
 (.ae [aa 41 6,
 aa 2 41] [2])
 .ret))))))),none,false⟩
def g396:aJ:=⟨2,21,[.t 4],
 (.seq
 (.ae [ba 2 0 (.box 2 2),
 ba 3 1 (.box 3 5),
 a0 4 F_] [2,3])
 (.seq
 (.ae [aQ 5 3 0,
 aI 6 5 3 0 1 false,
 a7 7 6 1 (.bin .eql),
 aa 8 7,
 aY 9 8 true 3 (.v (.bh 2)),
 aY 10 8 true 9 (.bl 3 2 1 false),
 cB 11 8 true [.t 10,k_ 0] (.v (.bin .geq)),
 a8 12 [.t 8,.t 11,F_] .pick,
 aa 13 12,
 aY 14 13 true 3 (.v (.bh 2)),
 aY 15 13 true 14 (.bl 3 2 1 false),
 aY 16 13 true 2 (.v (.bh 0)),
 aY 17 13 true 16 (.bl 2 0 1 false),
 aY 18 13 true 17 (.v (.len)),
 cB 19 13 true [.t 15,.t 18] (.v (.bin .lss)),
 a8 20 [.t 13,.t 19,F_] .pick,
 aa 4 20] [4])
 .ret)),none,false⟩
def g397:aJ:=⟨3,69,[.c 6 2 true],
 (.seq
 (.ae [ba 3 0 (.box 3 2),
 ba 4 1 (.box 4 5),
 ba 5 2 (.box 5 5),
 bE 6 [bO,bO]] [3,4,5,6])
 (.seq
 (.seq
 (.ae [aQ 11 4 2,
 aI 12 11 4 2 1 false,
 aQ 13 5 2,
 aI 14 13 5 2 1 false,
 aU 15 12 14 (.bin .eql)] [3,4,5,6,15])
 (.cond (.t 15)
 (.seq
 (.ae [aI 16 3 3 0 2 true,
 aV 6 16 6 0 2] [6])
 .ret)
 .skip))
 (.seq
 (.ae [aQ 17 4 2,
 aI 18 17 4 2 1 false,
 aQ 19 5 2,
 aI 20 19 5 2 1 false,
 aU 21 18 20 .mn,
 aQ 22 4 2,
 aI 23 22 4 2 1 false,
 aQ 24 5 2,
 aI 25 24 5 2 1 false,
 aU 26 23 25 .mx,
 aa 7 21,
 aa 8 26] [3,6,7,8])
 (.seq
 (.ae [aQ 27 3 0,
 aI 28 27 3 0 1 false,
 aa 29 7,
 aU 30 28 29 (.aC 8),
 aH 31 30 (.aK 8 true),
 aQ 32 3 0,
 aI 33 32 3 0 1 false,
 aa 34 8,
 aU 35 33 34 (.aC 8),
 aH 36 35 (.aK 8 true),
 bE 9 [.bool false,aZ,dP,aZ,aZ,bO,aZ,.bool false],
 bE 10 [.bool false,aZ,dP,aZ,aZ,bO,aZ,.bool false],
 aV 9 31 9 0 8,
 aV 10 36 10 0 8] [3,6,7,8,9,10])
 (.seq
 (.ae [aQ 37 9 6,
 aI 38 37 9 6 1 false,
 aQ 39 10 6,
 aI 40 39 10 6 1 false,
 aU 41 38 40 .mn,
 aQ 42 9 7,
 aI 43 42 9 7 1 false,
 aa 44 43,
 aY 45 44 false 10 (.v (.bh 7)),
 aY 46 44 false 45 (.bl 10 7 1 false),
 a8 47 [.t 44,T_,.t 46] .pick,
 aQ 48 9 6,
 aV 48 41 9 6 1,
 aQ 49 9 7,
 aV 49 47 9 7 1] [3,6,7,8,9,10])
 (.seq
 (.ae [aa 50 7,
 ba 51 50 (.aA 63),
 aQ 52 10 0,
 jX [.t 52,T_] (.dc 10 0 1),
 aQ 53 10 1,
 aV 53 51 10 1 5] [3,6,7,8,9,10])
 (.seq
 (.ae [aI 55 3 3 0 2 true,
 aa 56 7,
 aI 57 9 9 0 8 true,
 bB 58 [.t 55,.t 56,.t 57] (.aA 393),
 aa 54 58,
 aH 59 54 (.ext 0),
 aH 60 54 (.ext 1),
 aV 3 59 3 0 2] [3,6,8,10])
 (.seq
 (.ae [aI 62 3 3 0 2 true,
 aa 63 8,
 aI 64 10 10 0 8 true,
 bB 65 [.t 62,.t 63,.t 64] (.aA 393),
 aa 61 65,
 aH 66 61 (.ext 0),
 aH 67 61 (.ext 1),
 aV 3 66 3 0 2] [3,6])
 (.seq
 (.ae [aI 68 3 3 0 2 true,
 aV 6 68 6 0 2] [6])
 .ret))))))))),none,false⟩
def g398B0:aw:=
 (.seq
 (.seq
 (.ae [aa 54 16,
 aa 55 15,
 aH 56 55 .len,
 aU 57 54 56 (.bin .lss)] [1,3,5,6,8,9,15,16,57])
 (.cond (.t 57)
 .skip
 (.exit 0)))
 (.seq
 (.block 1
 (.seq
 (.ae [aa 60 15,
 aa 61 16,
 aU 62 60 61 (.aC 5),
 aQ 63 62 3,
 aH 64 63 (.aK 1 false),
 aQ 65 8 6,
 aI 66 65 8 6 1 false,
 aU 67 64 66 (.bin .gtr)] [1,3,5,6,8,9,15,16,67])
 (.cond (.t 67)
 (.seq
 (.ae [aI 68 3 3 0 2 true,
 aV 6 68 6 0 2,
 a0 7 (k_ 13)] [6,7])
 .ret)
 .skip)))
 (.ae [aa 58 16,
 a7 59 58 1 (.bin .add),
 aa 16 59] [1,3,5,6,8,9,15,16])))
def g398L0:aw:=.loop [1,3,5,6,8,9,15,16] g398B0
theorem g398L0e: cl AP g398L0 st=after (cl AP g398L0) (cl AP g398B0 (norm (restrict [1,3,5,6,8,9,15,16] st))):=aG
def g398B1:aw:=
 (.seq
 (.seq
 (.ae [aa 69 17,
 aa 70 9,
 aH 71 70 .len,
 aU 72 69 71 (.bin .lss)] [1,3,5,6,8,9,17,72])
 (.cond (.t 72)
 .skip
 (.exit 2)))
 (.seq
 (.block 3
 (.seq
 (.ae [aa 75 9,
 aa 76 17,
 aU 77 75 76 (.aC 1),
 aH 78 77 (.aK 1 false),
 aQ 79 3 0,
 aI 80 79 3 0 1 false,
 aH 81 80 .len,
 aU 82 78 81 (.bin .geq),
 aa 83 82,
 aY 84 83 true 8 (.v (.bh 6)),
 aY 85 83 true 84 (.bl 8 6 1 false),
 cB 86 83 true [.t 85,k_ 0] (.v (.bin .lss)),
 a8 87 [.t 83,.t 86,F_] .pick] [1,3,5,6,8,9,17,87])
 (.cond (.t 87)
 (.seq
 (.ae [aI 88 3 3 0 2 true,
 aV 6 88 6 0 2,
 a0 7 (k_ 13)] [6,7])
 .ret)
 .skip)))
 (.ae [aa 73 17,
 a7 74 73 1 (.bin .add),
 aa 17 74] [1,3,5,6,8,9,17])))
def g398L1:aw:=.loop [1,3,5,6,8,9,17] g398B1
theorem g398L1e: cl AP g398L1 st=after (cl AP g398L1) (cl AP g398B1 (norm (restrict [1,3,5,6,8,9,17] st))):=aG
def g398B2:aw:=
 (.seq
 (.seq
 (.ae [aa 89 18,
 aa 90 9,
 aH 91 90 .len,
 aU 92 89 91 (.bin .lss)] [1,3,5,6,8,9,18,92])
 (.cond (.t 92)
 .skip
 (.exit 4)))
 (.seq
 (.block 5
 (.seq
 (.ae [aa 95 9,
 aa 96 18,
 aU 97 95 96 (.aC 1),
 aH 98 97 (.aK 1 false),
 aQ 99 3 0,
 aI 100 99 3 0 1 false,
 aH 101 100 .len,
 aU 102 98 101 (.bin .lss),
 aa 103 102,
 aY 104 103 true 3 (.v (.bh 0)),
 aY 105 103 true 104 (.bl 3 0 1 false),
 aY 106 103 true 9 (.v (.mv)),
 aY 107 103 true 18 (.v (.mv)),
 cB 108 103 true [.t 106,.t 107] (.v (.aC 1)),
 aY 109 103 true 108 (.v (.aK 1 false)),
 cB 110 103 true [.t 105,.t 109] (.v (.aC 8)),
 aY 111 103 true 110 (.v (.bh 6)),
 aY 112 103 true 111 (.v (.aK 1 false)),
 aY 113 103 true 8 (.v (.bh 6)),
 aY 114 103 true 113 (.bl 8 6 1 false),
 cB 115 103 true [.t 112,.t 114] (.v (.bin .gtr)),
 a8 116 [.t 103,.t 115,F_] .pick] [1,3,5,6,8,9,18,116])
 (.cond (.t 116)
 (.seq
 (.ae [aQ 117 3 0,
 aI 118 117 3 0 1 false,
 aa 119 9,
 aa 120 18,
 aU 121 119 120 (.aC 1),
 aH 122 121 (.aK 1 false),
 aU 123 118 122 (.aC 8),
 aH 124 123 (.aK 8 true),
 bE 19 [.bool false,aZ,dP,aZ,aZ,bO,aZ,.bool false],
 aV 19 124 19 0 8] [1,3,5,6,8,9,18,19])
 (.seq
 (.ae [aQ 125 8 6,
 aI 126 125 8 6 1 false,
 aQ 127 19 6,
 aV 127 126 19 6 1] [1,3,5,6,8,9,18,19])
 (.ae [aI 129 3 3 0 2 true,
 aa 130 9,
 aa 131 18,
 aU 132 130 131 (.aC 1),
 aH 133 132 (.aK 1 false),
 aI 134 19 19 0 8 true,
 bB 135 [.t 129,.t 133,.t 134] (.aA 393),
 aa 128 135,
 aH 136 128 (.ext 0),
 aH 137 128 (.ext 1),
 aV 3 136 3 0 2] [1,3,5,6,8,9,18])))
 .skip)))
 (.ae [aa 93 18,
 a7 94 93 1 (.bin .add),
 aa 18 94] [1,3,5,6,8,9,18])))
def g398L2:aw:=.loop [1,3,5,6,8,9,18] g398B2
theorem g398L2e: cl AP g398L2 st=after (cl AP g398L2) (cl AP g398B2 (norm (restrict [1,3,5,6,8,9,18] st))):=aG
def g398:aJ:=⟨3,149,[.c 6 2 true,.t 7],
 (.seq
 (.ae [ba 3 0 (.box 3 2),
 ba 5 2 (.box 5 5),
 bE 6 [bO,bO],
 a0 7 (k_ 0)] [1,3,5,6])
 (.seq
 (.ae [aQ 20 3 0,
 aI 21 20 3 0 1 false,
 aa 22 1,
 aU 23 21 22 (.aC 8),
 aH 24 23 (.aK 8 true),
 bE 8 [.bool false,aZ,dP,aZ,aZ,bO,aZ,.bool false],
 aV 8 24 8 0 8] [1,3,5,6,8])
 (.seq
 (.ae [aI 25 3 3 0 2 true,
 aI 26 5 5 0 5 true,
 aH 27 26 (.aT 5),
 bH 28 25 27 (.aA 372),
 aa 9 28] [1,3,5,6,8,9])
 (.seq
 (.seq
 (.ae [aa 29 9,
 aa 30 1,
 bH 31 29 30 (.aA 95)] [1,3,5,6,8,9,31])
 (.cond (.t 31)
 (.seq
 (.ae [aI 32 3 3 0 2 true,
 aV 6 32 6 0 2,
 a0 7 (k_ 12)] [6,7])
 .ret)
 .skip))
 (.seq
 (.seq
 (.ae [aI 34 5 5 0 5 true,
 ba 35 34 (.aA 194),
 aa 33 35,
 aH 36 33 (.ext 0),
 aH 37 33 (.ext 1),
 aH 38 33 (.ext 2),
 bE 10 ez,
 bE 11 ez,
 aV 10 36 10 0 5,
 aV 11 37 11 0 5,
 aa 12 38] [1,3,5,6,8,9,12])
 (.seq
 (.ae [aa 39 12,
 aa 40 39,
 aY 41 40 true 8 (.v (.bh 7)),
 aY 42 40 true 41 (.bl 8 7 1 false),
 a8 43 [.t 40,.t 42,F_] .pick] [1,3,5,6,8,9,43])
 (.cond (.t 43)
 (.seq
 (.ae [aI 44 3 3 0 2 true,
 aV 6 44 6 0 2,
 a0 7 (k_ 14)] [6,7])
 .ret)
 .skip)))
 (.seq
 (.ae [aI 46 3 3 0 2 true,
 aI 47 5 5 0 5 true,
 bH 48 46 47 (.aA 358),
 aa 45 48,
 aH 49 45 (.ext 0),
 aH 50 45 (.ext 1),
 bE 13 ez,
 aV 13 49 13 0 5,
 aa 14 50] [1,3,5,6,8,9,13])
 (.seq
 (.ae [aI 51 13 13 0 5 true,
 aH 52 51 (.aT 5),
 ba 53 52 (.aA 59),
 aa 15 53] [1,3,5,6,8,9,15])
 (.seq
 (.seq
 (.ae [a0 16 (k_ 0)] [1,3,5,6,8,9,15,16])
 (.block 0
 g398L0))
 (.seq
 (.seq
 (.ae [a0 17 (k_ 0)] [1,3,5,6,8,9,17])
 (.block 2
 g398L1))
 (.seq
 (.seq
 (.ae [a0 18 (k_ 0)] [1,3,5,6,8,9,18])
 (.block 4
 g398L2))
 (.seq
 (.ae [aI 138 5 5 0 5 true,
 aQ 139 8 0,
 jX [.t 139,T_] (.dc 8 0 1),
 aQ 140 8 1,
 aV 140 138 8 1 5] [1,3,6,8])
 (.seq
 (.ae [aI 142 3 3 0 2 true,
 aa 143 1,
 aI 144 8 8 0 8 true,
 bB 145 [.t 142,.t 143,.t 144] (.aA 393),
 aa 141 145,
 aH 146 141 (.ext 0),
 aH 147 141 (.ext 1),
 aV 3 146 3 0 2] [3,6])
 (.seq
 (.ae [aI 148 3 3 0 2 true,
 aV 6 148 6 0 2,
 a0 7 (k_ 0)] [6,7])
 .ret))))))))))))),none,false⟩
def g399B0:aw:=
 (.seq
 (.seq
 (.ae [aa 21 11,
 aQ 22 9 1,
 aI 23 22 9 1 1 false,
 aH 24 23 .len,
 aU 25 21 24 (.bin .lss)] [3,9,10,11,25])
 (.cond (.t 25)
 .skip
 (.exit 0)))
 (.seq
 (.block 1
 (.seq
 (.ae [aQ 28 9 1,
 aI 29 28 9 1 1 false,
 aa 30 11,
 aa 31 11,
 a7 32 31 1 (.bin .add),
 aU 33 29 30 (.aC 20),
 aQ 34 33 0,
 jX [.t 34,.t 32] (.cz 1)] [3,9,10,11])
 (.ae [aQ 36 9 1,
 aI 37 36 9 1 1 false,
 aa 38 11,
 aQ 39 9 1,
 aI 40 39 9 1 1 false,
 aa 41 11,
 aU 42 40 41 (.aC 20),
 aQ 43 42 9,
 ba 44 43 (.a6 11 true),
 aa 45 10,
 bH 46 44 45 (.aA 402),
 aa 35 46,
 aH 47 35 (.ext 0),
 aH 48 35 (.ext 1),
 aU 49 37 38 (.aC 20),
 aQ 50 49 9,
 jX [.t 50,.t 47] (.cz 11),
 aa 10 48] [3,9,10,11])))
 (.ae [aa 26 11,
 a7 27 26 1 (.bin .add),
 aa 11 27] [3,9,10,11])))
def g399L0:aw:=.loop [3,9,10,11] g399B0
theorem g399L0e: cl AP g399L0 st=after (cl AP g399L0) (cl AP g399B0 (norm (restrict [3,9,10,11] st))):=aG
def g399:aJ:=⟨4,110,[.t 8],
 (.seq
 (.ae [a0 8 F_] [0,1,2,3])
 (.seq
 (.seq
 (.ae [bB 12 [] (.aA 401),
 aH 13 12 (.un .not)] [0,1,2,3,13])
 (.cond (.t 13)
 (.seq
 (.ae [a0 8 F_] [8])
 .ret)
 .skip))
 (.seq
 (.seq
 (.ae [aa 14 1,
 ba 15 14 (.aA 15),
 aH 16 15 (.un .not)] [0,1,2,3,16])
 (.cond (.t 16)
 (.seq
 (.ae [a0 8 T_] [8])
 .ret)
 .skip))
 (.seq
 (.ae [aa 17 0,
 aa 18 1,
 aa 19 2,
 bB 20 [.t 17,.t 18,.t 19] (.aL 310 []),
 bE 9 [bO,bO],
 aV 9 20 9 0 2] [3,9])
 (.seq
 (.ae [a0 10 (k_ 100)] [3,9,10])
 (.seq
 (.seq
 (.ae [a0 11 (k_ 0)] [3,9,10,11])
 (.block 0
 g399L0))
 (.seq
 (.seq
 (.ae [aQ 51 9 1,
 aI 52 51 9 1 1 false,
 aH 53 52 .len,
 a7 54 53 1 (.bin .gtr),
 aa 55 54,
 aY 56 55 true 3 (.v (.mv)),
 cB 57 55 true [.t 56,k_ 6] (.aA 26),
 cB 58 55 true [.t 57,k_ 1] (.v (.bin .eql)),
 a8 59 [.t 55,.t 58,F_] .pick] [3,9,59])
 (.cond (.t 59)
 (.ae [aQ 60 9 1,
 aI 61 60 9 1 1 false,
 aQ 62 9 1,
 aI 63 62 9 1 1 false,
 a7 64 63 0 (.aC 20),
 aQ 65 64 2,
 ba 66 65 (.a6 1 false),
 a7 67 61 1 (.aC 20),
 aQ 68 67 2,
 jX [.t 68,.t 66] (.cz 1)] [3,9])
 .skip))
 (.seq
 (.seq
 (.ae [aQ 69 9 1,
 aI 70 69 9 1 1 false,
 aH 71 70 .len,
 a7 72 71 1 (.bin .gtr),
 aa 73 72,
 aY 74 73 true 3 (.v (.mv)),
 cB 75 73 true [.t 74,k_ 6] (.aA 26),
 cB 76 73 true [.t 75,k_ 2] (.v (.bin .eql)),
 a8 77 [.t 73,.t 76,F_] .pick] [3,9,77])
 (.cond (.t 77)
 (.ae [aQ 78 9 1,
 aI 79 78 9 1 1 false,
 aQ 80 9 1,
 aI 81 80 9 1 1 false,
 aQ 82 9 1,
 aI 83 82 9 1 1 false,
 a7 84 83 1 (.aC 20),
 ba 85 84 (.a6 20 true),
 aQ 86 9 1,
 aI 87 86 9 1 1 false,
 a7 88 87 0 (.aC 20),
 ba 89 88 (.a6 20 true),
 a7 90 79 0 (.aC 20),
 jX [.t 90,.t 85] (.cz 20),
 a7 91 81 1 (.aC 20),
 jX [.t 91,.t 89] (.cz 20)] [3,9])
 .skip))
 (.seq
 (.seq
 (.ae [aa 92 3,
 bB 93 [.t 92,k_ 6] (.aA 26),
 a7 94 93 3 (.bin .eql),
 aa 95 94,
 aY 96 95 true 9 (.v (.bh 0)),
 aY 97 95 true 96 (.bl 9 0 1 false),
 aY 98 95 true 97 (.v (.len)),
 cB 99 95 true [.t 98,k_ 0] (.v (.bin .gtr)),
 a8 100 [.t 95,.t 99,F_] .pick] [9,100])
 (.cond (.t 100)
 (.ae [aQ 101 9 0,
 aI 102 101 9 0 1 false,
 a7 103 102 1 (.slice false 4 true false false),
 aQ 104 9 0,
 aV 104 103 9 0 1] [9])
 .skip))
 (.seq
 (.seq
 (.c_ [9])
 (.ae [aI 105 9 9 0 2 true,
 ba 106 105 (.dG 403),
 aI 107 9 9 0 2 true,
 ba 108 107 (.dG 353),
 aU 109 106 108 (.MJ [.int,.int] false),
 aa 8 109] [8]))
 .ret)))))))))),none,false⟩
def g400B0:aw:=
 (.seq
 (.seq
 (.ae [aa 48 13,
 aa 49 3,
 bB 50 [.t 49,k_ 6] (.aA 26),
 aU 51 48 50 (.bin .lss)] [3,9,10,11,12,13,51])
 (.cond (.t 51)
 .skip
 (.exit 0)))
 (.seq
 (.block 1
 (.seq
 (.ae [aI 54 12 12 0 11 true,
 ba 55 54 (.aA 145),
 aa 14 55] [3,9,10,11,12,13,14])
 (.seq
 (.seq
 (.ae [aa 56 14,
 aH 57 56 .len,
 a7 58 57 0 (.bin .eql)] [3,9,10,11,12,13,14,58])
 (.cond (.t 58)
 (.exit 0)
 .skip))
 (.seq
 (.ae [aa 59 3,
 aa 60 13,
 a8 61 [k_ 3,.t 60] (.bin .mul),
 aU 62 59 61 (.bin .add),
 aa 63 14,
 aH 64 63 .len,
 bH 65 62 64 (.aA 26),
 aa 15 65] [3,9,10,11,12,13,14,15])
 (.ae [aa 66 11,
 aa 67 15,
 aH 68 67 (.aT 1),
 bH 69 66 68 (.append 1 8),
 aa 70 14,
 aa 71 15,
 aU 72 70 71 (.aC 11),
 aH 73 72 (.aK 11 true),
 aa 11 69,
 aV 12 73 12 0 11] [3,9,10,11,12,13])))))
 (.ae [aa 52 13,
 a7 53 52 1 (.bin .add),
 aa 13 53] [3,9,10,11,12,13])))
def g400L0:aw:=.loop [3,9,10,11,12,13] g400B0
theorem g400L0e: cl AP g400L0 st=after (cl AP g400L0) (cl AP g400B0 (norm (restrict [3,9,10,11,12,13] st))):=aG
def g400B1:aw:=
 (.seq
 (.seq
 (.ae [aa 78 17,
 aQ 79 9 1,
 aI 80 79 9 1 1 false,
 aH 81 80 .len,
 aU 82 78 81 (.bin .lss)] [9,12,16,17,82])
 (.cond (.t 82)
 .skip
 (.exit 2)))
 (.seq
 (.block 3
 (.ae [aa 85 16,
 aQ 86 9 1,
 aI 87 86 9 1 1 false,
 aa 88 17,
 aU 89 87 88 (.aC 20),
 aQ 90 89 2,
 aH 91 90 (.aK 1 false),
 aH 92 91 (.aT 1),
 bH 93 85 92 (.cZ 1 16 false),
 aa 16 93] [9,12,16,17]))
 (.ae [aa 83 17,
 a7 84 83 1 (.bin .add),
 aa 17 84] [9,12,16,17])))
def g400L1:aw:=.loop [9,12,16,17] g400B1
theorem g400L1e: cl AP g400L1 st=after (cl AP g400L1) (cl AP g400B1 (norm (restrict [9,12,16,17] st))):=aG
def g400:aJ:=⟨4,101,[.t 8],
 (.seq
 (.ae [a0 8 F_] [0,1,2,3])
 (.seq
 (.seq
 (.ae [bB 18 [] (.aA 401),
 aH 19 18 (.un .not)] [0,1,2,3,19])
 (.cond (.t 19)
 (.seq
 (.ae [a0 8 F_] [8])
 .ret)
 .skip))
 (.seq
 (.seq
 (.ae [aa 20 1,
 ba 21 20 (.aA 15),
 aH 22 21 (.un .not)] [0,1,2,3,22])
 (.cond (.t 22)
 (.seq
 (.ae [a0 8 T_] [8])
 .ret)
 .skip))
 (.seq
 (.ae [aa 23 0,
 aa 24 1,
 aa 25 2,
 bB 26 [.t 23,.t 24,.t 25] (.aA 310),
 bE 9 [bO,bO],
 aV 9 26 9 0 2] [3,9])
 (.seq
 (.seq
 (.ae [aI 27 9 9 0 2 true,
 ba 28 27 (.aA 403),
 aH 29 28 (.field 0 1 false),
 a7 30 29 0 (.bin .neq),
 aa 31 30,
 aY 32 31 false 9 (.v (.bh 1)),
 aY 33 31 false 32 (.bl 9 1 1 false),
 aY 34 31 false 33 (.v (.len)),
 cB 35 31 false [.t 34,k_ 0] (.v (.bin .eql)),
 a8 36 [.t 31,T_,.t 35] .pick] [3,9,36])
 (.cond (.t 36)
 (.seq
 (.ae [a0 8 T_] [8])
 .ret)
 .skip))
 (.seq
 (.ae [aQ 37 9 1,
 aI 38 37 9 1 1 false,
 aa 39 3,
 aQ 40 9 1,
 aI 41 40 9 1 1 false,
 aH 42 41 .len,
 bH 43 39 42 (.aA 26),
 aU 44 38 43 (.aC 20),
 aH 45 44 (.aK 20 true),
 bE 10 [aZ,.bool false,dP,.bool false,aZ,dP,aZ,aZ,bO,aZ,aZ,dP,aZ,bO,bO,aZ,dP,aZ,aZ,bO],
 aV 10 45 10 0 20] [3,9,10])
 (.seq
 (.ae [a8 11 [.c (.bD [])] .mv] [3,9,10,11])
 (.seq
 (.ae [aQ 46 10 9,
 aI 47 46 10 9 11 true,
 bE 12 eu,
 aV 12 47 12 0 11] [3,9,10,11,12])
 (.seq
 (.seq
 (.ae [a0 13 (k_ 0)] [3,9,10,11,12,13])
 (.block 0
 g400L0))
 (.seq
 (.ae [aQ 74 10 9,
 aI 75 74 10 9 11 true,
 aa 76 11,
 bH 77 75 76 (.aL 404 []),
 aa 16 77] [9,12,16])
 (.seq
 (.seq
 (.ae [a0 17 (k_ 0)] [9,12,16,17])
 (.block 2
 g400L1))
 (.seq
 (.seq
 (.c_ [16])
 (.ae [aQ 94 9 0,
 aI 95 94 9 0 1 false,
 aa 96 16,
 aI 97 12 12 0 11 true,
 bB 98 [.t 95,.t 96,.t 97] (.dG 405),
 aH 99 98 (.field 0 1 false),
 a7 100 99 0 (.bin .eql),
 aa 8 100] [8]))
 .ret)))))))))))),none,false⟩
def g401:aJ:=⟨0,40,[.t 0],
 (.seq
 (.ae [a0 0 F_] [])
 (.seq
 (.ae [bB 5 [.c (.pv (.str [92,120,46,32,108,101,116,32,121,32,61,32,63,32,105,110,32,63]))] (.aA 406),
 bE 1 eu,
 aV 1 5 1 0 11] [1])
 (.seq
 (.ae [bB 6 [k_ 2] (.aA 32),
 aa 2 6] [1,2])
 (.seq
 (.ae [aa 8 2,
 bB 9 [.c (.pv (.str [99,97,115,101,32,120,32,111,102,32,78,111,110,101,46,32,49,32,124,32,83,111,109,101,32,120,46,32,120,32,101,110,100]))] (.aA 406),
 aH 10 9 (.field 5 1 false),
 bH 11 8 10 (.aA 407),
 aa 7 11,
 aH 12 7 (.ext 0),
 aH 13 7 (.ext 1),
 aa 3 12,
 aa 4 13] [1,2,3,4])
 (.seq
 (.ae [aI 14 1 1 0 11 true,
 a8 15 [k_ 0,k_ 0] (.aT 1),
 bH 16 14 15 (.aA 404),
 a8 17 [.c (.pv (.str [120]))] (.aT 1),
 bH 18 16 17 (.aA 408),
 aa 19 18,
 aY 20 19 true 1 (.bl 1 0 11 true),
 cB 21 19 true [k_ 0,k_ 1] (.v (.aT 1)),
 cB 22 19 true [.t 20,.t 21] (.aA 404),
 cB 23 19 true [.c (.pv (.str [120])),.c (.pv (.str [121]))] (.v (.aT 1)),
 cB 24 19 true [.t 22,.t 23] (.aA 408),
 a8 25 [.t 19,.t 24,F_] .pick,
 aa 26 25,
 aY 27 26 true 4 (.v (.mv)),
 a8 28 [.t 26,.t 27,F_] .pick,
 aa 29 28,
 aY 30 29 true 3 (.v (.mv)),
 cB 31 29 true [.t 30,k_ 0] (.v (.bin .eql)),
 a8 32 [.t 29,.t 31,F_] .pick,
 aa 33 32,
 aY 34 33 true 2 (.v (.mv)),
 cB 35 33 true [.c (.pv (.str [120]))] (.aA 406),
 cB 36 33 true [.t 34,.c (.bD []),.t 35] (.aA 405),
 aY 37 33 true 36 (.v (.field 0 1 false)),
 cB 38 33 true [.t 37,k_ 9] (.v (.bin .eql)),
 a8 39 [.t 33,.t 38,F_] .pick,
 aa 0 39] [0])
 .ret))))),none,false⟩
def g402B0:aw:=
 (.seq
 (.seq
 (.ae [aa 19 7,
 aQ 20 2 5,
 aI 21 20 2 5 1 false,
 aH 22 21 .len,
 aU 23 19 22 (.bin .lss)] [1,2,4,6,7,23])
 (.cond (.t 23)
 .skip
 (.exit 0)))
 (.seq
 (.block 1
 (.seq
 (.ae [aQ 26 2 5,
 aI 27 26 2 5 1 false,
 aa 28 7,
 aa 29 1,
 aU 30 27 28 (.aC 14),
 aQ 31 30 0,
 jX [.t 31,.t 29] (.cz 1)] [1,2,4,6,7])
 (.ae [aa 32 1,
 a7 33 32 1 (.bin .add),
 aa 1 33] [1,2,4,6,7])))
 (.ae [aa 24 7,
 a7 25 24 1 (.bin .add),
 aa 7 25] [1,2,4,6,7])))
def g402L0:aw:=.loop [1,2,4,6,7] g402B0
theorem g402L0e: cl AP g402L0 st=after (cl AP g402L0) (cl AP g402B0 (norm (restrict [1,2,4,6,7] st))):=aG
def g402B1:aw:=
 (.seq
 (.seq
 (.ae [aa 34 8,
 aa 35 6,
 aH 36 35 .len,
 aU 37 34 36 (.bin .lss)] [1,2,4,6,8,37])
 (.cond (.t 37)
 .skip
 (.exit 2)))
 (.seq
 (.block 3
 (.ae [aa 41 6,
 aa 42 8,
 aa 43 6,
 aa 44 8,
 aU 45 43 44 (.aC 11),
 ba 46 45 (.a6 11 true),
 aa 47 1,
 bH 48 46 47 (.aA 402),
 aa 40 48,
 aH 49 40 (.ext 0),
 aH 50 40 (.ext 1),
 aU 51 41 42 (.aC 11),
 jX [.t 51,.t 49] (.cz 11),
 aa 1 50] [1,2,4,6,8]))
 (.ae [aa 38 8,
 a7 39 38 1 (.bin .add),
 aa 8 39] [1,2,4,6,8])))
def g402L1:aw:=.loop [1,2,4,6,8] g402B1
theorem g402L1e: cl AP g402L1 st=after (cl AP g402L1) (cl AP g402B1 (norm (restrict [1,2,4,6,8] st))):=aG
def g402:aJ:=⟨2,56,[.c 4 11 true,.t 5],
 (.seq
 (.ae [ba 2 0 (.box 2 11),
 bE 4 eu,
 a0 5 (k_ 0)] [1,2,4])
 (.seq
 (.ae [aa 9 1,
 aQ 10 2 1,
 aV 10 9 2 1 1] [1,2,4])
 (.seq
 (.ae [aa 11 1,
 a7 12 11 1 (.bin .add),
 aa 1 12] [1,2,4])
 (.seq
 (.ae [aQ 13 2 5,
 aI 14 13 2 5 1 false,
 bB 15 [.c (.bD []),.t 14] (.cZ 14 200 true),
 aQ 16 2 5,
 aV 16 15 2 5 1] [1,2,4])
 (.seq
 (.ae [aI 17 2 2 0 11 true,
 ba 18 17 (.aL 145 []),
 aa 6 18] [1,2,4,6])
 (.seq
 (.seq
 (.ae [a0 7 (k_ 0)] [1,2,4,6,7])
 (.block 0
 g402L0))
 (.seq
 (.seq
 (.ae [a0 8 (k_ 0)] [1,2,4,6,8])
 (.block 2
 g402L1))
 (.seq
 (.ae [aI 52 2 2 0 11 true,
 aa 53 6,
 bH 54 52 53 (.dG 374),
 aa 55 1,
 aV 4 54 4 0 11,
 aa 5 55] [4,5])
 .ret)))))))),none,false⟩
def g403B0:aw:=
 (.seq
 (.ae [aU 21 20 19 (.bin .lss)] [1,2,4,18,19,20,21])
 (.seq
 (.cond (.t 21)
 .skip
 (.exit 0))
 (.seq
 (.block 1
 (.seq
 (.ae [aU 22 18 20 (.aC 20),
 aH 23 22 (.aK 20 true),
 bE 6 [aZ,.bool false,dP,.bool false,aZ,dP,aZ,aZ,bO,aZ,aZ,dP,aZ,bO,bO,aZ,dP,aZ,aZ,bO],
 aV 6 23 6 0 20] [1,2,4,6,18,19,20])
 (.seq
 (.seq
 (.ae [aa 24 4,
 aQ 25 6 2,
 aI 26 25 6 2 1 false,
 bH 27 24 26 (.aA 214)] [1,2,4,6,18,19,20,27])
 (.cond (.t 27)
 (.seq
 (.ae [aQ 28 6 0,
 aI 29 28 6 0 1 false,
 a8 30 [k_ 6,.t 29] (.build [aZ,aZ] [(0,1),(1,1)]),
 aV 2 30 2 0 2] [2])
 .ret)
 .skip))
 (.seq
 (.seq
 (.ae [aQ 31 6 3,
 aI 32 31 6 3 1 false] [1,2,4,6,18,19,20,32])
 (.cond (.t 32)
 (.seq
 (.ae [aQ 33 1 0,
 aI 34 33 1 0 1 false,
 aQ 35 6 4,
 aI 36 35 6 4 5 true,
 aQ 37 6 4,
 aI 38 37 6 4 5 true,
 ba 39 38 (.aA 195),
 bB 40 [.t 34,.t 36,.t 39] (.aA 185),
 aa 7 40] [1,2,4,6,7,18,19,20])
 (.seq
 (.ae [aa 41 7,
 a7 42 41 0 (.bin .neq)] [1,2,4,6,7,18,19,20,42])
 (.cond (.t 42)
 (.seq
 (.ae [aa 43 7,
 aQ 44 6 0,
 aI 45 44 6 0 1 false,
 aU 46 43 45 (.build [aZ,aZ] [(0,1),(1,1)]),
 aV 2 46 2 0 2] [2])
 .ret)
 .skip)))
 .skip))
 (.seq
 (.ae [aa 47 4,
 aa 8 47] [1,2,4,6,8,18,19,20])
 (.seq
 (.seq
 (.ae [aQ 48 6 1,
 aI 49 48 6 1 1 false] [1,2,4,6,8,18,19,20,49])
 (.cond (.t 49)
 (.ae [aa 50 4,
 aQ 51 6 2,
 aI 52 51 6 2 1 false,
 aH 53 52 (.aT 1),
 bH 54 50 53 (.aA 409),
 aa 8 54] [1,2,4,6,8,18,19,20])
 .skip))
 (.seq
 (.seq
 (.ae [aQ 55 1 0,
 aI 56 55 1 0 1 false,
 aa 57 8,
 aQ 58 6 9,
 aI 59 58 6 9 11 true,
 bB 60 [.t 56,.t 57,.t 59] (.aA 405),
 bE 9 [aZ,aZ],
 aV 9 60 9 0 2] [1,2,4,6,9,18,19,20])
 (.seq
 (.ae [aQ 61 9 0,
 aI 62 61 9 0 1 false,
 a7 63 62 0 (.bin .neq)] [1,2,4,6,9,18,19,20,63])
 (.cond (.t 63)
 (.seq
 (.ae [aI 64 9 9 0 2 true,
 aV 2 64 2 0 2] [2])
 .ret)
 .skip)))
 (.ae [aa 65 4,
 aQ 66 6 2,
 aI 67 66 6 2 1 false,
 aH 68 67 (.aT 1),
 bH 69 65 68 (.aA 409),
 aa 4 69] [1,2,4,18,19,20]))))))))
 (.ae [a7 70 20 1 (.bin .add),
 aa 20 70] [1,2,4,18,19,20]))))
def g403L0:aw:=.loop [1,2,4,18,19,20] g403B0
theorem g403L0e: cl AP g403L0 st=after (cl AP g403L0) (cl AP g403B0 (norm (restrict [1,2,4,18,19,20] st))):=aG
def g403:aJ:=⟨1,72,[.c 2 2 true],
 (.seq
 (.ae [ba 1 0 (.box 1 2),
 bE 2 [aZ,aZ]] [1,2])
 (.seq
 (.seq
 (.ae [aQ 10 1 0,
 aI 11 10 1 0 1 false,
 ba 12 11 (.aA 188),
 bE 3 [aZ,aZ],
 aV 3 12 3 0 2] [1,2,3])
 (.seq
 (.ae [aQ 13 3 0,
 aI 14 13 3 0 1 false,
 a7 15 14 0 (.bin .neq)] [1,2,3,15])
 (.cond (.t 15)
 (.seq
 (.ae [aI 16 3 3 0 2 true,
 aV 2 16 2 0 2] [2])
 .ret)
 .skip)))
 (.seq
 (.ae [a8 4 [.c (.bD [])] .mv] [1,2,4])
 (.seq
 (.seq
 (.ae [aQ 17 1 1,
 aI 18 17 1 1 1 false,
 aH 19 18 .len,
 a0 20 (k_ 0)] [1,2,4,18,19,20])
 (.block 0
 g403L0))
 (.seq
 (.ae [a8 71 [] (.build [aZ,aZ] []),
 aV 2 71 2 0 2] [2])
 .ret))))),none,false⟩
def g404B1:aw:=
 (.seq
 (.ae [aU 31 30 29 (.bin .lss)] [2,7,9,20,21,22,28,29,30,31])
 (.seq
 (.cond (.t 31)
 .skip
 (.exit 2))
 (.seq
 (.block 3
 (.seq
 (.ae [aU 32 28 30 (.aC 1),
 aH 33 32 (.aK 1 false),
 bB 11 [] (.ia [dP]),
 jX [.t 11,.t 33] (.cz 1)] [2,7,9,11,20,21,22,28,29,30])
 (.seq
 (.ae [aa 34 7,
 aH 35 11 (.CF 413),
 bH 36 34 35 (.aL 412 [0]),
 aa 7 36] [2,7,9,11,20,21,22,28,29,30])
 (.ae [aa 37 7,
 ba 38 11 (.a6 1 false),
 aH 39 38 (.aT 1),
 bH 40 37 39 (.cZ 1 16 false),
 aa 7 40] [2,7,9,20,21,22,28,29,30]))))
 (.ae [a7 41 30 1 (.bin .add),
 aa 30 41] [2,7,9,20,21,22,28,29,30]))))
def g404L1:aw:=.loop [2,7,9,20,21,22,28,29,30] g404B1
theorem g404L1e: cl AP g404L1 st=after (cl AP g404L1) (cl AP g404B1 (norm (restrict [2,7,9,20,21,22,28,29,30] st))):=aG
def g404B0:aw:=
 (.seq
 (.ae [aU 23 22 21 (.bin .lss)] [2,7,20,21,22,23])
 (.seq
 (.cond (.t 23)
 .skip
 (.exit 0))
 (.seq
 (.block 1
 (.seq
 (.ae [aU 24 20 22 (.aC 1),
 aH 25 24 (.aK 1 false),
 aa 9 25] [2,7,9,20,21,22])
 (.seq
 (.seq
 (.ae [aI 26 2 2 0 11 true,
 aa 27 9,
 bH 28 26 27 (.aA 411),
 aH 29 28 .len,
 a0 30 (k_ 0)] [2,7,9,20,21,22,28,29,30])
 (.block 2
 g404L1))
 (.ae [aI 42 2 2 0 11 true,
 ba 43 42 (.aA 414),
 aa 44 9,
 aU 45 43 44 (.aC 11),
 aH 46 45 (.aK 11 true),
 aV 2 46 2 0 11] [2,7,20,21,22]))))
 (.ae [a7 47 22 1 (.bin .add),
 aa 22 47] [2,7,20,21,22]))))
def g404L0:aw:=.loop [2,7,20,21,22] g404B0
theorem g404L0e: cl AP g404L0 st=after (cl AP g404L0) (cl AP g404B0 (norm (restrict [2,7,20,21,22] st))):=aG
def g404:aJ:=⟨2,49,[.t 4],
 (.seq
 (.ae [ba 2 0 (.box 2 11),
 a8 4 [.c (.bD [])] .mv] [1,2])
 (.seq
 (.seq
 (.ae [aI 13 2 2 0 11 true,
 aa 14 1,
 bH 15 13 14 (.aA 410),
 aa 12 15,
 aH 16 12 (.ext 0),
 aH 17 12 (.ext 1),
 bE 5 eu,
 aV 5 16 5 0 11,
 aa 6 17] [1,2,6])
 (.seq
 (.ae [aa 18 6,
 aH 19 18 (.un .not)] [1,2,19])
 (.cond (.t 19)
 (.seq
 (.ae [a8 4 [.c (.bD [])] .mv] [4])
 .ret)
 .skip)))
 (.seq
 (.ae [a8 7 [.c (.bD [])] .mv] [1,2,7])
 (.seq
 (.seq
 (.ae [aa 20 1,
 aH 21 20 .len,
 a0 22 (k_ 0)] [2,7,20,21,22])
 (.block 0
 g404L0))
 (.seq
 (.ae [aa 48 7,
 aa 4 48] [4])
 .ret))))),none,true⟩
def g405B0:aw:=
 (.seq
 (.ae [aU 67 66 65 (.bin .lss)] [0,1,5,6,64,65,66,67])
 (.seq
 (.cond (.t 67)
 .skip
 (.exit 1))
 (.seq
 (.block 2
 (.seq
 (.ae [aa 68 66,
 aU 69 64 66 (.aC 11),
 aH 70 69 (.aK 11 true),
 bE 13 eu,
 aa 12 68,
 aV 13 70 13 0 11] [0,1,5,6,12,13,64,65,66])
 (.seq
 (.ae [aa 71 0,
 aa 72 1,
 aI 73 5 5 0 11 true,
 aa 74 12,
 bH 75 73 74 (.aA 411),
 bH 76 72 75 (.aA 409),
 aI 77 13 13 0 11 true,
 bB 78 [.t 71,.t 76,.t 77] (.aA 405),
 bE 14 [aZ,aZ],
 aV 14 78 14 0 2] [0,1,5,6,14,64,65,66])
 (.seq
 (.ae [aQ 79 14 0,
 aI 80 79 14 0 1 false,
 a7 81 80 0 (.bin .neq)] [0,1,5,6,14,64,65,66,81])
 (.cond (.t 81)
 (.seq
 (.ae [aI 82 14 14 0 2 true,
 aV 6 82 6 0 2] [6])
 .ret)
 .skip)))))
 (.ae [a7 83 66 1 (.bin .add),
 aa 66 83] [0,1,5,6,64,65,66]))))
def g405L0:aw:=.loop [0,1,5,6,64,65,66] g405B0
theorem g405L0e: cl AP g405L0 st=after (cl AP g405L0) (cl AP g405B0 (norm (restrict [0,1,5,6,64,65,66] st))):=aG
def g405:aJ:=⟨3,85,[.c 6 2 true],
 (.seq
 (.ae [ba 5 2 (.box 5 11),
 bE 6 [aZ,aZ]] [0,1,5,6])
 (.seq
 (.ae [bE 7 [aZ,aZ]] [0,1,5,6,7])
 (.seq
 (.seq
 (.ae [aQ 15 5 0,
 aI 16 15 5 0 1 false] [0,1,5,6,7,16])
 (.block 0
 (.seq
 (.ae [a7 18 16 1 (.bin .eql),
 aa 17 18] [0,1,5,6,7,16,17])
 (.cond (.t 17)
 (.seq
 (.ae [aa 19 1,
 aQ 20 5 2,
 aI 21 20 5 2 1 false,
 bH 22 19 21 (.aA 214),
 aH 23 22 (.un .not)] [0,1,5,6,7,23])
 (.cond (.t 23)
 (.ae [aQ 24 5 1,
 aI 25 24 5 1 1 false,
 a8 26 [k_ 9,.t 25] (.build [aZ,aZ] [(0,1),(1,1)]),
 aV 7 26 7 0 2] [0,1,5,6,7])
 .skip))
 (.seq
 (.ae [a7 28 16 2 (.bin .eql),
 aa 27 28] [0,1,5,6,7,16,27])
 (.cond (.t 27)
 (.seq
 (.ae [aa 30 0,
 aQ 31 5 2,
 aI 32 31 5 2 1 false,
 bH 33 30 32 (.aA 190),
 aa 29 33,
 aH 34 29 (.ext 0),
 aH 35 29 (.ext 1),
 aH 36 29 (.ext 2),
 aa 8 34,
 aa 9 35,
 aa 10 36] [0,1,5,6,7,10])
 (.seq
 (.ae [aa 37 10,
 aH 38 37 (.un .not)] [0,1,5,6,7,38])
 (.cond (.t 38)
 (.ae [aQ 39 5 1,
 aI 40 39 5 1 1 false,
 a8 41 [k_ 9,.t 40] (.build [aZ,aZ] [(0,1),(1,1)]),
 aV 7 41 7 0 2] [0,1,5,6,7])
 .skip)))
 (.seq
 (.ae [a7 43 16 8 (.bin .eql),
 aa 42 43] [0,1,5,6,7,16,42])
 (.cond (.t 42)
 (.ae [aa 44 0,
 aI 45 5 5 0 11 true,
 bH 46 44 45 (.aA 415),
 aV 7 46 7 0 2] [0,1,5,6,7])
 (.seq
 (.ae [a7 48 16 9 (.bin .eql),
 aa 47 48] [0,1,5,6,7,47])
 (.cond (.t 47)
 (.seq
 (.ae [aa 49 0,
 aQ 50 5 6,
 aI 51 50 5 6 5 true,
 bB 52 [.t 49,.t 51,.c (.bD [])] (.aA 185),
 aa 11 52] [0,1,5,6,7,11])
 (.seq
 (.ae [aa 53 11,
 a7 54 53 0 (.bin .neq)] [0,1,5,6,7,11,54])
 (.cond (.t 54)
 (.ae [aa 55 11,
 aQ 56 5 1,
 aI 57 56 5 1 1 false,
 aU 58 55 57 (.build [aZ,aZ] [(0,1),(1,1)]),
 aV 7 58 7 0 2] [0,1,5,6,7])
 .skip)))
 .skip))))))))))
 (.seq
 (.seq
 (.ae [aQ 59 7 0,
 aI 60 59 7 0 1 false,
 a7 61 60 0 (.bin .neq)] [0,1,5,6,7,61])
 (.cond (.t 61)
 (.seq
 (.ae [aI 62 7 7 0 2 true,
 aV 6 62 6 0 2] [6])
 .ret)
 .skip))
 (.seq
 (.seq
 (.ae [aI 63 5 5 0 11 true,
 ba 64 63 (.aA 414),
 aH 65 64 .len,
 a0 66 (k_ 0)] [0,1,5,6,64,65,66])
 (.block 1
 g405L0))
 (.seq
 (.ae [a8 84 [] (.build [aZ,aZ] []),
 aV 6 84 6 0 2] [6])
 .ret)))))),none,false⟩
def g406:aJ:=⟨1,11,[.c 2 11 true],
 (.seq
 (.ae [bE 2 eu] [0,2])
 (.seq
 (.ae [aa 6 0,
 ba 7 6 (.aA 250),
 aa 5 7,
 aH 8 5 (.ext 0),
 aH 9 5 (.ext 1),
 bE 3 eu,
 bE 4 [aZ,aZ],
 aV 3 8 3 0 11,
 aV 4 9 4 0 2] [2,3])
 (.seq
 (.ae [aI 10 3 3 0 11 true,
 aV 2 10 2 0 11] [2])
 .ret))),none,false⟩
def g407:aJ:=⟨2,14,[.t 4,.t 5],
 (.seq
 (.ae [ba 3 1 (.l4 1),
 a0 4 (k_ 0),
 a0 5 F_] [0,3])
 (.seq
 (.ae [aa 7 0,
 aH 8 3 (.CF 417),
 bH 9 7 8 (.aL 416 []),
 aa 6 9] [6])
 (.seq
 (.ae [aa 10 6,
 a7 11 10 0 .mx,
 aa 12 6,
 a7 13 12 0 (.bin .geq),
 aa 4 11,
 aa 5 13] [4,5])
 .ret))),none,false⟩
def g408B0:aw:=
 (.seq
 (.seq
 (.ae [aa 11 5,
 aa 12 0,
 aH 13 12 .len,
 aU 14 11 13 (.bin .lss)] [0,1,5,14])
 (.cond (.t 14)
 .skip
 (.exit 0)))
 (.seq
 (.block 1
 (.seq
 (.ae [aa 17 0,
 aa 18 5,
 aU 19 17 18 (.aC 1),
 aH 20 19 (.aK 1 false),
 aa 21 1,
 aa 22 5,
 aU 23 21 22 (.aC 1),
 aH 24 23 (.aK 1 false),
 aU 25 20 24 (.bin .neq)] [0,1,5,25])
 (.cond (.t 25)
 (.seq
 (.ae [a0 4 F_] [4])
 .ret)
 .skip)))
 (.ae [aa 15 5,
 a7 16 15 1 (.bin .add),
 aa 5 16] [0,1,5])))
def g408L0:aw:=.loop [0,1,5] g408B0
theorem g408L0e: cl AP g408L0 st=after (cl AP g408L0) (cl AP g408B0 (norm (restrict [0,1,5] st))):=aG
def g408:aJ:=⟨2,26,[.t 4],
 (.seq
 (.ae [a0 4 F_] [0,1])
 (.seq
 (.seq
 (.ae [aa 6 0,
 aH 7 6 .len,
 aa 8 1,
 aH 9 8 .len,
 aU 10 7 9 (.bin .neq)] [0,1,10])
 (.cond (.t 10)
 (.seq
 (.ae [a0 4 F_] [4])
 .ret)
 .skip))
 (.seq
 (.seq
 (.ae [a0 5 (k_ 0)] [0,1,5])
 (.block 0
 g408L0))
 (.seq
 (.ae [a0 4 T_] [4])
 .ret)))),none,false⟩
def g409:aJ:=⟨2,9,[.t 4],
 (.seq
 (.ae [a8 4 [.c (.bD [])] .mv] [0,1])
 (.seq
 (.ae [aa 5 0,
 ba 6 5 (.clone 1 16),
 aa 7 1,
 bH 8 6 7 (.append 1 16),
 aa 4 8] [4])
 .ret)),none,false⟩
def g410B0:aw:=
 (.seq
 (.ae [aU 12 11 10 (.bin .lss)] [2,4,9,10,11,12])
 (.seq
 (.cond (.t 12)
 .skip
 (.exit 0))
 (.seq
 (.block 1
 (.seq
 (.ae [aU 13 9 11 (.aC 1),
 aH 14 13 (.aK 1 false),
 aa 7 14] [2,4,7,9,10,11])
 (.seq
 (.ae [aI 15 2 2 0 11 true,
 ba 16 15 (.aA 414),
 aa 8 16] [2,4,7,8,9,10,11])
 (.seq
 (.seq
 (.ae [aa 17 7,
 a7 18 17 0 (.bin .lss),
 aa 19 18,
 aY 20 19 false 7 (.v (.mv)),
 aY 21 19 false 8 (.v (.mv)),
 aY 22 19 false 21 (.v (.len)),
 cB 23 19 false [.t 20,.t 22] (.v (.bin .geq)),
 a8 24 [.t 19,T_,.t 23] .pick] [2,4,7,8,9,10,11,24])
 (.cond (.t 24)
 (.seq
 (.ae [a8 25 [] (.build eu []),
 aV 4 25 4 0 11,
 a0 5 F_] [4,5])
 .ret)
 .skip))
 (.ae [aa 26 8,
 aa 27 7,
 aU 28 26 27 (.aC 11),
 aH 29 28 (.aK 11 true),
 aV 2 29 2 0 11] [2,4,9,10,11])))))
 (.ae [a7 30 11 1 (.bin .add),
 aa 11 30] [2,4,9,10,11]))))
def g410L0:aw:=.loop [2,4,9,10,11] g410B0
theorem g410L0e: cl AP g410L0 st=after (cl AP g410L0) (cl AP g410B0 (norm (restrict [2,4,9,10,11] st))):=aG
def g410:aJ:=⟨2,32,[.c 4 11 true,.t 5],
 (.seq
 (.ae [ba 2 0 (.box 2 11),
 bE 4 eu,
 a0 5 F_] [1,2,4])
 (.seq
 (.seq
 (.ae [aa 9 1,
 aH 10 9 .len,
 a0 11 (k_ 0)] [2,4,9,10,11])
 (.block 0
 g410L0))
 (.seq
 (.ae [aI 31 2 2 0 11 true,
 aV 4 31 4 0 11,
 a0 5 T_] [4,5])
 .ret))),none,false⟩
def g411:aJ:=⟨2,37,[.t 4],
 (.seq
 (.ae [ba 2 0 (.box 2 11),
 a8 4 [.c (.bD [])] .mv] [1,2])
 (.seq
 (.seq
 (.ae [aQ 5 2 0,
 aI 6 5 2 0 1 false] [1,2,6])
 (.block 0
 (.seq
 (.seq
 (.ae [a7 8 6 4 (.bin .eql),
 aa 7 8] [1,2,6,7])
 (.cond (.t 7)
 .skip
 (.ae [a7 9 6 7 (.bin .eql),
 aa 7 9] [1,2,6,7])))
 (.cond (.t 7)
 (.seq
 (.ae [aQ 10 2 2,
 aI 11 10 2 2 1 false,
 aH 12 11 (.aT 1),
 aa 4 12] [4])
 .ret)
 (.seq
 (.ae [a7 14 6 6 (.bin .eql),
 aa 13 14] [1,2,6,13])
 (.cond (.t 13)
 (.seq
 (.ae [aa 15 1,
 a7 16 15 1 (.bin .eql)] [2,16])
 (.cond (.t 16)
 (.seq
 (.ae [aQ 17 2 2,
 aI 18 17 2 2 1 false,
 aH 19 18 (.aT 1),
 aa 4 19] [4])
 .ret)
 .skip))
 (.seq
 (.ae [a7 21 6 8 (.bin .eql),
 aa 20 21] [1,2,20])
 (.cond (.t 20)
 (.seq
 (.ae [aa 22 1,
 aQ 23 2 4,
 aI 24 23 2 4 1 false,
 aH 25 24 .len,
 aU 26 22 25 (.bin .geq)] [1,2,26])
 (.cond (.t 26)
 (.seq
 (.ae [aQ 27 2 5,
 aI 28 27 2 5 1 false,
 aa 29 1,
 aQ 30 2 4,
 aI 31 30 2 4 1 false,
 aH 32 31 .len,
 aU 33 29 32 (.bin .sub),
 aU 34 28 33 (.aC 14),
 aQ 35 34 2,
 aH 36 35 (.aK 1 false),
 aa 4 36] [4])
 .ret)
 .skip))
 .skip))))))))
 (.seq
 (.ae [a8 4 [.c (.bD [])] .mv] [4])
 .ret))),none,false⟩
def g412B0:aw:=
 (.seq
 (.seq
 (.ae [aa 16 6,
 aa 17 0,
 aH 18 17 .len,
 aU 19 16 18 (.bin .lss)] [0,1,5,6,19])
 (.cond (.t 19)
 .skip
 (.exit 0)))
 (.seq
 (.block 1
 (.seq
 (.ae [aa 22 0,
 aa 23 6,
 aU 24 22 23 (.aC 1),
 ba 25 24 (.a6 1 false),
 aa 7 25] [0,1,5,6,7])
 (.seq
 (.ae [aa 26 1,
 aa 27 7,
 bH 28 26 27 .ff,
 aH 29 28 (.un .not)] [0,1,5,6,7,29])
 (.cond (.t 29)
 (.seq
 (.ae [aa 30 0,
 aa 31 5,
 aa 32 7,
 aU 33 30 31 (.aC 1),
 jX [.t 33,.t 32] (.cz 1)] [0,1,5,6])
 (.ae [aa 34 5,
 a7 35 34 1 (.bin .add),
 aa 5 35] [0,1,5,6]))
 .skip))))
 (.ae [aa 20 6,
 a7 21 20 1 (.bin .add),
 aa 6 21] [0,1,5,6])))
def g412L0:aw:=.loop [0,1,5,6] g412B0
theorem g412L0e: cl AP g412L0 st=after (cl AP g412L0) (cl AP g412B0 (norm (restrict [0,1,5,6] st))):=aG
def g412:aJ:=⟨2,42,[.t 4],
 (.seq
 (.ae [a8 4 [.c (.bD [])] .mv] [0,1])
 (.seq
 (.ae [aa 8 0,
 aa 9 1,
 bH 10 8 9 (.aL 421 []),
 aa 5 10] [0,1,5])
 (.seq
 (.seq
 (.ae [aa 11 5,
 a7 12 11 (-1) (.bin .eql)] [0,1,5,12])
 (.cond (.t 12)
 (.seq
 (.ae [aa 13 0,
 aa 4 13] [4])
 .ret)
 .skip))
 (.seq
 (.seq
 (.ae [aa 14 5,
 a7 15 14 1 (.bin .add),
 aa 6 15] [0,1,5,6])
 (.block 0
 g412L0))
 (.seq
 (.ae [aa 36 0,
 aa 37 5,
 aU 38 36 37 (.qe 1 true false),
 jX [.t 38] (.ib 1 [.str []])] [0,5])
 (.seq
 (.ae [aa 39 0,
 aa 40 5,
 aU 41 39 40 (.qe 1 false true),
 aa 4 41] [4])
 .ret)))))),none,true⟩
def g413:aJ:=⟨1,7,[.t 3],
 (.seq
 (.ae [a0 3 F_] [0,1])
 (.seq
 (.ae [aa 4 0,
 ba 5 1 (.a6 1 false),
 aU 6 4 5 (.bin .eql),
 aa 3 6] [3])
 .ret)),none,false⟩
def g414B0:aw:=
 (.seq
 (.ae [aU 13 12 11 (.bin .lss)] [3,10,11,12,13])
 (.seq
 (.cond (.t 13)
 .skip
 (.exit 0))
 (.seq
 (.block 1
 (.seq
 (.ae [aU 14 10 12 (.aC 14),
 aH 15 14 (.aK 14 true),
 bE 5 [aZ,dP,bO,aZ,aZ,dP,aZ,bO,bO,aZ,dP,aZ,aZ,bO],
 aV 5 15 5 0 14] [3,5,10,11,12])
 (.ae [aa 16 3,
 aQ 17 5 3,
 aI 18 17 5 3 11 true,
 aH 19 18 (.aT 11),
 bH 20 16 19 (.append 11 152),
 aa 3 20] [3,10,11,12])))
 (.ae [a7 21 12 1 (.bin .add),
 aa 12 21] [3,10,11,12]))))
def g414L0:aw:=.loop [3,10,11,12] g414B0
theorem g414L0e: cl AP g414L0 st=after (cl AP g414L0) (cl AP g414B0 (norm (restrict [3,10,11,12] st))):=aG
def g414:aJ:=⟨1,23,[.t 2],
 (.seq
 (.ae [ba 1 0 (.box 1 11),
 a8 2 [.c (.bD [])] .mv] [1])
 (.seq
 (.ae [aQ 6 1 4,
 aI 7 6 1 4 1 false,
 ba 8 7 (.clone 11 152),
 aa 3 8] [1,3])
 (.seq
 (.seq
 (.ae [aQ 9 1 5,
 aI 10 9 1 5 1 false,
 aH 11 10 .len,
 a0 12 (k_ 0)] [3,10,11,12])
 (.block 0
 g414L0))
 (.seq
 (.ae [aa 22 3,
 aa 2 22] [2])
 .ret)))),none,false⟩
def g415B0:aw:=
 (.seq
 (.ae [aU 20 19 18 (.bin .lss)] [0,3,4,17,18,19,20])
 (.seq
 (.cond (.t 20)
 .skip
 (.exit 0))
 (.seq
 (.block 1
 (.seq
 (.ae [aU 21 17 19 (.aC 14),
 aH 22 21 (.aK 14 true),
 bE 6 [aZ,dP,bO,aZ,aZ,dP,aZ,bO,bO,aZ,dP,aZ,aZ,bO],
 aV 6 22 6 0 14] [0,3,4,6,17,18,19])
 (.seq
 (.ae [aa 24 0,
 aQ 25 6 1,
 aI 26 25 6 1 1 false,
 bH 27 24 26 (.aA 190),
 aa 23 27,
 aH 28 23 (.ext 0),
 aH 29 23 (.ext 1),
 aH 30 23 (.ext 2),
 aa 7 28,
 aa 8 29,
 aa 9 30] [0,3,4,6,9,17,18,19])
 (.seq
 (.ae [aa 31 9,
 aH 32 31 (.un .not)] [0,3,4,6,17,18,19,32])
 (.cond (.t 32)
 (.seq
 (.ae [aQ 33 6 0,
 aI 34 33 6 0 1 false,
 a8 35 [k_ 9,.t 34] (.build [aZ,aZ] [(0,1),(1,1)]),
 aV 4 35 4 0 2] [4])
 .ret)
 .skip)))))
 (.ae [a7 36 19 1 (.bin .add),
 aa 19 36] [0,3,4,17,18,19]))))
def g415L0:aw:=.loop [0,3,4,17,18,19] g415B0
theorem g415L0e: cl AP g415L0 st=after (cl AP g415L0) (cl AP g415B0 (norm (restrict [0,3,4,17,18,19] st))):=aG
def g415B2:aw:=
 (.seq
 (.ae [aU 78 77 76 (.bin .lss)] [0,4,10,13,50,51,52,75,76,77,78])
 (.seq
 (.cond (.t 78)
 .skip
 (.exit 4))
 (.seq
 (.block 5
 (.seq
 (.ae [aa 79 77,
 aU 80 75 77 (.aC 1),
 aH 81 80 (.aK 1 false),
 aa 14 79,
 aa 15 81] [0,4,10,13,14,15,50,51,52,75,76,77])
 (.seq
 (.ae [aQ 82 13 2,
 aI 83 82 13 2 1 false,
 aa 84 14,
 aU 85 83 84 (.slice false 1 false true false),
 aa 86 15,
 bH 87 85 86 (.aA 214)] [0,4,10,13,50,51,52,75,76,77,87])
 (.cond (.t 87)
 (.seq
 (.ae [aQ 88 13 0,
 aI 89 88 13 0 1 false,
 a8 90 [k_ 6,.t 89] (.build [aZ,aZ] [(0,1),(1,1)]),
 aV 4 90 4 0 2] [4])
 .ret)
 .skip))))
 (.ae [a7 91 77 1 (.bin .add),
 aa 77 91] [0,4,10,13,50,51,52,75,76,77]))))
def g415L2:aw:=.loop [0,4,10,13,50,51,52,75,76,77] g415B2
theorem g415L2e: cl AP g415L2 st=after (cl AP g415L2) (cl AP g415B2 (norm (restrict [0,4,10,13,50,51,52,75,76,77] st))):=aG
def g415B1:aw:=
 (.seq
 (.ae [aU 53 52 51 (.bin .lss)] [0,4,10,50,51,52,53])
 (.seq
 (.cond (.t 53)
 .skip
 (.exit 2))
 (.seq
 (.block 3
 (.seq
 (.ae [aa 54 52,
 aU 55 50 52 (.aC 14),
 aH 56 55 (.aK 14 true),
 bE 13 [aZ,dP,bO,aZ,aZ,dP,aZ,bO,bO,aZ,dP,aZ,aZ,bO],
 aa 12 54,
 aV 13 56 13 0 14] [0,4,10,12,13,50,51,52])
 (.seq
 (.seq
 (.ae [aQ 57 13 2,
 aI 58 57 13 2 1 false,
 aH 59 58 .len,
 aa 60 0,
 aa 61 10,
 aU 62 60 61 (.aC 4),
 aQ 63 62 3,
 aH 64 63 (.aK 1 false),
 aa 65 12,
 aU 66 64 65 (.aC 3),
 aQ 67 66 2,
 aH 68 67 (.aK 1 false),
 aH 69 68 .len,
 aU 70 59 69 (.bin .neq)] [0,4,10,13,50,51,52,70])
 (.cond (.t 70)
 (.seq
 (.ae [aQ 71 13 0,
 aI 72 71 13 0 1 false,
 a8 73 [k_ 8,.t 72] (.build [aZ,aZ] [(0,1),(1,1)]),
 aV 4 73 4 0 2] [4])
 .ret)
 .skip))
 (.seq
 (.ae [aQ 74 13 2,
 aI 75 74 13 2 1 false,
 aH 76 75 .len,
 a0 77 (k_ 0)] [0,4,10,13,50,51,52,75,76,77])
 (.block 4
 g415L2)))))
 (.ae [a7 92 52 1 (.bin .add),
 aa 52 92] [0,4,10,50,51,52]))))
def g415L1:aw:=.loop [0,4,10,50,51,52] g415B1
theorem g415L1e: cl AP g415L1 st=after (cl AP g415L1) (cl AP g415B1 (norm (restrict [0,4,10,50,51,52] st))):=aG
def g415:aJ:=⟨2,94,[.c 4 2 true],
 (.seq
 (.ae [ba 3 1 (.box 3 11),
 bE 4 [aZ,aZ]] [0,3,4])
 (.seq
 (.seq
 (.ae [aQ 16 3 5,
 aI 17 16 3 5 1 false,
 aH 18 17 .len,
 a0 19 (k_ 0)] [0,3,4,17,18,19])
 (.block 0
 g415L0))
 (.seq
 (.ae [aa 38 0,
 aQ 39 3 5,
 aI 40 39 3 5 1 false,
 bH 41 38 40 (.aA 407),
 aa 37 41,
 aH 42 37 (.ext 0),
 aH 43 37 (.ext 1),
 aa 10 42,
 aa 11 43] [0,3,4,10,11])
 (.seq
 (.seq
 (.ae [aa 44 11,
 aH 45 44 (.un .not)] [0,3,4,10,45])
 (.cond (.t 45)
 (.seq
 (.ae [aQ 46 3 1,
 aI 47 46 3 1 1 false,
 a8 48 [k_ 10,.t 47] (.build [aZ,aZ] [(0,1),(1,1)]),
 aV 4 48 4 0 2] [4])
 .ret)
 .skip))
 (.seq
 (.seq
 (.ae [aQ 49 3 5,
 aI 50 49 3 5 1 false,
 aH 51 50 .len,
 a0 52 (k_ 0)] [0,4,10,50,51,52])
 (.block 2
 g415L1))
 (.seq
 (.ae [a8 93 [] (.build [aZ,aZ] []),
 aV 4 93 4 0 2] [4])
 .ret)))))),none,false⟩
def g416B0:aw:=
 (.seq
 (.ae [aU 9 8 7 (.bin .lss)] [0,1,7,8,9])
 (.seq
 (.cond (.t 9)
 .skip
 (.exit 0))
 (.seq
 (.block 1
 (.seq
 (.ae [aa 10 8,
 aa 5 10] [0,1,5,7,8])
 (.seq
 (.ae [aa 11 1,
 aa 12 0,
 aa 13 5,
 aU 14 12 13 (.aC 4),
 ba 15 14 (.a6 4 true),
 bH 16 11 15 .ff] [0,1,5,7,8,16])
 (.cond (.t 16)
 (.seq
 (.ae [aa 17 5,
 aa 4 17] [4])
 .ret)
 .skip))))
 (.ae [a7 18 8 1 (.bin .add),
 aa 8 18] [0,1,7,8]))))
def g416L0:aw:=.loop [0,1,7,8] g416B0
theorem g416L0e: cl AP g416L0 st=after (cl AP g416L0) (cl AP g416B0 (norm (restrict [0,1,7,8] st))):=aG
def g416:aJ:=⟨2,19,[.t 4],
 (.seq
 (.ae [a0 4 (k_ 0)] [0,1])
 (.seq
 (.seq
 (.ae [aa 6 0,
 aH 7 6 .len,
 a0 8 (k_ 0)] [0,1,7,8])
 (.block 0
 g416L0))
 (.seq
 (.ae [a0 4 (k_ (-1))] [4])
 .ret))),none,false⟩
def g417:aJ:=⟨1,8,[.t 3],
 (.seq
 (.ae [ba 2 0 (.box 2 4),
 a0 3 F_] [1,2])
 (.seq
 (.ae [aQ 4 2 3,
 aI 5 4 2 3 1 false,
 ba 6 1 (.a6 1 false),
 bB 7 [.t 5,.t 6,.c (.fn 419 [])] (.aL 418 []),
 aa 3 7] [3])
 .ret)),none,false⟩
def g418B0:aw:=
 (.seq
 (.ae [aU 18 17 16 (.bin .lss)] [1,2,15,16,17,18])
 (.seq
 (.cond (.t 18)
 .skip
 (.exit 0))
 (.seq
 (.block 1
 (.seq
 (.ae [aa 19 17,
 aU 20 15 17 (.aC 3),
 ba 21 20 (.a6 3 true),
 bE 8 [aZ,dP,bO],
 aa 7 19,
 aV 8 21 8 0 3] [1,2,7,8,15,16,17])
 (.seq
 (.ae [aa 22 1,
 aa 23 7,
 aU 24 22 23 (.aC 14),
 ba 25 24 (.a6 14 true),
 bE 9 [aZ,dP,bO,aZ,aZ,dP,aZ,bO,bO,aZ,dP,aZ,aZ,bO],
 aV 9 25 9 0 14] [1,2,8,9,15,16,17])
 (.seq
 (.ae [aa 26 2,
 aI 27 8 8 0 3 true,
 aI 28 9 9 0 14 true,
 bB 29 [.t 26,.t 27,.t 28] .ff,
 aH 30 29 (.un .not)] [1,2,15,16,17,30])
 (.cond (.t 30)
 (.seq
 (.ae [a0 6 F_] [6])
 .ret)
 .skip)))))
 (.ae [a7 31 17 1 (.bin .add),
 aa 17 31] [1,2,15,16,17]))))
def g418L0:aw:=.loop [1,2,15,16,17] g418B0
theorem g418L0e: cl AP g418L0 st=after (cl AP g418L0) (cl AP g418B0 (norm (restrict [1,2,15,16,17] st))):=aG
def g418:aJ:=⟨3,32,[.t 6],
 (.seq
 (.ae [a0 6 F_] [0,1,2])
 (.seq
 (.seq
 (.ae [aa 10 0,
 aH 11 10 .len,
 aa 12 1,
 aH 13 12 .len,
 aU 14 11 13 (.bin .neq)] [0,1,2,14])
 (.cond (.t 14)
 (.seq
 (.ae [a0 6 F_] [6])
 .ret)
 .skip))
 (.seq
 (.seq
 (.ae [aa 15 0,
 aH 16 15 .len,
 a0 17 (k_ 0)] [1,2,15,16,17])
 (.block 0
 g418L0))
 (.seq
 (.ae [a0 6 T_] [6])
 .ret)))),none,false⟩
def g419:aJ:=⟨2,10,[.t 4],
 (.seq
 (.ae [ba 2 0 (.box 2 3),
 ba 3 1 (.box 3 14),
 a0 4 F_] [2,3])
 (.seq
 (.ae [aQ 5 2 1,
 aI 6 5 2 1 1 false,
 aQ 7 3 1,
 aI 8 7 3 1 1 false,
 aU 9 6 8 (.bin .eql),
 aa 4 9] [4])
 .ret)),none,false⟩
def g421B0:aw:=
 (.seq
 (.ae [aU 9 8 7 (.bin .lss)] [0,1,7,8,9])
 (.seq
 (.cond (.t 9)
 .skip
 (.exit 0))
 (.seq
 (.block 1
 (.seq
 (.ae [aa 10 8,
 aa 5 10] [0,1,5,7,8])
 (.seq
 (.ae [aa 11 1,
 aa 12 0,
 aa 13 5,
 aU 14 12 13 (.aC 1),
 ba 15 14 (.a6 1 false),
 bH 16 11 15 .ff] [0,1,5,7,8,16])
 (.cond (.t 16)
 (.seq
 (.ae [aa 17 5,
 aa 4 17] [4])
 .ret)
 .skip))))
 (.ae [a7 18 8 1 (.bin .add),
 aa 8 18] [0,1,7,8]))))
def g421L0:aw:=.loop [0,1,7,8] g421B0
theorem g421L0e: cl AP g421L0 st=after (cl AP g421L0) (cl AP g421B0 (norm (restrict [0,1,7,8] st))):=aG
def g421:aJ:=⟨2,19,[.t 4],
 (.seq
 (.ae [a0 4 (k_ 0)] [0,1])
 (.seq
 (.seq
 (.ae [aa 6 0,
 aH 7 6 .len,
 a0 8 (k_ 0)] [0,1,7,8])
 (.block 0
 g421L0))
 (.seq
 (.ae [a0 4 (k_ (-1))] [4])
 .ret))),none,false⟩
end
def AP (g:Nat):Option aJ:=match g with
 | 15=>some g15
 | 20=>some g20
 | 22=>some g22
 | 26=>some g26
 | 27=>some g27
 | 32=>some g32
 | 34=>some g34
 | 46=>some g46
 | 48=>some g48
 | 52=>some g52
 | 55=>some g55
 | 56=>some g56
 | 57=>some g57
 | 59=>some g59
 | 62=>some g62
 | 63=>some g63
 | 67=>some g67
 | 68=>some g68
 | 69=>some g69
 | 71=>some g71
 | 72=>some g72
 | 77=>some g77
 | 78=>some g78
 | 79=>some g79
 | 95=>some g95
 | 96=>some g96
 | 97=>some g97
 | 98=>some g98
 | 99=>some g99
 | 106=>some g106
 | 108=>some g108
 | 109=>some g109
 | 110=>some g110
 | 111=>some g111
 | 112=>some g112
 | 116=>some g116
 | 117=>some g117
 | 118=>some g118
 | 119=>some g119
 | 120=>some g120
 | 121=>some g121
 | 122=>some g122
 | 123=>some g123
 | 124=>some g124
 | 125=>some g125
 | 126=>some g126
 | 127=>some g127
 | 128=>some g128
 | 129=>some g129
 | 130=>some g130
 | 131=>some g131
 | 132=>some g132
 | 133=>some g133
 | 134=>some g134
 | 135=>some g135
 | 136=>some g136
 | 137=>some g137
 | 138=>some g138
 | 139=>some g139
 | 140=>some g140
 | 141=>some g141
 | 142=>some g142
 | 143=>some g143
 | 144=>some g144
 | 145=>some g145
 | 146=>some g146
 | 162=>some g162
 | 175=>some g175
 | 176=>some g176
 | 179=>some g179
 | 181=>some g181
 | 185=>some g185
 | 186=>some g186
 | 188=>some g188
 | 189=>some g189
 | 190=>some g190
 | 191=>some g191
 | 193=>some g193
 | 194=>some g194
 | 195=>some g195
 | 196=>some g196
 | 198=>some g198
 | 201=>some g201
 | 207=>some g207
 | 208=>some g208
 | 214=>some g214
 | 215=>some g215
 | 216=>some g216
 | 217=>some g217
 | 221=>some g221
 | 222=>some g222
 | 223=>some g223
 | 238=>some g238
 | 240=>some g240
 | 247=>some g247
 | 250=>some g250
 | 306=>some g306
 | 307=>some g307
 | 310=>some g310
 | 325=>some g325
 | 326=>some g326
 | 327=>some g327
 | 335=>some g335
 | 348=>some g348
 | 349=>some g349
 | 350=>some g350
 | 351=>some g351
 | 352=>some g352
 | 353=>some g353
 | 355=>some g355
 | 358=>some g358
 | 359=>some g359
 | 361=>some g361
 | 362=>some g362
 | 363=>some g363
 | 364=>some g364
 | 365=>some g365
 | 366=>some g366
 | 371=>some g371
 | 372=>some g372
 | 373=>some g373
 | 374=>some g374
 | 375=>some g375
 | 376=>some g376
 | 377=>some g377
 | 378=>some g378
 | 379=>some g379
 | 380=>some g380
 | 381=>some g381
 | 385=>some g385
 | 386=>some g386
 | 387=>some g387
 | 388=>some g388
 | 389=>some g389
 | 390=>some g390
 | 391=>some g391
 | 392=>some g392
 | 393=>some g393
 | 394=>some g394
 | 395=>some g395
 | 396=>some g396
 | 397=>some g397
 | 398=>some g398
 | 399=>some g399
 | 400=>some g400
 | 401=>some g401
 | 402=>some g402
 | 403=>some g403
 | 404=>some g404
 | 405=>some g405
 | 406=>some g406
 | 407=>some g407
 | 408=>some g408
 | 409=>some g409
 | 410=>some g410
 | 411=>some g411
 | 412=>some g412
 | 413=>some g413
 | 414=>some g414
 | 415=>some g415
 | 416=>some g416
 | 417=>some g417
 | 418=>some g418
 | 419=>some g419
 | 421=>some g421
 | _=>none
end Go.Ab
